import Derived.Test.Qxb6500275aGreatDoorVb3
set_option maxRecDepth 1000000
set_option linter.unusedVariables false
set_option linter.unusedSimpArgs false
namespace Go.Proofs.Qxb6500275aGreatDoor
open Go Go.RowKit
section
variable {w w1 : World} {vb mb fk fo : Nat} {M : Mod} {fn : Fn} {params : ByteArray} {pc : Nat} {v : VS} {x : Ins} {f : VF} {r : List VF}
theorem Vd.bot (h : Vd w1 vb v) (hc : v.ctl ≠ []) : w1.cell? ⟨vb, 13, none⟩ = some (.int .u8 (v.ctl.getLastD VF.zero).res) := by
  obtain ⟨F, h1, hl⟩ := h.is
  obtain ⟨g, hg⟩ : ∃ g, v.ctl.getLast? = some g := by
    cases hh : v.ctl.getLast? with
    | none => exact absurd (List.getLast?_eq_none_iff.1 hh) hc
    | some g => exact ⟨g, rfl⟩
  have h2 := hl.cC 0 g (by rw [← List.head?_eq_getElem?, List.head?_reverse]; exact hg)
  rw [h1.cell (by decide), List.getLastD_eq_getLast?, hg]
  exact congrArg some h2.2.1
theorem VI.botRes (h : VI v) (hc : v.ctl ≠ []) : (v.ctl.getLastD VF.zero).res < 256 := by
  cases hh : v.ctl.getLast? with
  | none => exact absurd (List.getLast?_eq_none_iff.1 hh) hc
  | some g =>
    rw [List.getLastD_eq_getLast?, hh]
    have := (h.ctl g (List.mem_of_getLast? hh)).2
    unfold resOk isVal at this
    show g.res < 256
    omega
theorem labelV_lt (h : VI v) (l : Nat) (hl : l < v.ctl.length) : labelV v l < 256 := by
  unfold labelV
  split
  · decide
  · rw [List.getD_eq_getElem?_getD, List.getElem?_eq_getElem hl]
    have := (h.ctl v.ctl[l] (List.getElem_mem hl)).2
    unfold resOk isVal at this
    show v.ctl[l].res < 256
    omega
set_option maxHeartbeats 8000000 in
theorem c84_ret (ho : x.op = 15) : Case84 w vb mb fk fo M fn params pc v x := by
  intro wr c u Q hB hI hcn hF hX hx hps hu hN hR
  obtain ⟨kb, nb, f, r, hd⟩ := rd84 hB hI hcn hF hX hx
  have HI : Hid _ := hI
  obtain ⟨c1, c2, d0, d1, d2, hpn, hnb2, hnb, hkl, hfl, hctl, hw, hA, hxr, hyr, hfr⟩ := hd
  have HN : Hid (Next84 w vb mb fk fo M fn params pc c (stepV M fn params pc v x) Q) := hN
  have HR : Hid (Home84 w vb mb fk fo M fn (stepV M fn params pc v x) Q) := hR
  have HA : Hid _ := hA
  have HW : Hid _ := hw
  have HC : Hid _ := hctl
  have HNB : Hid _ := hnb
  clear hB hI hcn hF hX hx hN hR hnb hw hctl hA
  obtain ⟨S, hS⟩ : ∃ S, stepV M fn params pc v x = S := ⟨_, rfl⟩
  have HS : Hid (S = if (carryV v (v.ctl.getLastD VF.zero).res).2 = true then (cutV (carryV v (v.ctl.getLastD VF.zero).res).1, none) else ((carryV v (v.ctl.getLastD VF.zero).res).1, some (pc, 27))) := by
    show _ = _
    rw [← hS]
    unfold stepV
    rw [if_neg (by omega), if_neg (by omega), if_neg (by omega), if_neg (by omega), if_neg (by omega), if_neg (by omega), if_neg (by omega), if_neg (by omega), if_neg (by omega), if_pos ho]
  rw [hS] at HN HR
  obtain ⟨op, X1, Y1⟩ := x
  dsimp only at ho d0 d1 d2 hxr hyr HS HA
  subst ho
  obtain ⟨X1, rfl⟩ := Int.eq_ofNat_of_zero_le hxr.1
  try rw [Int.toNat_natCast] at HS
  clear hS
  have hvl : vb < wr.heap.size := by
    have h1 := HA.out.sv.lt
    have h2 := HA.out.fn.le
    omega
  have x1 : (wr.alloc (.cells #[.int .u8 15, .int .u32 (X1 : Int), .int .u64 Y1] 129)).cell? ⟨wr.heap.size, 1, none⟩ = some (.int .u32 (X1 : Int)) := by rw [World.cell?_alloc_at _ _ _ _ rfl]; rfl
  have HX1 : Hid _ := x1
  obtain ⟨b11, g11, b40, g40, lO, lC⟩ := HA.out.sv.vd.n
  rw [World.cell?_alloc_past _ _ _ hvl] at b11 b40
  rw [World.frozen?_alloc_past _ _ _ hvl] at g11 g40
  obtain ⟨d, hd⟩ : ∃ d, v.ctl.length = d := ⟨_, rfl⟩
  rw [hd] at b40 lC
  try rw [hd] at HS
  have HD : Hid _ := hd
  clear hd x1
  have hcn : v.ctl ≠ [] := by rw [HC.out]; simp
  have hb13 := HA.out.sv.vd.bot hcn
  rw [World.cell?_alloc_past _ _ _ hvl] at hb13
  have hbr := HI.out.botRes hcn
  generalize (v.ctl.getLastD VF.zero).res = rs at *
  have hw1 := HW.out.carry rs
  have hcc := fun (w' : World) (hv : Vd w' vb v) => carryW hv HW.out rs hbr
  generalize carryV v rs = q at *
  obtain ⟨v1, b1⟩ := q
  dsimp only at hw1 hcc HS
  clear hcn
  unfold fr84
  rw [hu]
  conv => arg 2; whnf
  go_wp2_with fail
  refine (hcc _ HA.out.sv.vd).mono ?_
  rintro en w2 ⟨rfl, hv2, hk2⟩
  have HA2 : Hid _ := HA.out.step hk2 hv2
  clear hcc hv2 hk2
  cases b1 with
  | false =>
    rw [if_neg (by decide)] at HS
    go_wp2
    exact HR.out _ _ v1 pc 27 HS.out rfl rfl HA2.out
  | true =>
    rw [if_pos rfl] at HS
    go_wp2_with fail
    refine (cutW HA2.out.sv.vd hw1).mono ?_
    rintro en w3 ⟨rfl, hv3, hk3⟩
    go_wp2
    exact HN.out _ _ _ HS.out (by kernel_rfl) rfl (HA2.out.step hk3 hv3)
set_option maxHeartbeats 8000000 in
theorem c84_br (ho : x.op = 12) : Case84 w vb mb fk fo M fn params pc v x := by
  intro wr c u Q hB hI hcn hF hX hx hps hu hN hR
  obtain ⟨kb, nb, f, r, hd⟩ := rd84 hB hI hcn hF hX hx
  have HI : Hid _ := hI
  obtain ⟨c1, c2, d0, d1, d2, hpn, hnb2, hnb, hkl, hfl, hctl, hw, hA, hxr, hyr, hfr⟩ := hd
  have HN : Hid (Next84 w vb mb fk fo M fn params pc c (stepV M fn params pc v x) Q) := hN
  have HR : Hid (Home84 w vb mb fk fo M fn (stepV M fn params pc v x) Q) := hR
  have HA : Hid _ := hA
  have HW : Hid _ := hw
  have HC : Hid _ := hctl
  have HNB : Hid _ := hnb
  clear hB hI hcn hF hX hx hN hR hnb hw hctl hA
  obtain ⟨S, hS⟩ : ∃ S, stepV M fn params pc v x = S := ⟨_, rfl⟩
  have HS : Hid (S = if (v.ctl.length : Int) ≤ x.x then (v, some (pc, 25)) else if (carryV v (labelV v x.x.toNat)).2 = true then (cutV (carryV v (labelV v x.x.toNat)).1, none) else ((carryV v (labelV v x.x.toNat)).1, some (pc, 27))) := by
    show _ = _
    rw [← hS]
    unfold stepV
    rw [if_neg (by omega), if_neg (by omega), if_neg (by omega), if_neg (by omega), if_neg (by omega), if_neg (by omega), if_pos ho]
  rw [hS] at HN HR
  obtain ⟨op, X1, Y1⟩ := x
  dsimp only at ho d0 d1 d2 hxr hyr HS HA
  subst ho
  obtain ⟨X1, rfl⟩ := Int.eq_ofNat_of_zero_le hxr.1
  try rw [Int.toNat_natCast] at HS
  clear hS
  have hvl : vb < wr.heap.size := by
    have h1 := HA.out.sv.lt
    have h2 := HA.out.fn.le
    omega
  have x1 : (wr.alloc (.cells #[.int .u8 12, .int .u32 (X1 : Int), .int .u64 Y1] 129)).cell? ⟨wr.heap.size, 1, none⟩ = some (.int .u32 (X1 : Int)) := by rw [World.cell?_alloc_at _ _ _ _ rfl]; rfl
  have HX1 : Hid _ := x1
  obtain ⟨b11, g11, b40, g40, lO, lC⟩ := HA.out.sv.vd.n
  rw [World.cell?_alloc_past _ _ _ hvl] at b11 b40
  rw [World.frozen?_alloc_past _ _ _ hvl] at g11 g40
  obtain ⟨d, hd⟩ : ∃ d, v.ctl.length = d := ⟨_, rfl⟩
  rw [hd] at b40 lC
  try rw [hd] at HS
  have HD : Hid _ := hd
  clear hd x1
  by_cases hX : d ≤ X1
  · rw [if_pos (by omega)] at HS
    have i1 : (d : Int) ≤ (X1 : Int) := by omega
    unfold fr84
    rw [hu]
    conv => arg 2; whnf
    go_wp2_with fail
    go_quiet (fail)
    go_wp2
    exact HR.out _ _ v pc 25 HS.out rfl rfl (HA.out.new ((Kp.refl _ _).drewM _))
  · rw [if_neg (by omega)] at HS
    have i1 : decide ((d : Int) ≤ (X1 : Int)) = false := decide_eq_false (by omega)
    have hXd : X1 < v.ctl.length := by rw [HD.out]; omega
    have hlb := labelV_lt HI.out X1 hXd
    have hlc := fun (w' : World) (hv : Vd w' vb v) => label_calls hv X1 hXd
    generalize labelV v X1 = t at *
    have hw1 := HW.out.carry t
    have hcc := fun (w' : World) (hv : Vd w' vb v) => carryW hv HW.out t hlb
    generalize carryV v t = q at *
    obtain ⟨v1, b1⟩ := q
    dsimp only at hw1 hcc HS
    clear hXd
    unfold fr84
    rw [hu]
    conv => arg 2; whnf
    go_wp2_with fail
    go_quiet (fail)
    go_wp2_with fail
    refine (hlc _ (HA.out.new ((Kp.refl _ _).drewM _)).sv.vd).mono ?_
    rintro en w2 ⟨rfl, hv2, hk2⟩
    have HA2 : Hid _ := (HA.out.new ((Kp.refl _ _).drewM _)).step hk2 hv2
    clear hlc hv2 hk2
    go_wp2_with fail
    refine (hcc _ HA2.out.sv.vd).mono ?_
    rintro en w3 ⟨rfl, hv3, hk3⟩
    have HA3 : Hid _ := HA2.out.step hk3 hv3
    clear hcc hv3 hk3
    cases b1 with
    | false =>
      rw [if_neg (by decide)] at HS
      go_wp2
      exact HR.out _ _ v1 pc 27 HS.out rfl rfl HA3.out
    | true =>
      rw [if_pos rfl] at HS
      go_wp2_with fail
      refine (cutW HA3.out.sv.vd hw1).mono ?_
      rintro en w4 ⟨rfl, hv4, hk4⟩
      go_wp2
      exact HN.out _ _ _ HS.out (by kernel_rfl) rfl (HA3.out.step hk4 hv4)
set_option maxHeartbeats 8000000 in
theorem c84_brif (ho : x.op = 13) : Case84 w vb mb fk fo M fn params pc v x := by
  intro wr c u Q hB hI hcn hF hX hx hps hu hN hR
  obtain ⟨kb, nb, f, r, hd⟩ := rd84 hB hI hcn hF hX hx
  have HI : Hid _ := hI
  obtain ⟨c1, c2, d0, d1, d2, hpn, hnb2, hnb, hkl, hfl, hctl, hw, hA, hxr, hyr, hfr⟩ := hd
  have HN : Hid (Next84 w vb mb fk fo M fn params pc c (stepV M fn params pc v x) Q) := hN
  have HR : Hid (Home84 w vb mb fk fo M fn (stepV M fn params pc v x) Q) := hR
  have HA : Hid _ := hA
  have HW : Hid _ := hw
  have HC : Hid _ := hctl
  have HNB : Hid _ := hnb
  clear hB hI hcn hF hX hx hN hR hnb hw hctl hA
  obtain ⟨S, hS⟩ : ∃ S, stepV M fn params pc v x = S := ⟨_, rfl⟩
  have HS : Hid (S = if (carryV v 127).2 = true then (if ((carryV v 127).1.ctl.length : Int) ≤ x.x then ((carryV v 127).1, some (pc, 25)) else if (carryV (carryV v 127).1 (labelV (carryV v 127).1 x.x.toNat)).2 = true then giveV pc ((carryV (carryV v 127).1 (labelV (carryV v 127).1 x.x.toNat)).1, labelV (carryV v 127).1 x.x.toNat, 0) else ((carryV (carryV v 127).1 (labelV (carryV v 127).1 x.x.toNat)).1, some (pc, 27))) else ((carryV v 127).1, some (pc, 27))) := by
    show _ = _
    rw [← hS]
    unfold stepV
    rw [if_neg (by omega), if_neg (by omega), if_neg (by omega), if_neg (by omega), if_neg (by omega), if_neg (by omega), if_neg (by omega), if_pos ho]
  rw [hS] at HN HR
  obtain ⟨op, X1, Y1⟩ := x
  dsimp only at ho d0 d1 d2 hxr hyr HS HA
  subst ho
  obtain ⟨X1, rfl⟩ := Int.eq_ofNat_of_zero_le hxr.1
  try rw [Int.toNat_natCast] at HS
  clear hS
  have hvl : vb < wr.heap.size := by
    have h1 := HA.out.sv.lt
    have h2 := HA.out.fn.le
    omega
  have x1 : (wr.alloc (.cells #[.int .u8 13, .int .u32 (X1 : Int), .int .u64 Y1] 129)).cell? ⟨wr.heap.size, 1, none⟩ = some (.int .u32 (X1 : Int)) := by rw [World.cell?_alloc_at _ _ _ _ rfl]; rfl
  have HX1 : Hid _ := x1
  obtain ⟨b11, g11, b40, g40, lO, lC⟩ := HA.out.sv.vd.n
  rw [World.cell?_alloc_past _ _ _ hvl] at b11 b40
  rw [World.frozen?_alloc_past _ _ _ hvl] at g11 g40
  obtain ⟨d, hd⟩ : ∃ d, v.ctl.length = d := ⟨_, rfl⟩
  rw [hd] at b40 lC
  try rw [hd] at HS
  have HD : Hid _ := hd
  clear hd x1
  have hcn : v.ctl ≠ [] := by rw [HC.out]; simp
  have hw1 := HW.out.carry 127
  have hI1 := HI.out.carry hcn 127
  have hcc := fun (w' : World) (hv : Vd w' vb v) => carryW hv HW.out 127 (by decide)
  generalize carryV v 127 = q at *
  obtain ⟨v1, b1⟩ := q
  dsimp only at hw1 hcc HS hI1
  clear hcn
  unfold fr84
  rw [hu]
  conv => arg 2; whnf
  go_wp2_with fail
  refine (hcc _ HA.out.sv.vd).mono ?_
  rintro en w2 ⟨rfl, hv2, hk2⟩
  have HA2 : Hid _ := HA.out.step hk2 hv2
  have x1 : w2.cell? ⟨wr.heap.size, 1, none⟩ = some (.int .u32 (X1 : Int)) := by
    rw [hk2.cell (p := ⟨wr.heap.size, 1, none⟩) (by simp) (by show ¬ wr.heap.size = vb; omega)]
    exact HX1.out
  clear hcc hv2 hk2 b11 g11 b40 g40
  cases b1 with
  | false =>
    rw [if_neg (by decide)] at HS
    go_wp2
    exact HR.out _ _ v1 pc 27 HS.out rfl rfl HA2.out
  | true =>
    rw [if_pos rfl] at HS
    obtain ⟨b11, g11, b40, g40, lO2, lC2⟩ := HA2.out.sv.vd.n
    have hcl : v1.ctl.length = d := by rw [hI1.2]; exact HD.out
    rw [hcl] at b40 HS
    have HCL : Hid _ := hcl
    have HI1 : Hid _ := hI1.1
    clear hI1 hcl
    by_cases hX : d ≤ X1
    · rw [if_pos (by omega)] at HS
      have i1 : (d : Int) ≤ (X1 : Int) := by omega
      go_wp2_with fail
      go_quiet (fail)
      go_wp2
      exact HR.out _ _ v1 pc 25 HS.out rfl rfl (HA2.out.new ((Kp.refl _ _).drewM _))
    · rw [if_neg (by omega)] at HS
      have i1 : decide ((d : Int) ≤ (X1 : Int)) = false := decide_eq_false (by omega)
      have hXd : X1 < v1.ctl.length := by rw [HCL.out]; omega
      have hlb := labelV_lt HI1.out X1 hXd
      have hlc := fun (w' : World) (hv : Vd w' vb v1) => label_calls hv X1 hXd
      generalize labelV v1 X1 = t at *
      have hcc := fun (w' : World) (hv : Vd w' vb v1) => carryW hv hw1 t hlb
      generalize carryV v1 t = q at *
      obtain ⟨v2, b2⟩ := q
      dsimp only at hcc HS
      clear hXd
      go_wp2_with fail
      go_quiet (fail)
      go_wp2_with fail
      refine (hlc _ (HA2.out.new ((Kp.refl _ _).drewM _)).sv.vd).mono ?_
      rintro en w3 ⟨rfl, hv3, hk3⟩
      have HA3 : Hid _ := (HA2.out.new ((Kp.refl _ _).drewM _)).step hk3 hv3
      clear hlc hv3 hk3
      go_wp2_with fail
      refine (hcc _ HA3.out.sv.vd).mono ?_
      rintro en w4 ⟨rfl, hv4, hk4⟩
      have HA4 : Hid _ := HA3.out.step hk4 hv4
      clear hcc hv4 hk4 HA3 HA2 b11 g11 b40 g40 x1
      cases b2 with
      | false =>
        rw [if_neg (by decide)] at HS
        go_wp2
        exact HR.out _ _ v2 pc 27 HS.out rfl rfl HA4.out
      | true =>
        rw [if_pos rfl] at HS
        unfold giveV at HS
        dsimp only at HS
        rw [if_neg (by simp)] at HS
        by_cases ht : t = 64
        · subst ht
          rw [if_pos rfl] at HS
          go_wp2
          exact HN.out _ _ _ HS.out (by kernel_rfl) rfl HA4.out
        · rw [if_neg ht] at HS
          have htb : ((t : Int) != 64) = true := by rw [bne_iff_ne]; omega
          have hcp := fun (w' : World) (hv : Vd w' vb v2) => pushW hv t hlb
          generalize pushV v2 t = q at *
          obtain ⟨v3, b3⟩ := q
          dsimp only at hcp HS
          go_wp2_with fail
          refine (hcp _ HA4.out.sv.vd).mono ?_
          rintro en w5 ⟨rfl, hv5, hk5⟩
          have HA5 : Hid _ := HA4.out.step hk5 hv5
          clear hcp hv5 hk5
          cases b3 with
          | false =>
            rw [if_neg (by decide)] at HS
            go_wp2
            exact HR.out _ _ v3 pc 28 HS.out rfl rfl HA5.out
          | true =>
            rw [if_pos rfl] at HS
            go_wp2
            exact HN.out _ _ _ HS.out (by kernel_rfl) rfl HA5.out
end
end Go.Proofs.Qxb6500275aGreatDoor
