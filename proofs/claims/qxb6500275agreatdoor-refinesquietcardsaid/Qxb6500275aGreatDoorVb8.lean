import Derived.Test.Qxb6500275aGreatDoorVb7
set_option maxRecDepth 1000000
set_option linter.unusedVariables false
set_option linter.unusedSimpArgs false
namespace Go.Proofs.Qxb6500275aGreatDoor
open Go Go.RowKit
section
variable {w w1 : World} {vb mb fk fo : Nat} {M : Mod} {fn : Fn} {params : ByteArray} {pc : Nat} {v : VS} {x : Ins} {f : VF} {r : List VF}
set_option maxHeartbeats 16000000 in
theorem c84_table (ho : x.op = 14) : Case84 w vb mb fk fo M fn params pc v x := by
  intro wr c u Q hB hI hcn hF hX hx hps hu hN hR
  obtain ⟨kb, nb, f, r, hd⟩ := rd84 hB hI hcn hF hX hx
  have HI : Hid _ := hI
  have HF : Hid _ := hF
  obtain ⟨c1, c2, d0, d1, d2, hpn, hnb2, hnb, hkl, hfl, hctl, hw, hA, hxr, hyr, hfr⟩ := hd
  have HN : Hid (Next84 w vb mb fk fo M fn params pc c (stepV M fn params pc v x) Q) := hN
  have HR : Hid (Home84 w vb mb fk fo M fn (stepV M fn params pc v x) Q) := hR
  have HA : Hid _ := hA
  have HW : Hid _ := hw
  have HC : Hid _ := hctl
  have HNB : Hid _ := hnb
  clear hB hI hcn hF hX hx hN hR hnb hw hctl hA
  obtain ⟨S, hS⟩ : ∃ S, stepV M fn params pc v x = S := ⟨_, rfl⟩
  have HS : Hid (S = if (carryV v 127).2 = true then (if x.y < 1 ∨ (fn.tabs.length : Int) < x.y ∨ (fn.tabs.length : Int) - x.y < x.x then ((carryV v 127).1, some (pc, 11)) else if ((carryV v 127).1.ctl.length : Int) ≤ fn.tabs.getD (x.x.toNat + x.y.toNat - 1) 0 then ((carryV v 127).1, some (pc, 25)) else tableV (carryV v 127).1 pc fn.tabs (decide (labelV (carryV v 127).1 (fn.tabs.getD (x.x.toNat + x.y.toNat - 1) 0).toNat = 64)) x.y.toNat x.x.toNat) else ((carryV v 127).1, some (pc, 27))) := by
    show _ = _
    rw [← hS]
    unfold stepV
    rw [if_neg (by omega), if_neg (by omega), if_neg (by omega), if_neg (by omega), if_neg (by omega), if_neg (by omega), if_neg (by omega), if_neg (by omega), if_pos ho]
  rw [hS] at HN HR
  obtain ⟨op, X1, Y1⟩ := x
  dsimp only at ho d0 d1 d2 hxr hyr HS HA
  subst ho
  obtain ⟨X1, rfl⟩ := Int.eq_ofNat_of_zero_le hxr.1
  obtain ⟨Y1, rfl⟩ := Int.eq_ofNat_of_zero_le hyr.1
  simp only [Int.toNat_natCast] at HS
  clear hS
  have hvl : vb < wr.heap.size := by
    have h1 := HA.out.sv.lt
    have h2 := HA.out.fn.le
    omega
  have x1 : (wr.alloc (.cells #[.int .u8 14, .int .u32 (X1 : Int), .int .u64 (Y1 : Int)] 129)).cell? ⟨wr.heap.size, 1, none⟩ = some (.int .u32 (X1 : Int)) := by rw [World.cell?_alloc_at _ _ _ _ rfl]; rfl
  have HX1 : Hid _ := x1
  have x2 : (wr.alloc (.cells #[.int .u8 14, .int .u32 (X1 : Int), .int .u64 (Y1 : Int)] 129)).cell? ⟨wr.heap.size, 2, none⟩ = some (.int .u64 (Y1 : Int)) := by rw [World.cell?_alloc_at _ _ _ _ rfl]; rfl
  have HX2 : Hid _ := x2
  obtain ⟨b11, g11, b40, g40, lO, lC⟩ := HA.out.sv.vd.n
  rw [World.cell?_alloc_past _ _ _ hvl] at b11 b40
  rw [World.frozen?_alloc_past _ _ _ hvl] at g11 g40
  obtain ⟨d, hd⟩ : ∃ d, v.ctl.length = d := ⟨_, rfl⟩
  rw [hd] at b40 lC
  try rw [hd] at HS
  have HD : Hid _ := hd
  clear hd x1 x2
  have hcn : v.ctl ≠ [] := by rw [HC.out]; simp
  have hw1 := HW.out.carry 127
  have hI1 := HI.out.carry hcn 127
  have hcc := fun (w' : World) (hv : Vd w' vb v) => carryW hv HW.out 127 (by decide)
  generalize carryV v 127 = q at *
  obtain ⟨v1, b1⟩ := q
  dsimp only at hw1 hcc HS hI1
  unfold fr84
  rw [hu]
  conv => arg 2; whnf
  go_wp2_with fail
  refine (hcc _ HA.out.sv.vd).mono ?_
  rintro en w2 ⟨rfl, hv2, hk2⟩
  have HA2 : Hid _ := HA.out.step hk2 hv2
  have x1 : w2.cell? ⟨wr.heap.size, 1, none⟩ = some (.int .u32 (X1 : Int)) := by
    rw [hk2.cell (p := ⟨wr.heap.size, 1, none⟩) (by simp) (by show ¬ wr.heap.size = vb; omega)]
    exact HX1.out
  have x2 : w2.cell? ⟨wr.heap.size, 2, none⟩ = some (.int .u64 (Y1 : Int)) := by
    rw [hk2.cell (p := ⟨wr.heap.size, 2, none⟩) (by simp) (by show ¬ wr.heap.size = vb; omega)]
    exact HX2.out
  clear hcc hv2 hk2 b11 g11 b40 g40
  cases b1 with
  | false =>
    rw [if_neg (by decide)] at HS
    go_wp2
    exact HR.out _ _ v1 pc 27 HS.out rfl rfl HA2.out
  | true =>
    rw [if_pos rfl] at HS
    obtain ⟨b11, g11, b40, g40, lO2, lC2⟩ := HA2.out.sv.vd.n
    have hcl : v1.ctl.length = d := by rw [hI1.2]; exact HD.out
    have hcn1 : v1.ctl ≠ [] := by rw [hI1.2]; exact hcn
    have HCN : Hid _ := hcn1
    rw [hcl] at b40 HS
    have HCL : Hid _ := hcl
    have HI1 : Hid _ := hI1.1
    obtain ⟨ba2, ta2, _, _, _, q3, _, tat⟩ := HA2.out.fn.cells
    obtain ⟨nt, hnt⟩ : ∃ nt, fn.tabs.length = nt := ⟨_, rfl⟩
    rw [hnt] at q3 HS
    have hnt2 : nt ≤ 24 := by rw [← hnt]; exact HF.out.nt
    have HTA : Hid _ := tat
    have HNT : Hid _ := hnt
    clear hI1 hcl hcn hcn1 tat hnt
    by_cases k1 : Y1 < 1
    · rw [if_pos (by omega)] at HS
      have i1 : (Y1 : Int) < 1 := by omega
      go_wp2_with fail
      go_quiet (fail)
      go_wp2
      exact HR.out _ _ v1 pc 11 HS.out rfl rfl (HA2.out.new ((Kp.refl _ _).drewM _))
    · have i1 : decide ((Y1 : Int) < 1) = false := decide_eq_false (by omega)
      by_cases k2 : nt < Y1
      · rw [if_pos (by omega)] at HS
        have i2 : (nt : Int) < (Y1 : Int) := by omega
        go_wp2_with fail
        go_quiet (fail)
        go_wp2
        exact HR.out _ _ v1 pc 11 HS.out rfl rfl (HA2.out.new ((Kp.refl _ _).drewM _))
      · have i2 : decide ((nt : Int) < (Y1 : Int)) = false := decide_eq_false (by omega)
        have hY : (Y1 : Int) ≤ 24 := by omega
        have hY0 : (Y1 : Int) ≤ (nt : Int) := by omega
        by_cases k3 : nt - Y1 < X1
        · rw [if_pos (by omega)] at HS
          have i3 : (nt : Int) - (Y1 : Int) < (X1 : Int) := by omega
          go_wp2_with fail
          go_quiet (fail)
          go_wp2
          exact HR.out _ _ v1 pc 11 HS.out rfl rfl (HA2.out.new ((Kp.refl _ _).drewM _))
        · rw [if_neg (by omega)] at HS
          have i3 : decide ((nt : Int) - (Y1 : Int) < (X1 : Int)) = false := decide_eq_false (by omega)
          obtain ⟨L, hL⟩ : ∃ L : Nat, X1 + Y1 = L + 1 := ⟨X1 + Y1 - 1, by omega⟩
          have hL2 : X1 + Y1 - 1 = L := by omega
          simp only [hL2] at HS
          clear hL2
          have hLn : L < nt := by omega
          have hLi : (X1 : Int) + (Y1 : Int) - 1 = (L : Int) := by omega
          have hLb : (L : Int) < (nt : Int) := by omega
          obtain ⟨T, hT⟩ : ∃ T, fn.tabs[L]? = some T := ⟨_, List.getElem?_eq_getElem (by rw [HNT.out]; exact hLn)⟩
          obtain ⟨kt, rfl, ct⟩ := HTA.out L T hT
          have hTr := HF.out.tabs T (List.mem_of_getElem? hT)
          unfold u32R at hTr
          obtain ⟨T, rfl⟩ := Int.eq_ofNat_of_zero_le hTr.1
          have hgd : fn.tabs.getD L 0 = (T : Int) := by rw [List.getD_eq_getElem?_getD, hT]; rfl
          simp only [hgd, Int.toNat_natCast] at HS
          have hX1 : (X1 : Int) < 24 := by omega
          have HL : Hid _ := hL
          clear hT hgd hL
          by_cases hX : d ≤ T
          · rw [if_pos (by omega)] at HS
            have i4 : (d : Int) ≤ (T : Int) := by omega
            go_wp2_with fail
            go_quiet (fail)
            go_wp2_with fail
            go_quiet (fail)
            go_wp2
            exact HR.out _ _ v1 pc 25 HS.out rfl rfl (HA2.out.new (((Kp.refl _ _).drewM _).drewM _))
          · rw [if_neg (by omega)] at HS
            have i4 : decide ((d : Int) ≤ (T : Int)) = false := decide_eq_false (by omega)
            have hXd : T < v1.ctl.length := by rw [HCL.out]; omega
            have hlb := labelV_lt HI1.out T hXd
            have hlc := fun (w' : World) (hv : Vd w' vb v1) => label_calls hv T hXd
            generalize labelV v1 T = t at *
            clear hXd
            go_wp2_with fail
            go_quiet (fail)
            go_wp2_with fail
            go_quiet (fail)
            go_wp2_with fail
            refine (hlc _ (HA2.out.new ((Kp.refl _ _).drewM _)).sv.vd).mono ?_
            rintro en w3 ⟨rfl, hv3, hk3⟩
            have HA3 : Hid _ := (HA2.out.new ((Kp.refl _ _).drewM _)).step hk3 hv3
            have x1' : w3.cell? ⟨wr.heap.size, 1, none⟩ = some (.int .u32 (X1 : Int)) := by
              rw [hk3.cell (p := ⟨wr.heap.size, 1, none⟩) (lt_of_cell x1) (by show ¬ wr.heap.size = vb; omega)]
              exact x1
            clear hlc hv3 hk3 HA2 b11 g11 b40 g40 x1 x2 q3 ct
            go_wp2_with fail
            rw [show Y1 = (Y1 - 1) + 1 by omega] at HS
            refine tb84_loop (c := c) (params := params) HI1.out HCN.out HF.out (by rw [HNT.out]; exact hLn) hlb ?_ ?_ (Tb84.lay (m := Y1 - 1) (i := X1) HA3.out (by kernel_rfl) rfl rfl rfl rfl (by have := HL.out; omega) HS)
            · intro tmps w' v' hS ht h10 hB
              have HSS : Hid _ := hS
              have HBB : Hid _ := hB
              generalize (fun i => tmps.getD i undef) = u' at ht
              subst ht
              have hu' : u' 10 = .int .i64 pc := h10
              clear h10 hS hB x1' HA3 HS hLi hLb hX1 hxr hyr
              simp only [Exit.inBlock, Exit.then]
              rw [if_neg (by decide)]
              rw [if_neg (by decide)]
              rw [if_pos trivial]
              unfold fr84
              rw [hu']
              go_wp2
              exact HN.out _ _ _ HSS.out (by kernel_rfl) rfl HBB.out
            · intro tmps w' v' p e hS h6 h7 hB
              exact HR.out tmps w' v' p e hS h6 h7 hB
end
end Go.Proofs.Qxb6500275aGreatDoor
