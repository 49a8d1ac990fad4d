import Derived.Test.Qxb6500275aGreatDoorVb4
import Derived.Deep.RegionHeld3
set_option maxRecDepth 1000000
set_option linter.unusedVariables false
set_option linter.unusedSimpArgs false
namespace Go.Proofs.Qxb6500275aGreatDoor
open Go Go.RowKit
section
variable {w w1 : World} {vb mb fk fo : Nat} {M : Mod} {fn : Fn} {params : ByteArray} {pc : Nat} {v : VS} {x : Ins} {f : VF} {r : List VF}
set_option maxHeartbeats 8000000 in
theorem c84_if (ho : x.op = 4) : Case84 w vb mb fk fo M fn params pc v x := by
  intro wr c u Q hB hI hcn hF hX hx hps hu hN hR
  obtain ⟨kb, nb, f, r, hd⟩ := rd84 hB hI hcn hF hX hx
  have HI : Hid _ := hI
  obtain ⟨c1, c2, d0, d1, d2, hpn, hnb2, hnb, hkl, hfl, hctl, hw, hA, hxr, hyr, hfr⟩ := hd
  have HN : Hid (Next84 w vb mb fk fo M fn params pc c (stepV M fn params pc v x) Q) := hN
  have HR : Hid (Home84 w vb mb fk fo M fn (stepV M fn params pc v x) Q) := hR
  have HA : Hid _ := hA
  have HW : Hid _ := hw
  have HC : Hid _ := hctl
  have HNB : Hid _ := hnb
  clear hB hI hcn hF hX hx hN hR hnb hw hctl hA
  obtain ⟨S, hS⟩ : ∃ S, stepV M fn params pc v x = S := ⟨_, rfl⟩
  have HS : Hid (S = if (carryV v 127).2 = true then (if 6 < (carryV v 127).1.ctl.length then ((carryV v 127).1, some (pc + 1, 11)) else (⟨(carryV v 127).1.ops, ⟨4, x.x.toNat % 256, (carryV v 127).1.ops.length, false⟩ :: (carryV v 127).1.ctl⟩, none)) else ((carryV v 127).1, some (pc, 27))) := by
    show _ = _
    rw [← hS]
    unfold stepV
    rw [if_neg (by omega), if_neg (by omega), if_neg (by omega), if_pos ho]
  rw [hS] at HN HR
  obtain ⟨op, X1, Y1⟩ := x
  dsimp only at ho d0 d1 d2 hxr hyr HS HA
  subst ho
  obtain ⟨X1, rfl⟩ := Int.eq_ofNat_of_zero_le hxr.1
  try rw [Int.toNat_natCast] at HS
  clear hS
  have hvl : vb < wr.heap.size := by
    have h1 := HA.out.sv.lt
    have h2 := HA.out.fn.le
    omega
  have x1 : (wr.alloc (.cells #[.int .u8 4, .int .u32 (X1 : Int), .int .u64 Y1] 129)).cell? ⟨wr.heap.size, 1, none⟩ = some (.int .u32 (X1 : Int)) := by rw [World.cell?_alloc_at _ _ _ _ rfl]; rfl
  have HX1 : Hid _ := x1
  obtain ⟨b11, g11, b40, g40, lO, lC⟩ := HA.out.sv.vd.n
  rw [World.cell?_alloc_past _ _ _ hvl] at b11 b40
  rw [World.frozen?_alloc_past _ _ _ hvl] at g11 g40
  obtain ⟨d, hd⟩ : ∃ d, v.ctl.length = d := ⟨_, rfl⟩
  rw [hd] at b40 lC
  try rw [hd] at HS
  have HD : Hid _ := hd
  clear hd x1
  have hcn : v.ctl ≠ [] := by rw [HC.out]; simp
  have hI1 := HI.out.carry hcn 127
  have hcc := fun (w' : World) (hv : Vd w' vb v) => carryW hv HW.out 127 (by decide)
  generalize carryV v 127 = q at *
  obtain ⟨v1, b1⟩ := q
  dsimp only at hcc HS hI1
  clear hcn
  unfold fr84
  rw [hu]
  conv => arg 2; whnf
  go_wp2_with fail
  refine (hcc _ HA.out.sv.vd).mono ?_
  rintro en w2 ⟨rfl, hv2, hk2⟩
  have HA2 : Hid _ := HA.out.step hk2 hv2
  have x1 : w2.cell? ⟨wr.heap.size, 1, none⟩ = some (.int .u32 (X1 : Int)) := by
    rw [hk2.cell (p := ⟨wr.heap.size, 1, none⟩) (by simp) (by show ¬ wr.heap.size = vb; omega)]
    exact HX1.out
  have x0 : w2.cell? ⟨wr.heap.size, 0, none⟩ = some (.int .u8 4) := by
    rw [hk2.cell (p := ⟨wr.heap.size, 0, none⟩) (by simp) (by show ¬ wr.heap.size = vb; omega), World.cell?_alloc_at _ _ _ _ rfl]
    rfl
  clear hcc hv2 hk2 b11 g11 b40 g40
  cases b1 with
  | false =>
    rw [if_neg (by decide)] at HS
    go_wp2
    exact HR.out _ _ v1 pc 27 HS.out rfl rfl HA2.out
  | true =>
    rw [if_pos rfl] at HS
    obtain ⟨b11, g11, b40, g40, lO2, lC2⟩ := HA2.out.sv.vd.n
    have hcl : v1.ctl.length = d := by rw [hI1.2]; exact HD.out
    rw [hcl] at b40 HS
    have HCL : Hid _ := hcl
    clear hI1 hcl
    by_cases h6 : 6 < d
    · rw [if_pos h6] at HS
      go_wp2
      exact HR.out _ _ v1 (pc + 1) 11 HS.out rfl rfl HA2.out
    · rw [if_neg h6] at HS
      obtain ⟨F, hF1, _⟩ := HA2.out.sv.vd.is
      have e0 := hF1 (12 + d * 4) (by omega)
      have e1 := hF1 (12 + d * 4 + 1) (by omega)
      have e2 := hF1 (12 + d * 4 + 2) (by omega)
      have e3 := hF1 (12 + d * 4 + 3) (by omega)
      obtain ⟨e0, z0⟩ := e0
      obtain ⟨e1, z1⟩ := e1
      obtain ⟨e2, z2⟩ := e2
      obtain ⟨e3, z3⟩ := e3
      have hd7 : (d : Int) < 7 := by omega
      have hne : ¬ 12 + d * 4 = 40 := by omega
      clear hF1
      go_wp2_with fail
      have hxv : ¬ wr.heap.size = vb := by omega
      generalize wr.heap.size = xb at *
      clear d0 d1 d2 c1 c2 hkl hfl hvl
      go_still_tail 18, (by kernel_rfl)
      go_wp2
      have hO : Vd _ vb _ := HA2.out.sv.vd.open1 (ops := v1.ops) (ctl := v1.ctl) HCL.out (by omega) 4 (X1 % 256)
      rw [show ((X1 % 256 : Nat) : Int) = (X1 : Int) % 256 by omega] at hO
      exact HN.out _ _ _ HS.out (by kernel_rfl) rfl ((HA2.out.step (((((kself vb w2).put _).put _).put _).put _ |>.put _) hO).new (Kp.refl _ _).drew)
theorem giveV_e {r : VR} {pc : Nat} (h : ¬ r.2.2 = 0) : giveV pc r = (r.1, some (pc, r.2.2)) := if_pos h
set_option maxHeartbeats 8000000 in
theorem c84_plain (ho : ¬ (x.op ≤ 5 ∨ 11 ≤ x.op ∧ x.op ≤ 15)) (hgt : (plainV M params fn.locals v x).2.1 < 256) : Case84 w vb mb fk fo M fn params pc v x := by
  intro wr c u Q hB hI hcn hF hX hx hps hu hN hR
  obtain ⟨kb, nb, f, r, hd⟩ := rd84 hB hI hcn hF hX hx
  obtain ⟨c1, c2, d0, d1, d2, hpn, hnb2, hnb, hkl, hfl, hctl, hw, hA, hxr, hyr, hfr⟩ := hd
  obtain ⟨S, hS⟩ : ∃ S, stepV M fn params pc v x = S := ⟨_, rfl⟩
  have HS : Hid (S = giveV pc (plainV M params fn.locals v x)) := by
    show _ = _
    rw [← hS]
    unfold stepV
    rw [if_neg (by omega), if_neg (by omega), if_neg (by omega), if_neg (by omega), if_neg (by omega), if_neg (by omega), if_neg (by omega), if_neg (by omega), if_neg (by omega), if_neg (by omega)]
  have HN : Hid (Next84 w vb mb fk fo M fn params pc c S Q) := by rw [← hS]; exact hN
  have HR : Hid (Home84 w vb mb fk fo M fn S Q) := by rw [← hS]; exact hR
  have hop := hX.op
  unfold opOk at hop
  have hcc := fun (w' : World) (hs : SV w' vb mb M v) => plain_calls (params := params) (decl := fn.locals) hs hw x hX hps hF.nl ho
  have HA : Hid _ := hA
  have hlt : x.op < 256 := by omega
  clear hB hI hcn hF hX hx hN hR hnb hw hctl hA hS
  unfold PlainC at hcc
  generalize plainV M params fn.locals v x = R at *
  obtain ⟨v1, g1, e1⟩ := R
  unfold encR at hcc
  dsimp only at hcc hgt
  obtain ⟨op, X1, Y1⟩ := x
  unfold Ins.val at hcc
  dsimp only at ho d0 d1 d2 hxr hyr HA hop hlt hcc
  have b0 : ((op : Int) == 0) = false := by rw [beq_eq_false_iff_ne]; omega
  have b1 : ((op : Int) == 1) = false := by rw [beq_eq_false_iff_ne]; omega
  have b2 : ((op : Int) == 2) = false := by rw [beq_eq_false_iff_ne]; omega
  have b3 : ((op : Int) == 3) = false := by rw [beq_eq_false_iff_ne]; omega
  have b4 : ((op : Int) == 4) = false := by rw [beq_eq_false_iff_ne]; omega
  have b5 : ((op : Int) == 5) = false := by rw [beq_eq_false_iff_ne]; omega
  have b11 : ((op : Int) == 11) = false := by rw [beq_eq_false_iff_ne]; omega
  have b12 : ((op : Int) == 12) = false := by rw [beq_eq_false_iff_ne]; omega
  have b13 : ((op : Int) == 13) = false := by rw [beq_eq_false_iff_ne]; omega
  have b14 : ((op : Int) == 14) = false := by rw [beq_eq_false_iff_ne]; omega
  have b15 : ((op : Int) == 15) = false := by rw [beq_eq_false_iff_ne]; omega
  clear hop ho
  unfold fr84
  rw [hu]
  conv => arg 2; whnf
  go_wp2_with fail
  refine wp_region_noPanic ?_
  go_region_with (go_at_call 153; refine (hcc _ (HA.out.new (Kp.refl _ _).drew).sv).mono ?_; rintro en w2 ⟨rfl, hv2, hk2⟩)
  all_goals
    refine NoPanic.normal ?_
    have HA2 : Hid _ := (HA.out.new (Kp.refl _ _).drew).step hk2 hv2
    clear hv2 hk2 hcc d0 d1 d2 c1 c2 b0 b1 b2 b3 b4 b5 b11 b12 b13 b14 b15 HA
    unfold giveV at HS
    dsimp only at HS
    by_cases he : e1 = 0
    · subst he
      rw [if_neg (by simp)] at HS
      by_cases hg : g1 = 64
      · subst hg
        rw [if_pos rfl] at HS
        go_wp2
        exact HN.out _ _ _ HS.out (by kernel_rfl) rfl HA2.out
      · rw [if_neg hg] at HS
        have htb : ((g1 : Int) != 64) = true := by rw [bne_iff_ne]; omega
        have hcp := fun (w' : World) (hv : Vd w' vb v1) => pushW hv g1 hgt
        generalize pushV v1 g1 = q at *
        obtain ⟨v3, b3⟩ := q
        dsimp only at hcp HS
        go_wp2_with fail
        refine (hcp _ HA2.out.sv.vd).mono ?_
        rintro en w5 ⟨rfl, hv5, hk5⟩
        have HA5 : Hid _ := HA2.out.step hk5 hv5
        clear hcp hv5 hk5
        cases b3 with
        | false =>
          rw [if_neg (by decide)] at HS
          go_wp2
          exact HR.out _ _ v3 pc 28 HS.out rfl rfl HA5.out
        | true =>
          rw [if_pos rfl] at HS
          go_wp2
          exact HN.out _ _ _ HS.out (by kernel_rfl) rfl HA5.out
    · rw [if_pos he] at HS
      have heb : (e1 != 0) = true := by rw [bne_iff_ne]; exact he
      go_wp2
      exact HR.out _ _ v1 pc e1 HS.out rfl rfl HA2.out
end
end Go.Proofs.Qxb6500275aGreatDoor
