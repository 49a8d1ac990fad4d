import Derived.Test.Qxb6500275aGreatDoorHk1
import Derived.Test.Qxb6500275aGreatDoorMck
import Derived.Test.Qxb6500275aGreatDoorMc2
import Derived.Test.Qxb6500275aGreatDoorBin1
import Derived.Test.Qxb6500275aGreatDoorVc4
set_option maxRecDepth 100000
set_option linter.unusedVariables false
set_option linter.unusedSimpArgs false
namespace Go.Proofs.Qxb6500275aGreatDoor
open Go Go.RowKit
section
variable {num : NumF} {w w' : World} {X : Mx} {O : Nat → Prop} {st : Ma} {T : Nat → Prop} {V : Vm} {S : Sm} {H : Hm}
theorem Kn.keep {P : Nat → Prop} (h : Kn w) (hk : Kp P w w') (hp : ¬ P 0) : Kn w' := fun q hq => by
  have h0 := h q hq
  rw [hk.cell (p := ⟨0, q, none⟩) (lt_of_cell h0) hp]
  exact h0
theorem Xb.c5 (h : Xb w X T V S H) : w.cell? ⟨X.xb, 0, none⟩ = some (.pointer (some ⟨X.db, 0, none⟩)) ∧ w.cell? ⟨X.xb, 1, none⟩ = some (.pointer (some ⟨X.vb, 0, none⟩)) ∧ w.cell? ⟨X.xb, 2, none⟩ = some (.pointer (some ⟨X.pb, 0, none⟩)) ∧ w.cell? ⟨X.xb, 3, none⟩ = some (.pointer (some ⟨X.sb, 0, none⟩)) ∧ w.cell? ⟨X.xb, 4, none⟩ = some (.pointer (some ⟨X.hb, 0, none⟩)) := by
  obtain ⟨F, x1, x2⟩ := h.x
  exact ⟨by rw [x1.cell (by decide), x2.f0], by rw [x1.cell (by decide), x2.f1], by rw [x1.cell (by decide), x2.f2], by rw [x1.cell (by decide), x2.f3], by rw [x1.cell (by decide), x2.f4]⟩
theorem Xb.qt (hA : Ax X) (h : Xb w X T V S H) (hk : Kp (fun _ => False) w w') : Xb w' X T V S H := h.keep hA hk (fun _ _ _ h => h) (fun _ _ h => h)
set_option maxHeartbeats 8000000 in
theorem lower_calls (hkn : Kn w) (hA : Ax X) (h : Xb w X T V S H) (hS : SmOk S) (hO : HmOk H) : Calls Tryz.prog 82 #[.pointer (some ⟨X.xb, 0, none⟩)] w (fun en w' => en = .returned (.bool true) ∧ Kp (fun _ => False) w w') := by
  obtain ⟨c0, -, -, -, -⟩ := h.c5
  have HX : Hid _ := h
  have HA : Hid _ := hA
  have HKN : Hid (Kn w) := hkn
  obtain ⟨ty, hbt⟩ := h.bt
  have hcb := bcheck_calls hbt
  clear h hbt hkn
  go_enter Tryz.func82, Tryz.ntmps82
  go_wp2_with fail
  refine hcb.mono ?_
  rintro en w1 ⟨rfl, k1⟩
  have HK1 : Hid (Kp (fun _ => False) w w1) := k1
  have HX1 : Hid (Xb w1 X T V S H) := HX.out.qt HA.out k1
  obtain ⟨-, c1, -, -, -⟩ := HX1.out.c5
  obtain ⟨v, hv1, hv2⟩ := HX1.out.vd
  have hcv := vcheck_calls hv1 hv2
  clear hcb k1 c0 hv1 hv2
  go_wp2_with fail
  refine hcv.mono ?_
  rintro en w2 ⟨rfl, m2, rfl⟩
  have hk2 : Kp (fun _ => False) w1 (w1.drewN m2) := (Kp.refl _ _).drewM m2
  have HK2 : Hid (Kp (fun _ => False) w (w1.drewN m2)) := HK1.out.trans hk2
  have HX2 : Hid (Xb (w1.drewN m2) X T V S H) := HX1.out.qt HA.out hk2
  generalize w1.drewN m2 = w2 at HK2 HX2 hk2 ⊢
  obtain ⟨-, -, c2, -, -⟩ := HX2.out.c5
  obtain ⟨n, hp⟩ := HX2.out.pr
  have hcp := pcheck_calls hp
  clear hcv hk2 c1 hp HX1 HK1
  go_wp2_with fail
  refine hcp.mono ?_
  rintro en w3 ⟨rfl, k3⟩
  have HK3 : Hid (Kp (fun _ => False) w w3) := HK2.out.trans k3
  have HX3 : Hid (Xb w3 X T V S H) := HX2.out.qt HA.out k3
  obtain ⟨-, -, -, c3, -⟩ := HX3.out.c5
  have hcm := mcheck_calls HX3.out.mm hS
  clear hcp k3 c2 HX2 HK2
  go_wp2_with fail
  refine hcm.mono ?_
  rintro en w4 ⟨rfl, k4⟩
  have HK4 : Hid (Kp (fun _ => False) w w4) := HK3.out.trans k4
  have HX4 : Hid (Xb w4 X T V S H) := HX3.out.qt HA.out k4
  obtain ⟨-, -, -, -, c4⟩ := HX4.out.c5
  have hch := hcheck_calls (HKN.out.keep HK4.out (fun h => h)) HX4.out.hw hO
  clear hcm k4 c3 HX3 HK3
  go_wp2_with fail
  refine hch.mono ?_
  rintro en w5 ⟨rfl, k5⟩
  go_wp2_with fail
  refine bodyPost_ret (v := .bool true) (by simp [results, Tryz.results82, go_sem]) rfl ?_
  exact ⟨rfl, HK4.out.trans k5⟩
end
end Go.Proofs.Qxb6500275aGreatDoor
