import Derived.Test.Qxb6500275aGreatDoorEx6
set_option maxRecDepth 100000
set_option linter.unusedVariables false
set_option linter.unusedSimpArgs false
namespace Go.Proofs.Qxb6500275aGreatDoor
open Go Go.RowKit
section
variable {w w' : World} {X : Mx} {T : Nat → Prop} {V V' : Vm} {S S' : Sm} {H H' : Hm} {P : Nat → Prop}
set_option maxHeartbeats 4000000 in
theorem xtape_calls (hA : Ax X) (h : Xb w X T V S H) (hT : ∀ k, T k → X.hi ≤ k) (s : ByteArray) (hs : s.size ≤ 9223372036854775807) : Calls Tryz.prog 15 #[.pointer (some ⟨X.xb, 0, none⟩), .string s] w (fun en w' => en = .returned (.int .i64 ((tapeS H s).1 : Int)) ∧ Kp (fun k => k = X.hb) w w' ∧ Xb w' X T V S (tapeS H s).2) := by
  obtain ⟨F, hc, hF⟩ := h.cell
  obtain ⟨c4, -⟩ := hc 4 (by decide)
  rw [hF.f4] at c4
  have HH : Hid _ := h
  have hcal := tape_calls h.hw s hs
  clear hc hF h
  go_enter Tryz.func15, Tryz.ntmps15
  go_wp2_with fail
  refine hcal.mono ?_
  rintro en w5 ⟨rfl, k5, m5⟩
  go_wp2_with fail
  refine bodyPost_ret (v := .int .i64 ((tapeS H s).1 : Int)) (by simp [results, Tryz.results15, go_sem]) rfl ?_
  exact ⟨rfl, k5, HH.out.host hA hT (k5.mono (fun k hk => .inl hk)) m5⟩
end
end Go.Proofs.Qxb6500275aGreatDoor
