import Derived.Test.Qxb6500275aGreatDoorVa4
set_option maxRecDepth 100000
set_option linter.unusedVariables false
set_option linter.unusedSimpArgs false
namespace Go.Proofs.Qxb6500275aGreatDoor
open Go Go.RowKit
set_option maxHeartbeats 8000000 in
theorem numSig_e (op : Nat) (ho : op < 256) (w : World) : Calls Tryz.prog 208 #[.int .i64 op] w (fun en w' => en = .returned (enc3 (numSig op)) ∧ w' = w) := by
  go_enter Tryz.func208, Tryz.ntmps208
  go_wp2
  all_goals
    go_ret3
    go_light
    refine ⟨?_, rfl⟩
    simp only [beq_eq_false_iff_ne, beq_iff_eq, ne_eq] at *
    unfold numSig
    repeat (first | rw [if_pos (by omega)] | rw [if_neg (by omega)])
    rfl
set_option maxHeartbeats 8000000 in
theorem memSig_e (op : Nat) (ho : op < 256) (w : World) : Calls Tryz.prog 256 #[.int .i64 op] w (fun en w' => en = .returned (encM (memSig op)) ∧ w' = w) := by
  go_enter Tryz.func256, Tryz.ntmps256
  go_wp2
  all_goals
    go_ret3
    go_light
    refine ⟨?_, rfl⟩
    simp only [beq_eq_false_iff_ne, beq_iff_eq, ne_eq] at *
    unfold memSig
    repeat (first | rw [if_pos (by omega)] | rw [if_neg (by omega)])
    rfl
end Go.Proofs.Qxb6500275aGreatDoor
