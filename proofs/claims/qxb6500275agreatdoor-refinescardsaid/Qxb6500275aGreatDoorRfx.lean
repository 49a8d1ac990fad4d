import Derived.Test.Qxb6500275aGreatDoorRows
import Derived.JoinedOf
import Derived.RowKit
set_option maxRecDepth 100000
namespace Go.Proofs.Qxb6500275aGreatDoor
open Go Go.ChangeShapes Go.WideShapes Go.RowKit
theorem refines_named : Tryz.pinned.checked.prog.funcNamed Rows.refinesRow.func = some 3 := by kernel_rfl
theorem refines_joined : joinedFacts Tryz.pinned.checked.prog 3 Tryz.f3 Rows.refinesSpec Rows.refinesRow = true := by kernel_rfl
theorem refines_inst : Tryz.f3.isInstance Tryz.pinned.checked.prog Rows.refinesRow.origin Rows.refinesRow.targs := of_decide_eq_true (by kernel_rfl)
theorem refines_wrap : Tryz.f3.isWrapper Tryz.pinned.checked.prog Rows.refinesRow.wrapper Rows.refinesRow.mainSum := by
  unfold Func.isWrapper; first | (rw [if_pos (by decide +kernel)]; kernel_rfl) | (rw [if_neg (by decide +kernel)]; exact ⟨rfl, rfl⟩)
end Go.Proofs.Qxb6500275aGreatDoor
