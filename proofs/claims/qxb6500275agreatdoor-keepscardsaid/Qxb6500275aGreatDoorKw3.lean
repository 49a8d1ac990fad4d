import Derived.Test.Qxb6500275aGreatDoorRows
import Derived.JoinedOf
import Derived.RowKit
set_option maxRecDepth 100000
namespace Go.Proofs.Qxb6500275aGreatDoor
open Go Go.ChangeShapes Go.WideShapes Go.RowKit
theorem keeps_named : Tryz.pinned.checked.prog.funcNamed Rows.keepsRow.func = some 5 := by kernel_rfl
theorem keeps_joined : joinedFacts Tryz.pinned.checked.prog 5 Tryz.f5 Rows.keepsSpec Rows.keepsRow = true := by kernel_rfl
theorem keeps_inst : Tryz.f5.isInstance Tryz.pinned.checked.prog Rows.keepsRow.origin Rows.keepsRow.targs := of_decide_eq_true (by kernel_rfl)
theorem keeps_wrap : Tryz.f5.isWrapper Tryz.pinned.checked.prog Rows.keepsRow.wrapper Rows.keepsRow.mainSum := by
  unfold Func.isWrapper; first | (rw [if_pos (by decide +kernel)]; kernel_rfl) | (rw [if_neg (by decide +kernel)]; exact ⟨rfl, rfl⟩)
end Go.Proofs.Qxb6500275aGreatDoor
