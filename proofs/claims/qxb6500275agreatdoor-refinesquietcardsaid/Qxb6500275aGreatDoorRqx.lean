import Derived.Test.Qxb6500275aGreatDoorRows
import Derived.JoinedOf
import Derived.RowKit
set_option maxRecDepth 100000
namespace Go.Proofs.Qxb6500275aGreatDoor
open Go Go.ChangeShapes Go.WideShapes Go.RowKit
theorem refinesQuiet_named : Tryz.pinned.checked.prog.funcNamed Rows.refinesQuietRow.func = some 4 := by kernel_rfl
theorem refinesQuiet_joined : joinedFacts Tryz.pinned.checked.prog 4 Tryz.f4 Rows.refinesQuietSpec Rows.refinesQuietRow = true := by kernel_rfl
theorem refinesQuiet_inst : Tryz.f4.isInstance Tryz.pinned.checked.prog Rows.refinesQuietRow.origin Rows.refinesQuietRow.targs := of_decide_eq_true (by kernel_rfl)
theorem refinesQuiet_wrap : Tryz.f4.isWrapper Tryz.pinned.checked.prog Rows.refinesQuietRow.wrapper Rows.refinesQuietRow.mainSum := by
  unfold Func.isWrapper; first | (rw [if_pos (by decide +kernel)]; kernel_rfl) | (rw [if_neg (by decide +kernel)]; exact ⟨rfl, rfl⟩)
end Go.Proofs.Qxb6500275aGreatDoor
