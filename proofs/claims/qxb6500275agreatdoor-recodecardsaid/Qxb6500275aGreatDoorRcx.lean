import Derived.Test.Qxb6500275aGreatDoorRows
import Derived.JoinedOf
import Derived.RowKit
set_option maxRecDepth 100000
namespace Go.Proofs.Qxb6500275aGreatDoor
open Go Go.ChangeShapes Go.WideShapes Go.RowKit
theorem recode_named : Tryz.pinned.checked.prog.funcNamed Rows.recodeRow.func = some 6 := by kernel_rfl
theorem recode_joined : joinedFacts Tryz.pinned.checked.prog 6 Tryz.f6 Rows.recodeSpec Rows.recodeRow = true := by kernel_rfl
theorem recode_inst : Tryz.f6.isInstance Tryz.pinned.checked.prog Rows.recodeRow.origin Rows.recodeRow.targs := of_decide_eq_true (by kernel_rfl)
theorem recode_wrap : Tryz.f6.isWrapper Tryz.pinned.checked.prog Rows.recodeRow.wrapper Rows.recodeRow.mainSum := by
  unfold Func.isWrapper; first | (rw [if_pos (by decide +kernel)]; kernel_rfl) | (rw [if_neg (by decide +kernel)]; exact ⟨rfl, rfl⟩)
end Go.Proofs.Qxb6500275aGreatDoor
