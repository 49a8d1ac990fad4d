import Derived.Test.Qxb6500275aGreatDoorRb1
import Derived.Test.Qxb6500275aGreatDoorSp2
set_option maxRecDepth 100000
set_option linter.unusedVariables false
set_option linter.unusedSimpArgs false
namespace Go.Proofs.Qxb6500275aGreatDoor
open Go Go.RowKit
/- instructions, as cells -/
def insC (l : List Ins) : List Value := l.flatMap (fun x => [.int .u8 (x.op : Int), .int .u32 x.x, .int .u64 x.y])
theorem insC_len (l : List Ins) : (insC l).length = l.length * 3 := by
  induction l with
  | nil => rfl
  | cons a r ih => unfold insC at ih ⊢; rw [List.flatMap_cons, List.length_append, ih]; simp; omega
theorem insC_app (a b : List Ins) : insC (a ++ b) = insC a ++ insC b := by unfold insC; rw [List.flatMap_append]
theorem insC_at {l : List Ins} {i : Nat} {v : Ins} (h : l[i]? = some v) : (insC l)[i * 3]? = some (.int .u8 (v.op : Int)) ∧ (insC l)[i * 3 + 1]? = some (.int .u32 v.x) ∧ (insC l)[i * 3 + 2]? = some (.int .u64 v.y) := by
  have hi := (List.getElem?_eq_some_iff.1 h)
  have e : l = l.take i ++ [v] ++ l.drop (i + 1) := by
    have h1 := List.take_append_drop i l
    have h2 : l.drop i = v :: l.drop (i + 1) := by rw [List.drop_eq_getElem_cons hi.1, hi.2]
    rw [h2] at h1
    rw [List.append_assoc]
    exact h1.symm
  have hl : (insC (l.take i)).length = i * 3 := by rw [insC_len, List.length_take, Nat.min_eq_left (by have := hi.1; omega)]
  rw [e, insC_app, insC_app, List.append_assoc]
  refine ⟨?_, ?_, ?_⟩
  · rw [List.getElem?_append_right (by omega), hl, Nat.sub_self]; rfl
  · rw [List.getElem?_append_right (by omega), hl, Nat.add_sub_cancel_left]; rfl
  · rw [List.getElem?_append_right (by omega), hl, Nat.add_sub_cancel_left]; rfl
end Go.Proofs.Qxb6500275aGreatDoor
