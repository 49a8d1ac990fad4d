import Derived.Test.Qxb6500275aGreatDoorMe1
set_option maxRecDepth 100000
set_option linter.unusedVariables false
set_option linter.unusedSimpArgs false
namespace Go.Proofs.Qxb6500275aGreatDoor
open Go Go.RowKit
def refusedS (e : Int) : Bool := decide (e = 1 ∨ e = 32 ∨ e = 33 ∨ e = 34)
theorem refused_calls (w : World) (e : Int) : Calls Tryz.prog 18 #[.int .i64 e] w (Qm w (.bool (refusedS e))) := by
  by_cases h1 : e = 1
  · subst h1
    go_enter Tryz.func18, Tryz.ntmps18
    go_wp2
    refine bodyPost_ret (v := .bool (refusedS 1)) (by simp [results, Tryz.results18, go_sem]; rfl) rfl ?_
    exact ⟨rfl, rfl⟩
  by_cases h2 : e = 32
  · subst h2
    go_enter Tryz.func18, Tryz.ntmps18
    go_wp2
    refine bodyPost_ret (v := .bool (refusedS 32)) (by simp [results, Tryz.results18, go_sem]; rfl) rfl ?_
    exact ⟨rfl, rfl⟩
  by_cases h3 : e = 33
  · subst h3
    go_enter Tryz.func18, Tryz.ntmps18
    go_wp2
    refine bodyPost_ret (v := .bool (refusedS 33)) (by simp [results, Tryz.results18, go_sem]; rfl) rfl ?_
    exact ⟨rfl, rfl⟩
  by_cases h4 : e = 34
  · subst h4
    go_enter Tryz.func18, Tryz.ntmps18
    go_wp2
    refine bodyPost_ret (v := .bool (refusedS 34)) (by simp [results, Tryz.results18, go_sem]; rfl) rfl ?_
    exact ⟨rfl, rfl⟩
  have hr : refusedS e = false := by unfold refusedS; simp [h1, h2, h3, h4]
  have g1 : (e == 1) = false := by simp [h1]
  have g2 : (e == 32) = false := by simp [h2]
  have g3 : (e == 33) = false := by simp [h3]
  have g4 : (e == 34) = false := by simp [h4]
  rw [hr]
  go_enter Tryz.func18, Tryz.ntmps18
  go_wp2
  refine bodyPost_ret (v := .bool false) (by simp [results, Tryz.results18, go_sem]) rfl ?_
  exact ⟨rfl, rfl⟩
end Go.Proofs.Qxb6500275aGreatDoor
