import Derived.Test.Qxb6500275aGreatDoorTw2
import Derived.Test.Qxb6500275aGreatDoorVc1
import Derived.Laws.StructEq
import Derived.KernelRfl
set_option maxRecDepth 100000
set_option linter.unusedVariables false
set_option linter.unusedSimpArgs false
namespace Go.Proofs.Qxb6500275aGreatDoor
open Go Go.RowKit
theorem eq39 (a b : An4) (w : World) : (Op.equalIn 10000 39 a.val b.val).run Tryz.prog w = .ok (decide (a.e = b.e ∧ a.n = b.n ∧ a.m = b.m ∧ a.s = b.s)) w := by
  obtain ⟨e, n, m, s⟩ := a
  obtain ⟨e', n', m', s'⟩ := b
  unfold An4.val
  dsimp only
  have u3 := Tryz.underlying3
  have u31 := Tryz.underlying31
  have u9 := Tryz.underlying9
  have a3 := Tryz.isAgg3
  have a31 := Tryz.isAgg31
  have a9 := Tryz.isAgg9
  have z3 := Tryz.sizeOf3
  have z31 := Tryz.sizeOf31
  have z9 := Tryz.sizeOf9
  have hS : Tryz.prog.underlying 39 = some (.struct (Tryz.prog.fieldsOf 39)) := by kernel_rfl
  have hp : Tryz.prog.stoodInHeld 39 = false := by kernel_rfl
  rw [show (10000 : Nat) = 9999 + 1 from rfl, run_equalIn_agg w 9999 39 _ _ hS hp]
  simp only [Program.fieldsOf, Tryz.underlying39]
  go_simp
  have hss : (s.toList = s'.toList) ↔ s = s' := ⟨fun h => bytes_ext h, fun h => by rw [h]⟩
  by_cases h1 : e = e'
  · by_cases h2 : n = n'
    · by_cases h3 : m = m'
      · by_cases h4 : s = s'
        · simp [h1, h2, h3, h4]
        · have h5 : ¬ s.toList = s'.toList := fun h => h4 (hss.1 h)
          simp [h1, h2, h3, h4, h5]
      · simp [h1, h2, h3]
    · simp [h1, h2]
  · simp [h1]
end Go.Proofs.Qxb6500275aGreatDoor
