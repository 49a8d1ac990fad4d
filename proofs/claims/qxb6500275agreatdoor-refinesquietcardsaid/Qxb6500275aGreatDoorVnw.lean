import Derived.Test.Qxb6500275aGreatDoorVn0
namespace Go.Proofs.Qxb6500275aGreatDoor
open Go Go.RowKit
theorem w64p {X : Nat} (h : X ≤ 3) : wrap64 ((2 : Int) ^ X) = 2 ^ X := by
  rcases (by omega : X = 0 ∨ X = 1 ∨ X = 2 ∨ X = 3) with rfl | rfl | rfl | rfl <;> (unfold wrap64; omega)
end Go.Proofs.Qxb6500275aGreatDoor
