import Derived.Test.Qxb6500275aGreatDoorXo3
set_option maxRecDepth 100000
namespace Go.Proofs.Qxb6500275aGreatDoor
open Go Go.RowKit
theorem wp_genT {K : Act → World → Prop} {Q : Exit → Act → World → Prop} {ac : Act} {W : World} {k : Nat} (h : ∀ U, Kp (fun _ => False) W U → Exit.then K Q Exit.normal ac U) : Exit.then K Q Exit.normal ac (W.drewN k) := h _ ((Kp.refl _ _).drewM k)
end Go.Proofs.Qxb6500275aGreatDoor
