import Derived.Test.Qxb6500275aGreatDoorXw3
import Derived.Test.Qxb6500275aGreatDoorMea
set_option maxRecDepth 1000000
set_option linter.unusedVariables false
namespace Go.Proofs.Qxb6500275aGreatDoor
open Go Go.RowKit
theorem Xr.drewN {w0 w : World} {N : Xn} {T : Nat → Prop} {ws : List Nat} {fr : List Fr} {hd : Option (Nat × Nat)} {S : Sm} {H : Hm} (h : Xr w0 w N T ws fr hd S H) (n : Nat) : Xr w0 (w.drewN n) N T ws fr hd S H := by
  have hk : Kp (fun _ => False) w (w.drewN n) := ⟨rfl, rfl, rfl, Nat.le_refl _, fun _ _ _ => rfl⟩
  exact ⟨⟨h.kp.os, h.kp.tape, h.kp.output, h.kp.size, h.kp.block⟩, h.x, h.st, h.cb, h.gb, h.qb, h.mm.drewN n, h.hw.keep hk (fun h => h) (fun h => h) (fun h => h) (fun _ _ h => h)⟩
end Go.Proofs.Qxb6500275aGreatDoor
