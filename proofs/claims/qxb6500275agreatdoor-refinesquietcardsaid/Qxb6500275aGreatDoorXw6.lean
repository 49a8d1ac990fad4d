import Derived.Test.Qxb6500275aGreatDoorXw5
set_option maxRecDepth 1000000
set_option linter.unusedVariables false
namespace Go.Proofs.Qxb6500275aGreatDoor
open Go Go.RowKit
section
variable {w0 w w' : World} {N : Xn} {C : XC} {T : Nat → Prop} {ws : List Nat} {fr : List Fr} {hd : Option (Nat × Nat)} {S : Sm} {H : Hm}
theorem Xr.none (hq : Xq w0 N C T) (h : Xr w0 w N T ws fr hd S H) (hk : Kp (fun _ => False) w w') : Xr w0 w' N T ws fr hd S H := by
  obtain ⟨D, d⟩ := h.cb
  obtain ⟨E, e⟩ := h.gb
  obtain ⟨G, g⟩ := h.qb
  exact h.fresh hq hk (fun _ h => h.elim) ⟨D, d.keep hk (fun h => h)⟩ ⟨E, e.keep hk (fun h => h)⟩ ⟨G, g.keep hk (fun h => h)⟩
theorem kp_same {w w' : World} (h : sameWorld w w') : Kp (fun _ => False) w w' := by
  obtain ⟨h1, h2, h3, h4⟩ := h
  exact ⟨h2, h3, h4, by rw [h1]; exact Nat.le_refl _, fun k _ _ => by rw [h1]⟩
theorem u32w {t : Nat} : IntKind.u32.wrap (t : Int) = ((lo32 t : Nat) : Int) := by unfold lo32; simp [IntKind.wrap, IntKind.bits, IntKind.signed]
theorem u32y {y : Int} (h : 0 ≤ y) : IntKind.u32.wrap y = (((y % 4294967296).toNat : Nat) : Int) := by
  have : 0 ≤ y % 4294967296 := Int.emod_nonneg _ (by decide)
  simp [IntKind.wrap, IntKind.bits, IntKind.signed]
  omega
end
end Go.Proofs.Qxb6500275aGreatDoor
