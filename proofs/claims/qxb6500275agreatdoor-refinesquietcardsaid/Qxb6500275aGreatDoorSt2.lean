import Derived.Test.Qxb6500275aGreatDoorEx6
import Derived.Test.Qxb6500275aGreatDoorSt1
import Derived.Test.Qxb6500275aGreatDoorVc1
set_option maxRecDepth 100000
set_option linter.unusedVariables false
set_option linter.unusedSimpArgs false
namespace Go.Proofs.Qxb6500275aGreatDoor
open Go Go.RowKit
/- what settle may touch -/
def Qs (X : Mx) (k : Nat) : Prop := k = X.hb ∨ k = X.bb ∨ k = X.sb ∨ k = X.rb
section
variable {w w' w1 w2 : World} {X : Mx} {T T' T1 : Nat → Prop} {V V' : Vm} {S S' : Sm} {H H' : Hm} {P : Nat → Prop} {mb : Nat} {M : Mod}
theorem Tx.trans {a b c : World} {T T1 T2 : Nat → Prop} (h : Tx a b T T1) (k : Tx b c T1 T2) (h1 : a.heap.size ≤ b.heap.size) (h2 : b.heap.size ≤ c.heap.size) : Tx a c T T2 := by
  refine ⟨fun x hx => k.old x (h.old x hx), fun x hx => ?_⟩
  rcases k.new x hx with e | e
  · rcases h.new x e with e | e
    · exact .inl e
    · exact .inr (by omega)
  · exact .inr (by omega)
/- the host binds -/
theorem Xb.bindd (hA : Ax X) (h : Xb w X T V S H) (hk : Kp (fun k => k = X.hb ∨ k = X.bb) w w') (hw : Hw w' X.hb X.bb X.tb T' H') : Xb w' X T' V S H' := by
  have hl := hA.lt
  obtain ⟨m, d, v, p, hh, xx⟩ := hA
  obtain ⟨F, x1, x2⟩ := h.x
  obtain ⟨K, k1⟩ := h.kb
  obtain ⟨ty, b1⟩ := h.bt
  obtain ⟨v0, d1, d2⟩ := h.vd
  obtain ⟨n, p1⟩ := h.pr
  have q : ∀ k, (k ≠ X.hb ∧ k ≠ X.bb) → ¬ (k = X.hb ∨ k = X.bb) := fun k hk hP => by omega
  exact ⟨⟨F, x1.keep hk (q _ (by omega)), x2⟩, ⟨K, k1.keep hk (q _ (by omega))⟩, h.mm.keep hk (q _ (by omega)) (q _ (by omega)), hw, ⟨ty, b1.keep hk (q _ (by omega)) (q _ (by omega)) (q _ (by omega))⟩, ⟨v0, d1.keep hk (q _ (by omega)), d2⟩, ⟨n, p1.keep hk (q _ (by omega)) (q _ (by omega))⟩⟩
/- the store turns -/
theorem Xb.store (hA : Ax X) (h : Xb w X T V S H) (hT : ∀ k, T k → X.hi ≤ k) (hk : Kp (fun k => k = X.sb ∨ k = X.rb) w w') (hm : Mm w' X.sb X.rb S') : Xb w' X T V S' H := by
  have hl := hA.lt
  obtain ⟨m, d, v, p, hh, xx⟩ := hA
  obtain ⟨F, x1, x2⟩ := h.x
  obtain ⟨K, k1⟩ := h.kb
  obtain ⟨ty, b1⟩ := h.bt
  obtain ⟨v0, d1, d2⟩ := h.vd
  obtain ⟨n, p1⟩ := h.pr
  have q : ∀ k, (k ≠ X.sb ∧ k ≠ X.rb) → ¬ (k = X.sb ∨ k = X.rb) := fun k hk hP => by omega
  exact ⟨⟨F, x1.keep hk (q _ (by omega)), x2⟩, ⟨K, k1.keep hk (q _ (by omega))⟩, hm, h.hw.keep hk (q _ (by omega)) (q _ (by omega)) (q _ (by omega)) (fun k hk => q k (by have := hT k hk; omega)), ⟨ty, b1.keep hk (q _ (by omega)) (q _ (by omega)) (q _ (by omega))⟩, ⟨v0, d1.keep hk (q _ (by omega)), d2⟩, ⟨n, p1.keep hk (q _ (by omega)) (q _ (by omega))⟩⟩
theorem Xb.drewN (hA : Ax X) (h : Xb w X T V S H) (n : Nat) : Xb (w.drewN n) X T V S H := h.keep hA (P := fun _ => False) ⟨rfl, rfl, rfl, Nat.le_refl _, fun _ _ _ => rfl⟩ (fun _ _ _ h => h) (fun _ _ h => h)
/- amid settle -/
structure Sdt (w w1 : World) (X : Mx) (T T1 : Nat → Prop) (V : Vm) (S : Sm) (H : Hm) : Prop where
  kp : Kp (Qs X) w w1
  tx : Tx w w1 T T1
  xb : Xb w1 X T1 V S H
theorem Sdt.drewN (hA : Ax X) (h : Sdt w w1 X T T1 V S H) (n : Nat) : Sdt w (w1.drewN n) X T T1 V S H := ⟨⟨h.kp.os, h.kp.tape, h.kp.output, h.kp.size, h.kp.block⟩, ⟨h.tx.old, h.tx.new⟩, h.xb.drewN hA n⟩
theorem Sdt.drew (hA : Ax X) (h : Sdt w w1 X T T1 V S H) : Sdt w w1.drew X T T1 V S H := h.drewN hA 1
theorem Sdt.ht (h : Sdt w w1 X T T1 V S H) (hT : ∀ k, T k → X.hi ≤ k) (hw : X.hi ≤ w.heap.size) (k : Nat) (hk : T1 k) : X.hi ≤ k := by
  rcases h.tx.new k hk with e | e
  · exact hT k e
  · omega
theorem Sdt.c (h : Sdt w w1 X T T1 V S H) : w1.cell? ⟨X.xb, 3, none⟩ = some (.pointer (some ⟨X.sb, 0, none⟩)) ∧ w1.cell? ⟨X.xb, 4, none⟩ = some (.pointer (some ⟨X.hb, 0, none⟩)) := by
  obtain ⟨F, x1, x2⟩ := h.xb.x
  exact ⟨by rw [x1.cell (by decide), x2.f3], by rw [x1.cell (by decide), x2.f4]⟩
theorem Qs.lt (hA : Ax X) {k : Nat} (h : Qs X k) : k < X.hi := by
  have hl := hA.lt
  obtain ⟨m, d, v, p, hh, xx⟩ := hA
  unfold Qs at h
  omega
theorem Sdt.md (hA : Ax X) (h : Sdt w w1 X T T1 V S H) (hm : Md w mb M) (hlt : X.hi ≤ mb) : Md w1 mb M := hm.keep h.kp (fun k hk => by have := Qs.lt hA hk; omega)
theorem Sdt.bind (hA : Ax X) (h : Sdt w w1 X T T1 V S H) (hk : Kp (fun k => k = X.hb ∨ k = X.bb) w1 w2) {T2 : Nat → Prop} (ht : Tx w1 w2 T1 T2) (hw : Hw w2 X.hb X.bb X.tb T2 H') : Sdt w w2 X T T2 V S H' :=
  ⟨h.kp.trans (hk.mono (fun k hk => by unfold Qs; omega)), h.tx.trans ht h.kp.size hk.size, h.xb.bindd hA hk hw⟩
theorem Sdt.store (hA : Ax X) (h : Sdt w w1 X T T1 V S H) (hT : ∀ k, T k → X.hi ≤ k) (hw : X.hi ≤ w.heap.size) (hk : Kp (fun k => k = X.sb ∨ k = X.rb) w1 w2) (hm : Mm w2 X.sb X.rb S') : Sdt w w2 X T T1 V S' H :=
  ⟨h.kp.trans (hk.mono (fun k hk => by unfold Qs; omega)), h.tx.trans (Tx.refl _ _ _) h.kp.size hk.size, h.xb.store hA (h.ht hT hw) hk hm⟩
/- the imports' names -/
theorem Md.imps (h : Md w mb M) : ∃ ia, w.cell? ⟨mb, 1, none⟩ = some (.slice ia M.imports.length M.imports.length) ∧ ∀ i t, M.imports[i]? = some t → ∃ k, ia = some ⟨k, 0, none⟩ ∧ w.cell? ⟨k, i * 3 + 1, none⟩ = some (.string t.name) := by
  obtain ⟨F, hB, hF⟩ := h.is
  obtain ⟨ia, i1, i2⟩ := hF.i.at_
  refine ⟨ia, by rw [hB.cell (by decide), i1], fun i t ht => ?_⟩
  obtain ⟨k, f, ha, _, hc, hR⟩ := i2 i t ht
  exact ⟨k, ha, by rw [hc 1 (by decide), hR.2.1]⟩
end
end Go.Proofs.Qxb6500275aGreatDoor
