import Derived.Test.Qxb6500275aGreatDoorMc1
set_option maxRecDepth 100000
set_option linter.unusedVariables false
set_option linter.unusedSimpArgs false
namespace Go.Proofs.Qxb6500275aGreatDoor
open Go Go.RowKit
/- THE WHOLE MACHINE IN MEMORY; O: what is its own -/
structure Mach (num : NumF) (w : World) (X : Mx) (O : Nat → Prop) (st : Ma) : Prop where
  ax : Ax X
  hi : X.hi ≤ w.heap.size
  own : ∀ k, X.lo ≤ k → k < X.hi → O k
  olt : ∀ k, O k → k < w.heap.size
  good : Good num st
  is : ∃ T V S, Xb w X T V S st.H ∧ (∀ k, T k → X.hi ≤ k ∧ O k) ∧ SmOk S ∧ (st.m = none → V = Vm.none) ∧ ∀ x, st.m = some x → S = x.S ∧ ∃ w0 lo mb kc, X.hi ≤ lo ∧ lo ≤ w0.heap.size ∧ Mp w0 lo x.C V mb kc ∧ Kp (fun k => k < lo) w0 w ∧ ∀ k, lo ≤ k → k < w0.heap.size → O k
section
variable {num : NumF} {w w' w1 w2 : World} {X : Mx} {O P : Nat → Prop} {st : Ma} {T T' : Nat → Prop} {V V' : Vm} {S S' : Sm} {H H' : Hm}
theorem kp_in {A P : Nat → Prop} {a b c : World} (h : Kp A a b) (k : Kp P b c) (hp : ∀ i, i < a.heap.size → P i → A i) : Kp A a c :=
  ⟨k.os.trans h.os, k.tape.trans h.tape, k.output.trans h.output, Nat.le_trans h.size k.size, fun i hi ha => by
    rw [k.block i (Nat.lt_of_lt_of_le hi h.size) (fun e => ha (hp i hi e))]
    exact h.block i hi ha⟩
theorem Mach.keep (h : Mach num w X O st) (hk : Kp P w w') (hp : ∀ k, O k → ¬ P k) : Mach num w' X O st := by
  obtain ⟨T, V, S, h1, h2, h3, h4, h5⟩ := h.is
  refine ⟨h.ax, Nat.le_trans h.hi hk.size, h.own, fun k ho => Nat.lt_of_lt_of_le (h.olt k ho) hk.size, h.good, T, V, S, h1.keep h.ax hk (fun k a b => hp k (h.own k a b)) (fun k a => hp k (h2 k a).2), h2, h3, h4, fun x hx => ?_⟩
  obtain ⟨e, w0, lo, mb, kc, g1, g2, g3, g4, g5⟩ := h5 x hx
  refine ⟨e, w0, lo, mb, kc, g1, g2, g3, kp_in g4 hk (fun i hi hP => ?_), g5⟩
  show i < lo
  exact Nat.lt_of_not_le (fun hle => hp i (g5 i hle hi) hP)
/- the decoder, the validator, the compiler turn -/
theorem Xb.bins (hA : Ax X) (h : Xb w X T V S H) (hT : ∀ k, T k → X.hi ≤ k) (hk : Kp (fun k => k = X.db ∨ k = X.ib ∨ k = X.lb) w w') (hb : ∃ ty, Bt w' X.db X.ib X.lb ty) : Xb w' X T V S H := by
  have hl := hA.lt
  obtain ⟨m, d, v, p, hh, xx⟩ := hA
  obtain ⟨F, x1, x2⟩ := h.x
  obtain ⟨K, k1⟩ := h.kb
  obtain ⟨v0, d1, d2⟩ := h.vd
  obtain ⟨n, p1⟩ := h.pr
  have q : ∀ k, (k ≠ X.db ∧ k ≠ X.ib ∧ k ≠ X.lb) → ¬ (k = X.db ∨ k = X.ib ∨ k = X.lb) := fun k hk hP => by omega
  exact ⟨⟨F, x1.keep hk (q _ (by omega)), x2⟩, ⟨K, k1.keep hk (q _ (by omega))⟩, h.mm.keep hk (q _ (by omega)) (q _ (by omega)), h.hw.keep hk (q _ (by omega)) (q _ (by omega)) (q _ (by omega)) (fun k hk => q k (by have := hT k hk; omega)), hb, ⟨v0, d1.keep hk (q _ (by omega)), d2⟩, ⟨n, p1.keep hk (q _ (by omega)) (q _ (by omega))⟩⟩
theorem Xb.vals (hA : Ax X) (h : Xb w X T V S H) (hT : ∀ k, T k → X.hi ≤ k) (hk : Kp (fun k => k = X.vb) w w') (hb : ∃ v, Vd w' X.vb v ∧ VI v) : Xb w' X T V S H := by
  have hl := hA.lt
  obtain ⟨m, d, v, p, hh, xx⟩ := hA
  obtain ⟨F, x1, x2⟩ := h.x
  obtain ⟨K, k1⟩ := h.kb
  obtain ⟨ty, b1⟩ := h.bt
  obtain ⟨n, p1⟩ := h.pr
  have q : ∀ k, k ≠ X.vb → ¬ (k = X.vb) := fun k hk hP => by omega
  exact ⟨⟨F, x1.keep hk (q _ (by omega)), x2⟩, ⟨K, k1.keep hk (q _ (by omega))⟩, h.mm.keep hk (q _ (by omega)) (q _ (by omega)), h.hw.keep hk (q _ (by omega)) (q _ (by omega)) (q _ (by omega)) (fun k hk => q k (by have := hT k hk; omega)), ⟨ty, b1.keep hk (q _ (by omega)) (q _ (by omega)) (q _ (by omega))⟩, hb, ⟨n, p1.keep hk (q _ (by omega)) (q _ (by omega))⟩⟩
theorem Xb.preps (hA : Ax X) (h : Xb w X T V S H) (hT : ∀ k, T k → X.hi ≤ k) (hk : Kp (P2 X.pb X.pc) w w') (hb : ∃ n, Pr w' X.pb X.pc n) : Xb w' X T V S H := by
  have hl := hA.lt
  obtain ⟨m, d, v, p, hh, xx⟩ := hA
  obtain ⟨F, x1, x2⟩ := h.x
  obtain ⟨K, k1⟩ := h.kb
  obtain ⟨ty, b1⟩ := h.bt
  obtain ⟨v0, d1, d2⟩ := h.vd
  have q : ∀ k, (k ≠ X.pb ∧ k ≠ X.pc) → ¬ P2 X.pb X.pc k := fun k hk hP => by unfold P2 at hP; omega
  exact ⟨⟨F, x1.keep hk (q _ (by omega)), x2⟩, ⟨K, k1.keep hk (q _ (by omega))⟩, h.mm.keep hk (q _ (by omega)) (q _ (by omega)), h.hw.keep hk (q _ (by omega)) (q _ (by omega)) (q _ (by omega)) (fun k hk => q k (by have := hT k hk; omega)), ⟨ty, b1.keep hk (q _ (by omega)) (q _ (by omega)) (q _ (by omega))⟩, ⟨v0, d1.keep hk (q _ (by omega)), d2⟩, hb⟩
/- amid Load -/
structure Lz (w w1 : World) (X : Mx) (O : Nat → Prop) (T : Nat → Prop) (V : Vm) (S : Sm) (H : Hm) : Prop where
  kp : Kp O w w1
  xb : Xb w1 X T V S H
  t : ∀ k, T k → X.hi ≤ k ∧ (O k ∨ (w.heap.size ≤ k ∧ k < w1.heap.size))
  sm : SmOk S
  hm : HmOk H
def O1 (O : Nat → Prop) (w w1 : World) (k : Nat) : Prop := O k ∨ (w.heap.size ≤ k ∧ k < w1.heap.size)
theorem Lz.th (h : Lz w w1 X O T V S H) (k : Nat) (hk : T k) : X.hi ≤ k := (h.t k hk).1
/- one more turn of its own -/
theorem Lz.to (h : Lz w w1 X O T V S H) (hk : Kp P w1 w2) (hp : ∀ i, i < w.heap.size → P i → O i) (hx : Xb w2 X T' V' S' H') (ht : ∀ k, T' k → T k ∨ (w1.heap.size ≤ k ∧ k < w2.heap.size)) (hlo : X.hi ≤ w.heap.size) (hS : SmOk S') (hH : HmOk H') : Lz w w2 X O T' V' S' H' := by
  have s1 := h.kp.size
  have s2 := hk.size
  refine ⟨kp_in h.kp hk hp, hx, fun k hk => ?_, hS, hH⟩
  rcases ht k hk with e | e
  · obtain ⟨a, b⟩ := h.t k e
    refine ⟨a, ?_⟩
    rcases b with b | b
    · exact .inl b
    · exact .inr (by omega)
  · exact ⟨by omega, .inr (by omega)⟩
theorem Lz.mach0 (h0 : Mach num w X O st) (h : Lz w w1 X O T Vm.none S H) : Mach num w1 X (O1 O w w1) ⟨none, H⟩ := by
  have s1 := h.kp.size
  refine ⟨h0.ax, Nat.le_trans h0.hi s1, fun k a b => .inl (h0.own k a b), fun k hk => ?_, ⟨h.hm, fun x e => by simp at e⟩, T, Vm.none, S, h.xb, h.t, h.sm, fun _ => rfl, fun x e => by simp at e⟩
  rcases hk with e | e
  · have := h0.olt k e; omega
  · exact e.2
theorem Lz.mach (h0 : Mach num w X O st) (h : Lz w w1 X O T V S H) {w0 : World} {lo mb kc : Nat} {C : XC} (hlo : w.heap.size ≤ lo) (hlw : lo ≤ w0.heap.size) (hm : Mp w0 lo C V mb kc) (hk : Kp (fun k => k < lo) w0 w1) (hG : GoodC num C) (he : Env C [] S H) : Mach num w1 X (O1 O w w1) ⟨some ⟨C, S⟩, H⟩ := by
  have s1 := h.kp.size
  have s2 := hk.size
  have s3 := h0.hi
  refine ⟨h0.ax, Nat.le_trans h0.hi s1, fun k a b => .inl (h0.own k a b), fun k hk => ?_, ⟨h.hm, fun x e => ?_⟩, T, V, S, h.xb, h.t, h.sm, fun e => by simp at e, fun x e => ?_⟩
  · rcases hk with e | e
    · have := h0.olt k e; omega
    · exact e.2
  · simp only [Option.some.injEq] at e
    subst e
    exact ⟨hG, he⟩
  · simp only [Option.some.injEq] at e
    subst e
    exact ⟨rfl, w0, lo, mb, kc, by omega, hlw, hm, hk, fun k a b => .inr (by omega)⟩
end
end Go.Proofs.Qxb6500275aGreatDoor
