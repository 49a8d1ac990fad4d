import Derived.Test.Qxb6500275aGreatDoorDo1
set_option maxRecDepth 100000
set_option linter.unusedVariables false
set_option linter.unusedSimpArgs false
namespace Go.Proofs.Qxb6500275aGreatDoor
open Go Go.RowKit
section
variable {num : NumF} {st st1 st2 : Ma} {o : Op6} {a b : An4}
theorem DoR.det (h : DoR num st o a st1) (h' : DoR num st o b st2) : a = b ∧ st1 = st2 := by
  unfold DoR at h h'
  by_cases h1 : o.kind = 1
  · rw [if_pos h1] at h h'
    obtain ⟨l, g, rfl⟩ := h
    obtain ⟨l', g', rfl⟩ := h'
    obtain ⟨rfl, rfl⟩ := g.det g'
    exact ⟨rfl, rfl⟩
  rw [if_neg h1] at h h'
  by_cases h2 : o.kind = 2
  · rw [if_pos h2] at h h'
    exact ⟨h.1.trans h'.1.symm, h.2.trans h'.2.symm⟩
  rw [if_neg h2] at h h'
  by_cases h3 : o.kind = 3
  · rw [if_pos h3] at h h'
    obtain ⟨l, g, rfl⟩ := h
    obtain ⟨l', g', rfl⟩ := h'
    obtain ⟨rfl, rfl⟩ := g.det g'
    exact ⟨rfl, rfl⟩
  rw [if_neg h3] at h h'
  by_cases h4 : o.kind = 4
  · rw [if_pos h4] at h h'
    exact ⟨h.1.trans h'.1.symm, h.2.trans h'.2.symm⟩
  rw [if_neg h4] at h h'
  exact ⟨h.1.trans h'.1.symm, h.2.trans h'.2.symm⟩
/- THE CLAUSES OF A STEP -/
structure DoF (st : Ma) (o : Op6) (a : An4) (st' : Ma) : Prop where
  ref : o.kind = 3 → refusedS a.e = true → st' = st
  no : o.kind = 1 → a.e ≠ 0 → st'.m = none
  ran : ranS o a = true → 0 ≤ a.n ∧ a.n ≤ (o.a.toNat : Int)
  e46 : ranS o a = true → a.e = 46 → a.n = 0
theorem DoR.facts (hN : NumOk num) (hg : Good num st) (h : DoR num st o a st1) : DoF st o a st1 := by
  unfold DoR at h
  by_cases h1 : o.kind = 1
  · rw [if_pos h1] at h
    obtain ⟨l, g, rfl⟩ := h
    have hf := g.facts hN hg.hm
    refine ⟨fun e => by omega, fun _ e => hf.no e, fun e => ?_, fun _ e => hf.e46 e⟩
    unfold ranS at e
    rw [if_neg (by omega)] at e
    have := hf.ran (of_decide_eq_true e).2
    exact ⟨this.1, this.2.1⟩
  rw [if_neg h1] at h
  by_cases h3 : o.kind = 3
  · rw [if_neg (by omega), if_pos h3] at h
    obtain ⟨i, g, rfl⟩ := h
    have hf := InvR.facts hg g
    refine ⟨fun _ e => hf.same e, fun e => by omega, fun e => ?_, fun _ e => hf.e46 e⟩
    unfold ranS at e
    rw [if_pos h3] at e
    exact hf.ran (by simpa using e)
  have hr : ranS o a = false := by
    unfold ranS
    rw [if_neg h3]
    exact decide_eq_false (fun e => h1 e.1)
  exact ⟨fun e => absurd e h3, fun e => absurd e h1, fun e => by rw [hr] at e; simp at e, fun e => by rw [hr] at e; simp at e⟩
/- the fuel that counts -/
theorem moreA_nat (z : Int) : (moreA z).toNat = z.toNat + 1 ∧ moreA z = (z.toNat : Int) + 1 ∨ (moreA z).toNat = z.toNat ∧ moreA z = (z.toNat : Int) := by
  unfold moreA
  split
  · left; omega
  · split
    · right; omega
    · left; omega
/- ONE FUEL MORE -/
theorem DoR.more (hN : NumOk num) (hg : Good num st) (h : DoR num st o a st1) (hk : o.kind = 1 ∨ o.kind = 3) (h46 : a.e ≠ 46) : DoR num st { o with a := moreA o.a } (if ranS o a = true ∧ moreA o.a ≠ (o.a.toNat : Int) then { a with n := a.n + 1 } else a) st1 := by
  unfold DoR at h ⊢
  dsimp only
  have hm := moreA_nat o.a
  by_cases h1 : o.kind = 1
  · rw [if_pos h1] at h ⊢
    obtain ⟨l, g, rfl⟩ := h
    have hr : ranS o ⟨l.e, l.n, l.m, ⟨#[]⟩⟩ = decide (l.e = 0 ∨ 38 ≤ l.e) := by
      unfold ranS
      rw [if_neg (by omega)]
      simp [h1]
    rw [hr]
    rcases hm with ⟨m1, m2⟩ | ⟨m1, m2⟩
    · rw [m1]
      refine ⟨_, g.more hN hg.hm h46, ?_⟩
      unfold moreL
      by_cases hq : l.e = 0 ∨ 38 ≤ l.e
      · rw [if_pos hq, if_pos ⟨decide_eq_true hq, by omega⟩]
      · rw [if_neg hq, if_neg (fun e => hq (of_decide_eq_true e.1))]
    · rw [m1, if_neg (fun e => e.2 m2)]
      exact ⟨l, g, rfl⟩
  · have h3 : o.kind = 3 := by omega
    rw [if_neg h1, if_neg (by omega), if_pos h3] at h ⊢
    obtain ⟨i, g, rfl⟩ := h
    have hr : ranS o ⟨i.e, i.n, 0, i.s⟩ = !(refusedS i.e) := by
      unfold ranS
      rw [if_pos h3]
    rw [hr]
    rcases hm with ⟨m1, m2⟩ | ⟨m1, m2⟩
    · rw [m1]
      refine ⟨_, InvR.more hg g h46, ?_⟩
      unfold moreI
      by_cases hq : refusedS i.e = true
      · rw [if_pos hq, if_neg (fun e => by have := e.1; rw [hq] at this; simp at this)]
      · rw [if_neg hq, if_pos ⟨by simpa using hq, by omega⟩]
    · rw [m1, if_neg (fun e => e.2 m2)]
      exact ⟨i, g, rfl⟩
/- all three emptied -/
def ma0 : Ma := ⟨none, ⟨[], [], [], 0⟩⟩
theorem load_empty {l : Lan} (h : LoadR num ⟨#[]⟩ 0 st.H l st1) : st1 = ⟨none, clearS st.H⟩ := by
  unfold LoadR at h
  have : load0 ⟨#[]⟩ = .error ⟨0, 0, 3⟩ := rfl
  rw [this] at h
  exact h.2
theorem tape_empty (H : Hm) : (tapeS (clearS H) ⟨#[]⟩).2 = ⟨[], [], [], 0⟩ := rfl
end
/- THREE MACHINES IN ONE MEMORY; V: the blocks of the walk's own variables -/
structure Tri (num : NumF) (V : Nat → Prop) (W w : World) (X Y Z : Mx) (a b c : Ma) : Prop where
  kp : Kp (fun _ => False) W w
  vl : ∀ k, V k → k < w.heap.size
  is : ∃ Ox Oy Oz, (Mach num w X Ox a ∧ Mach num w Y Oy b ∧ Mach num w Z Oz c) ∧ (∀ k, Ox k → ¬ Oy k ∧ ¬ Oz k) ∧ (∀ k, Oy k → ¬ Oz k) ∧ ∀ k, Ox k ∨ Oy k ∨ Oz k → W.heap.size ≤ k ∧ ¬ V k
section
variable {num : NumF} {V V' : Nat → Prop} {W w w' : World} {X Y Z : Mx} {a b c : Ma}
theorem Tri.rot (h : Tri num V W w X Y Z a b c) : Tri num V W w Y Z X b c a := by
  obtain ⟨Ox, Oy, Oz, ⟨m1, m2, m3⟩, d1, d2, d3⟩ := h.is
  exact ⟨h.kp, h.vl, Oy, Oz, Ox, ⟨m2, m3, m1⟩, fun k e => ⟨d2 k e, fun e2 => (d1 k e2).1 e⟩, fun k e e2 => (d1 k e2).2 e, fun k e => d3 k (by rcases e with e | e | e; exact .inr (.inl e); exact .inr (.inr e); exact .inl e)⟩
theorem Tri.good (h : Tri num V W w X Y Z a b c) : Good num a := by
  obtain ⟨Ox, Oy, Oz, ⟨m1, m2, m3⟩, _⟩ := h.is
  exact m1.good
/- what touches no machine -/
theorem Tri.quiet (h : Tri num V W w X Y Z a b c) (hk : Kp (fun _ => False) w w') : Tri num V W w' X Y Z a b c := by
  obtain ⟨Ox, Oy, Oz, ⟨m1, m2, m3⟩, d⟩ := h.is
  exact ⟨h.kp.trans hk, fun k e => Nat.lt_of_lt_of_le (h.vl k e) hk.size, Ox, Oy, Oz, ⟨m1.keep hk (fun _ _ h => h), m2.keep hk (fun _ _ h => h), m3.keep hk (fun _ _ h => h)⟩, d⟩
/- other variables: new ones -/
theorem Tri.vars (h : Tri num V W w X Y Z a b c) (hk : Kp (fun _ => False) w w') (hV : ∀ k, V' k → V k ∨ (w.heap.size ≤ k ∧ k < w'.heap.size)) : Tri num V' W w' X Y Z a b c := by
  obtain ⟨Ox, Oy, Oz, ⟨m1, m2, m3⟩, d1, d2, d3⟩ := h.is
  refine ⟨h.kp.trans hk, fun k e => by
    have s := hk.size
    rcases hV k e with e | e
    · have := h.vl k e; omega
    · exact e.2, Ox, Oy, Oz, ⟨m1.keep hk (fun _ _ h => h), m2.keep hk (fun _ _ h => h), m3.keep hk (fun _ _ h => h)⟩, d1, d2, fun k e => ⟨(d3 k e).1, fun hv => ?_⟩⟩
  rcases hV k hv with h0 | h1
  · exact (d3 k e).2 h0
  rcases e with e | e | e
  · have := m1.olt k e; omega
  · have := m2.olt k e; omega
  · have := m3.olt k e; omega
/- the first machine is called -/
theorem Tri.call {F : FuncId} {args : Array Value} {Q : Ending → Ma → Prop} (h : Tri num V W w X Y Z a b c) (hc : ∀ O, Mach num w X O a → Calls Tryz.prog F args w (fun en w' => ∃ a', Q en a' ∧ Mach num w' X (O1 O w w') a' ∧ Kp O w w')) :
    Calls Tryz.prog F args w (fun en w' => ∃ a', Q en a' ∧ Tri num V W w' X Y Z a' b c ∧ Kp (fun k => W.heap.size ≤ k ∧ ¬ V k) w w') := by
  obtain ⟨Ox, Oy, Oz, ⟨m1, m2, m3⟩, d1, d2, d3⟩ := h.is
  refine (hc Ox m1).mono ?_
  rintro en w' ⟨a', hQ, hm, hk⟩
  have s := hk.size
  have sW := h.kp.size
  refine ⟨a', hQ, ⟨kp_in h.kp hk (fun i hi e => by have := (d3 i (.inl e)).1; omega), fun k e => Nat.lt_of_lt_of_le (h.vl k e) s, O1 Ox w w', Oy, Oz, ⟨hm, m2.keep hk (fun k e e2 => (d1 k e2).1 e), m3.keep hk (fun k e e2 => (d1 k e2).2 e)⟩, fun k e => ?_, d2, fun k e => ?_⟩, hk.mono (fun k e => d3 k (.inl e))⟩
  · rcases e with e | e
    · exact d1 k e
    · exact ⟨fun e2 => by have := m2.olt k e2; omega, fun e2 => by have := m3.olt k e2; omega⟩
  · rcases e with e | e | e
    · rcases e with e | e
      · exact d3 k (.inl e)
      · exact ⟨by omega, fun hv => by have := h.vl k hv; omega⟩
    · exact d3 k (.inr (.inl e))
    · exact d3 k (.inr (.inr e))
end
end Go.Proofs.Qxb6500275aGreatDoor
