import Derived.Test.Qxb6500275aGreatDoorXqd
import Derived.Test.Qxb6500275aGreatDoorKva
set_option maxRecDepth 100000
set_option linter.unusedVariables false
set_option linter.unusedSimpArgs false
namespace Go.Proofs.Qxb6500275aGreatDoor
open Go Go.RowKit
/- THE TOWER AND THE MODEL IN ONE MEMORY; V: the blocks of the walk's own variables -/
structure Dw (V : Nat → Prop) (W w : World) (X : Mx) (xb : Nat) (a b : Ma) : Prop where
  kp : Kp (fun _ => False) W w
  vl : ∀ k, V k → W.heap.size ≤ k ∧ k < w.heap.size
  is : ∃ O N A, Mach numI w X O a ∧ N.xb = xb ∧ MdM w N A b ∧ (∀ k, O k → ¬ A k) ∧ ∀ k, O k ∨ A k → W.heap.size ≤ k ∧ ¬ V k
section
variable {V V' : Nat → Prop} {W w w' : World} {X : Mx} {xb : Nat} {a b st st' : Ma}
theorem Dw.good (h : Dw V W w X xb a b) : Good numI a := by
  obtain ⟨O, N, A, m1, e, m2, _⟩ := h.is
  exact m1.good
theorem Dw.quiet (h : Dw V W w X xb a b) (hk : Kp (fun _ => False) w w') (hV : ∀ k, V' k → V k ∨ (w.heap.size ≤ k ∧ k < w'.heap.size)) : Dw V' W w' X xb a b := by
  obtain ⟨O, N, A, m1, e, m2, d1, d3⟩ := h.is
  have s := hk.size
  have sW := h.kp.size
  refine ⟨h.kp.trans hk, fun k e => by
    rcases hV k e with e | e
    · have := h.vl k e; omega
    · omega, O, N, A, m1.keep hk (fun _ _ h => h), e, m2.quiet hk, d1, fun k e => ⟨(d3 k e).1, fun hv => ?_⟩⟩
  rcases hV k hv with h0 | h1
  · exact (d3 k e).2 h0
  rcases e with e | e
  · have := m1.olt k e; omega
  · have := m2.lt e; omega
/- the tower plays -/
theorem Dw.do_ (w0 : World) (hkn : Kn W) (h : Dw V W w X xb st b) (o : Op6) (ho : OpOk o) :
    Calls Tryz.prog 17 #[.pointer (some ⟨X.xb, 0, none⟩), o.val] w (fun en w' => ∃ a st', en = .returned (An4.val a) ∧ DoR numI st o a st' ∧ Dw V W w' X xb st' b ∧ Kp (fun k => W.heap.size ≤ k ∧ ¬ V k) w w') := by
  obtain ⟨O, N, A, m1, e, m2, d1, d3⟩ := h.is
  refine (do_calls numI_r (numI_ok w0) (hkn.keep h.kp (fun h => h)) m1 o ho).mono ?_
  rintro en w' ⟨a, st', hR, rfl, hm, hk⟩
  have s := hk.size
  have sW := h.kp.size
  refine ⟨a, st', rfl, hR, ⟨kp_in h.kp hk (fun i hi e => by have := (d3 i (.inl e)).1; omega), fun k e => ⟨(h.vl k e).1, Nat.lt_of_lt_of_le (h.vl k e).2 s⟩, O1 O w w', N, A, hm, e, m2.keep hk (fun k e e2 => d1 k e2 e), fun k e => ?_, fun k e => ?_⟩, hk.mono (fun k e => d3 k (.inl e))⟩
  · rcases e with e | e
    · exact d1 k e
    · exact fun e2 => by have := m2.lt e2; omega
  · rcases e with e | e
    · rcases e with e | e
      · exact d3 k (.inl e)
      · exact ⟨by omega, fun hv => by have := h.vl k hv; omega⟩
    · exact d3 k (.inr e)
/- the model plays -/
theorem Dw.dom (h : Dw V W w X xb st' st) (hg : Good numI st) (o : Op6) (ho : OpOk o) {a : An4} (hD : DoR numI st o a st') :
    Calls Tryz.prog 27 #[.pointer (some ⟨xb, 0, none⟩), o.val] w (fun en w' => en = .returned (An4.val a) ∧ Dw V W w' X xb st' st' ∧ Kp (fun k => W.heap.size ≤ k ∧ ¬ V k) w w') := by
  obtain ⟨O, N, A, m1, e, m2, d1, d3⟩ := h.is
  subst e
  refine (dom_calls m2 hg o ho hD).mono ?_
  rintro en w' ⟨rfl, N', A', e', m3, hgw⟩
  have hk := hgw.kp
  have s := hk.size
  have sW := h.kp.size
  refine ⟨rfl, ⟨kp_in h.kp hk (fun i hi e => by have := (d3 i (.inr e)).1; omega), fun k e => ⟨(h.vl k e).1, Nat.lt_of_lt_of_le (h.vl k e).2 s⟩, O, N', A', m1.keep hk (fun k e e2 => d1 k e e2), e', m3, fun k e e2 => ?_, fun k e => ?_⟩, hk.mono (fun k e => d3 k (.inr e))⟩
  · rcases hgw.own k e2 with e3 | e3
    · exact d1 k e e3
    · have := m1.olt k e; omega
  · rcases e with e | e
    · exact d3 k (.inl e)
    · rcases hgw.own k e with e3 | e3
      · exact d3 k (.inr e3)
      · exact ⟨by omega, fun hv => by have := h.vl k hv; omega⟩
theorem Dw.showX (h : Dw V W w X xb st b) : Calls Tryz.prog 16 #[.pointer (some ⟨X.xb, 0, none⟩)] w (fun en w' => en = .returned (.string (showM st)) ∧ Kp (fun _ => False) w w') := by
  obtain ⟨O, N, A, m1, _⟩ := h.is
  exact xshow_calls m1
theorem Dw.showN (h : Dw V W w X xb st st) : Calls Tryz.prog 28 #[.pointer (some ⟨xb, 0, none⟩)] w (fun en w' => en = .returned (.string (showM st)) ∧ Kp (fun _ => False) w w') := by
  have hg := h.good
  obtain ⟨O, N, A, m1, e, m2, _⟩ := h.is
  subst e
  exact show_w m2 hg
theorem Dw.check (hkn : Kn W) (h : Dw V W w X xb st b) : Calls Tryz.prog 29 #[.pointer (some ⟨X.xb, 0, none⟩)] w (fun en w' => en = .returned (.bool true) ∧ Kp (fun _ => False) w w') := by
  obtain ⟨O, N, A, m1, _⟩ := h.is
  exact xcheck_calls (hkn.keep h.kp (fun h => h)) m1
end
end Go.Proofs.Qxb6500275aGreatDoor
