import Derived.Test.Qxb6500275aGreatDoorKva
import Derived.Test.Qxb6500275aGreatDoorRe9
set_option maxRecDepth 100000
set_option linter.unusedVariables false
set_option linter.unusedSimpArgs false
namespace Go.Proofs.Qxb6500275aGreatDoor
open Go Go.RowKit
/- TWO MACHINES IN ONE MEMORY; V: the blocks of the walk's own variables -/
structure Duo (num : NumF) (V : Nat → Prop) (W w : World) (X Y : Mx) (a b : Ma) : Prop where
  kp : Kp (fun _ => False) W w
  vl : ∀ k, V k → W.heap.size ≤ k ∧ k < w.heap.size
  is : ∃ Ox Oy, (Mach num w X Ox a ∧ Mach num w Y Oy b) ∧ (∀ k, Ox k → ¬ Oy k) ∧ ∀ k, Ox k ∨ Oy k → W.heap.size ≤ k ∧ ¬ V k
section
variable {num : NumF} {V V' P : Nat → Prop} {W w w' : World} {X Y : Mx} {a b st : Ma}
theorem Duo.rot (h : Duo num V W w X Y a b) : Duo num V W w Y X b a := by
  obtain ⟨Ox, Oy, ⟨m1, m2⟩, d1, d3⟩ := h.is
  exact ⟨h.kp, h.vl, Oy, Ox, ⟨m2, m1⟩, fun k e e2 => d1 k e2 e, fun k e => d3 k e.symm⟩
theorem Duo.good (h : Duo num V W w X Y a b) : Good num a := by
  obtain ⟨Ox, Oy, ⟨m1, m2⟩, _⟩ := h.is
  exact m1.good
/- what touches the walk's own blocks alone -/
theorem Duo.own (h : Duo num V W w X Y a b) (hk : Kp P w w') (hP : ∀ k, P k → V k) (hV : ∀ k, V' k → V k ∨ (w.heap.size ≤ k ∧ k < w'.heap.size)) : Duo num V' W w' X Y a b := by
  obtain ⟨Ox, Oy, ⟨m1, m2⟩, d1, d3⟩ := h.is
  have s := hk.size
  have sW := h.kp.size
  refine ⟨kp_in h.kp hk (fun i hi e => by have := (h.vl i (hP i e)).1; omega), fun k e => by
    rcases hV k e with e | e
    · have := h.vl k e; omega
    · omega, Ox, Oy, ⟨m1.keep hk (fun k e e2 => (d3 k (.inl e)).2 (hP k e2)), m2.keep hk (fun k e e2 => (d3 k (.inr e)).2 (hP k e2))⟩, d1, fun k e => ⟨(d3 k e).1, fun hv => ?_⟩⟩
  rcases hV k hv with h0 | h1
  · exact (d3 k e).2 h0
  rcases e with e | e
  · have := m1.olt k e; omega
  · have := m2.olt k e; omega
theorem Duo.quiet (h : Duo num V W w X Y a b) (hk : Kp (fun _ => False) w w') : Duo num V W w' X Y a b := h.own hk (fun _ e => e.elim) (fun k e => .inl e)
/- the first machine is called -/
theorem Duo.call {F : FuncId} {args : Array Value} {Q : Ending → Ma → Prop} (h : Duo num V W w X Y a b) (hc : ∀ O, Mach num w X O a → Calls Tryz.prog F args w (fun en w' => ∃ a', Q en a' ∧ Mach num w' X (O1 O w w') a' ∧ Kp O w w')) :
    Calls Tryz.prog F args w (fun en w' => ∃ a', Q en a' ∧ Duo num V W w' X Y a' b ∧ Kp (fun k => W.heap.size ≤ k ∧ ¬ V k) w w') := by
  obtain ⟨Ox, Oy, ⟨m1, m2⟩, d1, d3⟩ := h.is
  refine (hc Ox m1).mono ?_
  rintro en w' ⟨a', hQ, hm, hk⟩
  have s := hk.size
  have sW := h.kp.size
  refine ⟨a', hQ, ⟨kp_in h.kp hk (fun i hi e => by have := (d3 i (.inl e)).1; omega), fun k e => ⟨(h.vl k e).1, Nat.lt_of_lt_of_le (h.vl k e).2 s⟩, O1 Ox w w', Oy, ⟨hm, m2.keep hk (fun k e e2 => d1 k e2 e)⟩, fun k e => ?_, fun k e => ?_⟩, hk.mono (fun k e => d3 k (.inl e))⟩
  · rcases e with e | e
    · exact d1 k e
    · exact fun e2 => by have := m2.olt k e2; omega
  · rcases e with e | e
    · rcases e with e | e
      · exact d3 k (.inl e)
      · exact ⟨by omega, fun hv => by have := h.vl k hv; omega⟩
    · exact d3 k (.inr e)
theorem Duo.do_ (hNr : NumR num) (hNo : NumOk num) (hkn : Kn W) (h0 : 0 < W.heap.size) (h : Duo num V W w X Y st b) (o : Op6) (ho : OpOk o) :
    Calls Tryz.prog 17 #[.pointer (some ⟨X.xb, 0, none⟩), o.val] w (fun en w' => ∃ a', (∃ a, en = .returned (An4.val a) ∧ DoR num st o a a') ∧ Duo num V W w' X Y a' b ∧ Kp (fun k => W.heap.size ≤ k ∧ ¬ V k) w w') :=
  h.call (fun O hm => (do_calls hNr hNo (hkn.keep h.kp (fun h => h)) hm o ho).mono (fun en w' ⟨a, st', g1, g2, g3, g4⟩ => ⟨st', ⟨a, g2, g1⟩, g3, g4⟩))
theorem Duo.show (h : Duo num V W w X Y st b) : Calls Tryz.prog 16 #[.pointer (some ⟨X.xb, 0, none⟩)] w (fun en w' => en = .returned (.string (showM st)) ∧ Kp (fun _ => False) w w') := by
  obtain ⟨Ox, Oy, ⟨m1, m2⟩, _⟩ := h.is
  exact xshow_calls m1
theorem duo_new {w0 w1 w2 : World} (hX : Ax X) (hY : Ax Y) (k0 : Kp (fun _ => False) W w0) (k1 : Kp (fun _ => False) w0 w1) (k2 : Kp (fun _ => False) w1 w2) (x1 : X.lo = w0.heap.size) (x2 : X.hi ≤ w1.heap.size) (y1 : Y.lo = w1.heap.size) (y2 : Y.hi ≤ w2.heap.size)
    (bx : Xb w1 X (fun _ => False) Vm.none Sm.none Hm.none) (b_y : Xb w2 Y (fun _ => False) Vm.none Sm.none Hm.none) (hV : ∀ k, V k → W.heap.size ≤ k ∧ k < w0.heap.size) : Duo num V W w2 X Y ma0 ma0 := by
  have s0 := k0.size
  have s1 := k1.size
  have s2 := k2.size
  refine ⟨(k0.trans k1).trans k2, fun k e => by have := hV k e; omega, _, _, ⟨(mach_new hX x2 bx).keep k2 (fun _ _ h => h), mach_new hY y2 b_y⟩, fun k e e2 => by omega, fun k e => ⟨by omega, fun h => by have := hV k h; omega⟩⟩
end
/- A MODULE AND ITS SHORTEST TEXT ARE ONE TO THE MACHINE -/
theorem DoR.recode {num : NumF} {st st' : Ma} {o : Op6} {a : An4} {M : Mod} (hd : decodeS o.s = .ok M) (hk : o.kind = 1) (h : DoR num st o a st') : DoR num st { o with s := bytesOf (encMod M) } a st' := by
  have h2 := (decode_encode hd).2.2
  unfold DoR at h ⊢
  dsimp only
  rw [if_pos hk] at h ⊢
  obtain ⟨l, g, rfl⟩ := h
  refine ⟨l, ?_, rfl⟩
  unfold LoadR at g ⊢
  have e : load0 (bytesOf (encMod M)) = load0 o.s := by
    unfold load0
    rw [hd, h2]
  rw [e]
  exact g
end Go.Proofs.Qxb6500275aGreatDoor
