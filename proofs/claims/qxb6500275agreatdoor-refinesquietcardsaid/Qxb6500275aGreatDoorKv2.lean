import Derived.Test.Qxb6500275aGreatDoorKv1
set_option maxRecDepth 100000
set_option linter.unusedVariables false
set_option linter.unusedSimpArgs false
namespace Go.Proofs.Qxb6500275aGreatDoor
open Go Go.RowKit
/- the script, where it lies -/
structure Scr (W : World) (a0 : Option Addr) (j : Nat) (o : Op6) (b off : Nat) : Prop where
  at_ : a0 = some ⟨b, off, none⟩
  ok : OpOk o
  lo : -9223372036854775808 ≤ o.a
  c0 : W.cell? ⟨b, off + j * 6, none⟩ = some (.int .i64 o.kind)
  c1 : W.cell? ⟨b, off + j * 6 + 1, none⟩ = some (.int .i64 o.a)
  c2 : W.cell? ⟨b, off + j * 6 + 2, none⟩ = some (.int .i64 o.b)
  c3 : W.cell? ⟨b, off + j * 6 + 3, none⟩ = some (.int .i64 o.c)
  c4 : W.cell? ⟨b, off + j * 6 + 4, none⟩ = some (.string o.s)
  c5 : W.cell? ⟨b, off + j * 6 + 5, none⟩ = some (.string o.t)
structure Script (W : World) (a0 : Option Addr) (len : Nat) : Prop where
  le : len ≤ 9223372036854775807
  at_ : ∀ j, j < len → ∃ o b off, Scr W a0 j o b off
section
variable {num : NumF} {W w w' : World} {X Y Z : Mx} {st stz : Ma}
theorem mach_new (hA : Ax X) (hh : X.hi ≤ w.heap.size) (h : Xb w X (fun _ => False) Vm.none Sm.none Hm.none) : Mach num w X (fun k => X.lo ≤ k ∧ k < X.hi) ma0 := by
  refine ⟨hA, hh, fun k a b => ⟨a, b⟩, fun k e => by omega, ⟨?_, fun x e => by simp [ma0] at e⟩, (fun _ => False), Vm.none, Sm.none, h, fun k e => e.elim, ?_, fun _ => rfl, fun x e => by simp [ma0] at e⟩
  · exact ⟨⟨by decide, fun k hk => by simp [ma0] at hk⟩, ⟨by decide, fun k hk => by simp [ma0] at hk⟩, ⟨by decide, fun k hk => by simp [ma0] at hk, by decide⟩, by decide⟩
  · exact ⟨by decide, fun x hx => by simp [Sm.none] at hx, fun _ => ⟨rfl, rfl⟩, ⟨by decide, fun x hx => by simp [Sm.none] at hx⟩, ⟨by decide, fun x hx => by simp [Sm.none] at hx⟩⟩
theorem tri_new {w1 w2 w3 : World} (hX : Ax X) (hY : Ax Y) (hZ : Ax Z) (k1 : Kp (fun _ => False) W w1) (k2 : Kp (fun _ => False) w1 w2) (k3 : Kp (fun _ => False) w2 w3) (x1 : X.lo = W.heap.size) (x2 : X.hi ≤ w1.heap.size) (y1 : Y.lo = w1.heap.size) (y2 : Y.hi ≤ w2.heap.size) (z1 : Z.lo = w2.heap.size) (z2 : Z.hi ≤ w3.heap.size)
    (bx : Xb w1 X (fun _ => False) Vm.none Sm.none Hm.none) (b_y : Xb w2 Y (fun _ => False) Vm.none Sm.none Hm.none) (bz : Xb w3 Z (fun _ => False) Vm.none Sm.none Hm.none) : Tri num (fun _ => False) W w3 X Y Z ma0 ma0 ma0 := by
  have s1 := k1.size
  have s2 := k2.size
  have s3 := k3.size
  refine ⟨(k1.trans k2).trans k3, fun k e => e.elim, _, _, _, ⟨(mach_new hX x2 bx).keep (k2.trans k3) (fun _ _ h => h), (mach_new hY y2 b_y).keep k3 (fun _ _ h => h), mach_new hZ z2 bz⟩, fun k e => ⟨fun e2 => by omega, fun e2 => by omega⟩, fun k e e2 => by omega, fun k e => ⟨by omega, fun h => h⟩⟩
theorem Tri.load (hNr : NumR num) (hNo : NumOk num) {V : Nat → Prop} {b c : Ma} (h : Tri num V W w X Y Z st b c) (s : ByteArray) (A : Int) (hA : A < 9223372036854775808) :
    Calls Tryz.prog 13 #[.pointer (some ⟨X.xb, 0, none⟩), .string s, .int .i64 A] w (fun en w' => ∃ a', ((∃ v, en = .returned v) ∧ ∃ l, LoadR num s A.toNat st.H l a') ∧ Tri num V W w' X Y Z a' b c ∧ Kp (fun k => W.heap.size ≤ k ∧ ¬ V k) w w') :=
  h.call (fun O hm => (xload_calls hNr hNo hm s A hA).mono (fun en w' ⟨a, st', g1, g2, g3, g4⟩ => ⟨st', ⟨⟨_, g2⟩, a, g1⟩, g3, g4⟩))
theorem Tri.inv (hNr : NumR num) {V : Nat → Prop} {b c : Ma} (h : Tri num V W w X Y Z st b c) (name args : ByteArray) (hsn : name.size ≤ 9223372036854775807) (hsa : args.size ≤ 9223372036854775807) (A : Int) (hA : A < 9223372036854775808) :
    Calls Tryz.prog 14 #[.pointer (some ⟨X.xb, 0, none⟩), .string name, .string args, .int .i64 A] w (fun en w' => ∃ a', ((∃ v, en = .returned v)) ∧ Tri num V W w' X Y Z a' b c ∧ Kp (fun k => W.heap.size ≤ k ∧ ¬ V k) w w') :=
  h.call (fun O hm => (invoke_calls hNr hm name args hsn hsa A hA).mono (fun en w' ⟨a, st', g1, g2, g3, g4⟩ => ⟨st', ⟨_, g2⟩, g3.wide (fun k e => .inl e) (fun k e => by
    rcases e with e | e
    · exact g3.olt k e
    · exact e.2), g4⟩))
theorem Tri.tape {V : Nat → Prop} {b c : Ma} (h : Tri num V W w X Y Z st b c) (s : ByteArray) (hs : s.size ≤ 9223372036854775807) :
    Calls Tryz.prog 15 #[.pointer (some ⟨X.xb, 0, none⟩), .string s] w (fun en w' => ∃ a', ((∃ v, en = .returned v) ∧ a' = ⟨st.m, (tapeS st.H s).2⟩) ∧ Tri num V W w' X Y Z a' b c ∧ Kp (fun k => W.heap.size ≤ k ∧ ¬ V k) w w') :=
  h.call (fun O hm => (hm.tape s hs).mono (fun en w' ⟨g2, g3, g4⟩ => ⟨_, ⟨⟨_, g2⟩, rfl⟩, g3.wide (fun k e => .inl e) (fun k e => by
    rcases e with e | e
    · exact g3.olt k e
    · exact e.2), g4⟩))
theorem Tri.do_ (hNr : NumR num) (hNo : NumOk num) (hkn : Kn W) (h0 : 0 < W.heap.size) {V : Nat → Prop} {b c : Ma} (h : Tri num V W w X Y Z st b c) (o : Op6) (ho : OpOk o) :
    Calls Tryz.prog 17 #[.pointer (some ⟨X.xb, 0, none⟩), o.val] w (fun en w' => ∃ a', (∃ a, en = .returned (An4.val a) ∧ DoR num st o a a') ∧ Tri num V W w' X Y Z a' b c ∧ Kp (fun k => W.heap.size ≤ k ∧ ¬ V k) w w') :=
  h.call (fun O hm => (do_calls hNr hNo (hkn.keep h.kp (fun h => h)) hm o ho).mono (fun en w' ⟨a, st', g1, g2, g3, g4⟩ => ⟨st', ⟨a, g2, g1⟩, g3, g4⟩))
theorem Tri.show {V : Nat → Prop} {b c : Ma} (h : Tri num V W w X Y Z st b c) : Calls Tryz.prog 16 #[.pointer (some ⟨X.xb, 0, none⟩)] w (fun en w' => en = .returned (.string (showM st)) ∧ Kp (fun _ => False) w w') := by
  obtain ⟨Ox, Oy, Oz, ⟨m1, m2, m3⟩, _⟩ := h.is
  exact xshow_calls m1
end
end Go.Proofs.Qxb6500275aGreatDoor
