import Derived.Test.Qxb6500275aGreatDoorBm7
import Derived.Test.Qxb6500275aGreatDoorKq
set_option maxRecDepth 100000
set_option linter.unusedVariables false
set_option linter.unusedSimpArgs false
namespace Go.Proofs.Qxb6500275aGreatDoor
open Go Go.RowKit
/- one element of one cell more -/
theorem OR.push1 {w : World} {e : TypeId} {v : Value} {n : Nat} {xs : List Value} (h : OR w e 1 v n xs) {t : TypeId} {i : TypeInfo} {z : Value} (ht : Tryz.prog.underlying t = some (.slice e)) (hi : Tryz.prog.info? e = some i) (hz : i.zero = some z)
    (hsize : i.size = 1) (hby : i.bytes ≤ 1000) (hzs : z.cells.size = 1) (hn : n ≤ 100000) (a : Value) (ha : a.oneCell' = true) :
    ∃ v' w', (Builtin.append_ #[t, t] t #[v, .slice (some ⟨w.heap.size, 0, none⟩) 1 1]).run Tryz.prog (w.alloc (.cells #[a] e)) = .ok v' w' ∧ OR w' e 1 v' (n + 1) (xs ++ [a]) ∧ Kp (fun k => v.ownBlock = some k) w w' ∧ OwnO w v v' := by
  have hk : Kp (fun _ => False) w (w.alloc (.cells #[a] e)) := (Kp.refl _ _).alloc _
  obtain ⟨v', w', r1, r2, r3, r4⟩ := (h.keep hk (fun _ _ h => h)).app (ty := t) ht hi hz hsize rfl hzs (by decide) hby hn ⟨w.heap.size, 0, none⟩ 1 [a] rfl (fun j y hy => by
    rw [add_none, Nat.zero_add]
    have hj := (List.getElem?_eq_some_iff.1 hy).1
    have e : j = 0 := by simpa using hj
    subst e
    simp at hy
    subst hy
    exact (blk_al w #[a] _).cell (i := 0) (by simp)) (fun y hy => by simp at hy; subst hy; exact ha)
  refine ⟨v', w', r1, r2, (hk.mono (fun _ h => h.elim)).trans r3, fun k hk2 => ?_⟩
  rcases r4 k hk2 with h | h
  · exact .inl h
  · exact .inr (Nat.le_trans hk.size h)
theorem OR.push3 {w : World} {e : TypeId} {v : Value} {n : Nat} {xs : List Value} (h : OR w e 3 v n xs) {t : TypeId} {i : TypeInfo} {z : Value} (ht : Tryz.prog.underlying t = some (.slice e)) (hi : Tryz.prog.info? e = some i) (hz : i.zero = some z)
    (hsize : i.size = 3) (hby : i.bytes ≤ 1000) (hzs : z.cells.size = 3) (hn : n ≤ 100000) (a b c : Value) (ha : a.oneCell' = true) (hb : b.oneCell' = true) (hc : c.oneCell' = true) :
    ∃ v' w', (Builtin.append_ #[t, t] t #[v, .slice (some ⟨w.heap.size, 0, none⟩) 1 1]).run Tryz.prog (w.alloc (.cells #[a, b, c] e)) = .ok v' w' ∧ OR w' e 3 v' (n + 1) (xs ++ [a, b, c]) ∧ Kp (fun k => v.ownBlock = some k) w w' ∧ OwnO w v v' := by
  have hk : Kp (fun _ => False) w (w.alloc (.cells #[a, b, c] e)) := (Kp.refl _ _).alloc _
  obtain ⟨v', w', r1, r2, r3, r4⟩ := (h.keep hk (fun _ _ h => h)).app (ty := t) ht hi hz hsize rfl hzs (by decide) hby hn ⟨w.heap.size, 0, none⟩ 1 [a, b, c] rfl (fun j y hy => by
    rw [add_none, Nat.zero_add]
    have hj := (List.getElem?_eq_some_iff.1 hy).1
    simp at hj
    rcases (by omega : j = 0 ∨ j = 1 ∨ j = 2) with e | e | e
    · subst e
      simp at hy
      subst hy
      exact (blk_al w #[a, b, c] _).cell (i := 0) (by simp)
    · subst e
      simp at hy
      subst hy
      exact (blk_al w #[a, b, c] _).cell (i := 1) (by simp)
    · subst e
      simp at hy
      subst hy
      exact (blk_al w #[a, b, c] _).cell (i := 2) (by simp)) (fun y hy => by simp at hy; rcases hy with rfl | rfl | rfl; exact ha; exact hb; exact hc)
  refine ⟨v', w', r1, r2, (hk.mono (fun _ h => h.elim)).trans r3, fun k hk2 => ?_⟩
  rcases r4 k hk2 with h | h
  · exact .inl h
  · exact .inr (Nat.le_trans hk.size h)
def tabC (l : List Int) : List Value := l.map (fun x => .int .u32 x)
/- A FUNCTION AT WORK: f's cells in block fb; vb, vt: its body and its tables -/
structure Fb (w : World) (fb : Nat) (f : Fn) (vb vt : Value) : Prop where
  c0 : w.cell? ⟨fb, 0, none⟩ = some (.int .i64 f.ty)
  c1 : w.cell? ⟨fb, 1, none⟩ = some (.string f.locals)
  c2 : w.cell? ⟨fb, 2, none⟩ = some vb
  c3 : w.cell? ⟨fb, 3, none⟩ = some vt
  fz : ∀ j, w.frozen? ⟨fb, j, none⟩ = false
  bo : OR w 129 3 vb f.body.length (insC f.body)
  ta : OR w 127 1 vt f.tabs.length (tabC f.tabs)
  d1 : vb.ownBlock ≠ some fb
  d2 : vt.ownBlock ≠ some fb
  d3 : ∀ k, vb.ownBlock = some k → vt.ownBlock ≠ some k
def FbB (fb : Nat) (vb vt : Value) (k : Nat) : Prop := k = fb ∨ vb.ownBlock = some k ∨ vt.ownBlock = some k
theorem u103s : Tryz.prog.underlying 103 = some (.slice 127) := by kernel_rfl
theorem u102s : Tryz.prog.underlying 102 = some (.slice 129) := by kernel_rfl
theorem i127i : ∃ (i : TypeInfo) (z : Value), Tryz.prog.info? 127 = some i ∧ i.zero = some z ∧ z.cells.size = 1 ∧ i.size = 1 ∧ i.bytes = 4 := by
  have h0 : (Tryz.prog.info? 127).map (fun i => (i.zero.map (fun z => z.cells.size), i.size, i.bytes)) = some (some 1, 1, 4) := by kernel_rfl
  cases h : Tryz.prog.info? 127 with
  | none => rw [h] at h0; simp at h0
  | some i =>
    rw [h] at h0
    simp at h0
    obtain ⟨⟨z, h1, h2⟩, h3, h4⟩ := h0
    exact ⟨i, z, rfl, h1, h2, h3, h4⟩
theorem i129i : ∃ (i : TypeInfo) (z : Value), Tryz.prog.info? 129 = some i ∧ i.zero = some z ∧ z.cells.size = 3 ∧ i.size = 3 ∧ i.bytes = 16 := by
  have h0 : (Tryz.prog.info? 129).map (fun i => (i.zero.map (fun z => z.cells.size), i.size, i.bytes)) = some (some 3, 3, 16) := by kernel_rfl
  cases h : Tryz.prog.info? 129 with
  | none => rw [h] at h0; simp at h0
  | some i =>
    rw [h] at h0
    simp at h0
    obtain ⟨⟨z, h1, h2⟩, h3, h4⟩ := h0
    exact ⟨i, z, rfl, h1, h2, h3, h4⟩
section
variable {w w' u : World} {fb : Nat} {f : Fn} {vb vt : Value} {P : Nat → Prop}
theorem Fb.lt (h : Fb w fb f vb vt) {k : Nat} (hk : FbB fb vb vt k) : k < w.heap.size := by
  rcases hk with e | e | e
  · subst e; exact lt_of_cell h.c0
  · exact h.bo.lt e
  · exact h.ta.lt e
theorem Fb.keep (h : Fb w fb f vb vt) (hk : Kp P w w') (hp : ∀ k, FbB fb vb vt k → ¬ P k) : Fb w' fb f vb vt := by
  have hlt := lt_of_cell h.c0
  have ec : ∀ o, w'.cell? ⟨fb, o, none⟩ = w.cell? ⟨fb, o, none⟩ := fun o => hk.cell (p := ⟨fb, o, none⟩) hlt (hp fb (.inl rfl))
  have ef : ∀ o, w'.frozen? ⟨fb, o, none⟩ = w.frozen? ⟨fb, o, none⟩ := fun o => hk.frozen (p := ⟨fb, o, none⟩) hlt (hp fb (.inl rfl))
  exact ⟨(ec 0).trans h.c0, (ec 1).trans h.c1, (ec 2).trans h.c2, (ec 3).trans h.c3, fun j => (ef j).trans (h.fz j), h.bo.keep hk (fun k e => hp k (.inr (.inl e))), h.ta.keep hk (fun k e => hp k (.inr (.inr e))), h.d1, h.d2, h.d3⟩
/- a label more -/
theorem Fb.pushT (h : Fb w fb f vb vt) (hn : f.tabs.length ≤ 1000) (l : Int) : ∃ v' w1, (Builtin.append_ #[103, 103] 103 #[vt, .slice (some ⟨w.heap.size, 0, none⟩) 1 1]).run Tryz.prog (w.alloc (.cells #[.int .u32 l] 127)) = .ok v' w1 ∧
    (w1.cell? ⟨fb, 3, none⟩ = some vt ∧ w1.frozen? ⟨fb, 3, none⟩ = false) ∧ (∃ a n c, v' = .slice a n c) ∧ Fb (w1.setCell ⟨fb, 3, none⟩ v') fb { f with tabs := f.tabs ++ [l] } vb v' ∧ Kp (FbB fb vb vt) w (w1.setCell ⟨fb, 3, none⟩ v') ∧ OwnO w vt v' := by
  obtain ⟨i, z, i1, i2, i3, i4, i5⟩ := i127i
  obtain ⟨v', w1, r1, r2, r3, r4⟩ := h.ta.push1 u103s i1 i2 i4 (by omega) i3 (by omega) (.int .u32 l) rfl
  have hlt : fb < w.heap.size := lt_of_cell h.c0
  have ec : ∀ o, w1.cell? ⟨fb, o, none⟩ = w.cell? ⟨fb, o, none⟩ := fun o => r3.cell (p := ⟨fb, o, none⟩) hlt h.d2
  have ef : ∀ o, w1.frozen? ⟨fb, o, none⟩ = w.frozen? ⟨fb, o, none⟩ := fun o => r3.frozen (p := ⟨fb, o, none⟩) hlt h.d2
  have hvf : v'.ownBlock ≠ some fb := fun e => by
    rcases r4 fb e with h5 | h5
    · exact h.d2 h5
    · omega
  refine ⟨v', w1, r1, ⟨(ec 3).trans h.c3, (ef 3).trans (h.fz 3)⟩, ?_, ⟨?_, ?_, ?_, ?_, ?_, ?_, ?_, h.d1, hvf, ?_⟩, ?_, r4⟩
  · obtain ⟨a, c, e⟩ := r2.slice
    exact ⟨a, _, c, e⟩
  · simp [ec, h.c0, go_sem]
  · simp [ec, h.c1, go_sem]
  · simp [ec, h.c2, go_sem]
  · have := (ec 3).trans h.c3
    simp [this, go_sem]
  · intro j
    have := (ef j).trans (h.fz j)
    rw [World.frozen?_setCell]
    exact this
  · exact (h.bo.keep r3 (fun k e hk => h.d3 k e hk)).other (fun k e e2 => h.d1 (by rw [← e2]; exact e)) _
  · have := r2.other (b := fb) (i := 3) (fun k e e2 => hvf (by rw [← e2]; exact e)) v'
    rw [List.length_append]
    unfold tabC at this ⊢
    rw [List.map_append]
    exact this
  · intro k e e2
    rcases r4 k e2 with h5 | h5
    · exact h.d3 k e h5
    · have := h.bo.lt e
      omega
  · exact (r3.mono (fun k hk => .inr (.inr hk))).setCell (p := ⟨fb, 3, none⟩) (.inl (.inl rfl)) v'
/- an instruction more -/
theorem Fb.pushB (h : Fb w fb f vb vt) (hn : f.body.length ≤ 1000) (x : Ins) : ∃ v' w1, (Builtin.append_ #[102, 102] 102 #[vb, .slice (some ⟨w.heap.size, 0, none⟩) 1 1]).run Tryz.prog (w.alloc (.cells #[.int .u8 (x.op : Int), .int .u32 x.x, .int .u64 x.y] 129)) = .ok v' w1 ∧
    (w1.cell? ⟨fb, 2, none⟩ = some vb ∧ w1.frozen? ⟨fb, 2, none⟩ = false) ∧ (∃ a n c, v' = .slice a n c) ∧ Fb (w1.setCell ⟨fb, 2, none⟩ v') fb { f with body := f.body ++ [x] } v' vt ∧ Kp (FbB fb vb vt) w (w1.setCell ⟨fb, 2, none⟩ v') ∧ OwnO w vb v' := by
  obtain ⟨i, z, i1, i2, i3, i4, i5⟩ := i129i
  obtain ⟨v', w1, r1, r2, r3, r4⟩ := h.bo.push3 u102s i1 i2 i4 (by omega) i3 (by omega) (.int .u8 (x.op : Int)) (.int .u32 x.x) (.int .u64 x.y) rfl rfl rfl
  have hlt : fb < w.heap.size := lt_of_cell h.c0
  have ec : ∀ o, w1.cell? ⟨fb, o, none⟩ = w.cell? ⟨fb, o, none⟩ := fun o => r3.cell (p := ⟨fb, o, none⟩) hlt h.d1
  have ef : ∀ o, w1.frozen? ⟨fb, o, none⟩ = w.frozen? ⟨fb, o, none⟩ := fun o => r3.frozen (p := ⟨fb, o, none⟩) hlt h.d1
  have hvf : v'.ownBlock ≠ some fb := fun e => by
    rcases r4 fb e with h5 | h5
    · exact h.d1 h5
    · omega
  refine ⟨v', w1, r1, ⟨(ec 2).trans h.c2, (ef 2).trans (h.fz 2)⟩, ?_, ⟨?_, ?_, ?_, ?_, ?_, ?_, ?_, hvf, h.d2, ?_⟩, ?_, r4⟩
  · obtain ⟨a, c, e⟩ := r2.slice
    exact ⟨a, _, c, e⟩
  · simp [ec, h.c0, go_sem]
  · simp [ec, h.c1, go_sem]
  · have := (ec 2).trans h.c2
    simp [this, go_sem]
  · simp [ec, h.c3, go_sem]
  · intro j
    have := (ef j).trans (h.fz j)
    rw [World.frozen?_setCell]
    exact this
  · have := r2.other (b := fb) (i := 2) (fun k e e2 => hvf (by rw [← e2]; exact e)) v'
    rw [List.length_append, insC_app]
    exact this
  · exact (h.ta.keep r3 (fun k e hk => h.d3 k hk e)).other (fun k e e2 => h.d2 (by rw [← e2]; exact e)) _
  · intro k e e2
    rcases r4 k e with h5 | h5
    · exact h.d3 k h5 e2
    · have := h.ta.lt e2
      omega
  · exact (r3.mono (fun k hk => .inr (.inl hk))).setCell (p := ⟨fb, 2, none⟩) (.inl (.inl rfl)) v'
end
end Go.Proofs.Qxb6500275aGreatDoor
