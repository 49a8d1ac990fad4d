import Derived.Test.Qxb6500275aGreatDoorXm1
import Derived.Test.Qxb6500275aGreatDoorRm6
set_option linter.unusedVariables false
set_option linter.unusedSimpArgs false
set_option maxRecDepth 100000
namespace Go.Proofs.Qxb6500275aGreatDoor
open Go Go.RowKit
/- THE MODEL'S FRAMES IN MEMORY: the slices of a frame -/
structure FT3 where
  l : Value
  o : Value
  b : Value
def valC (l : List MV) : List Value := l.flatMap (fun v => [.int .u8 (v.t : Int), .int .u64 (v.b : Int)])
def labC (l : List (Nat × Nat)) : List Value := l.flatMap (fun v => [.int .i64 (v.1 : Int), .int .i64 (v.2 : Int)])
def frC (x : MF × FT3) : List Value := [.int .i64 x.1.f, .int .i64 (x.1.pc : Int), x.2.l, x.2.o, x.2.b]
def FtB (t : FT3) (k : Nat) : Prop := t.l.ownBlock = some k ∨ t.o.ownBlock = some k ∨ t.b.ownBlock = some k
structure FrM (w : World) (x : MF × FT3) : Prop where
  l : OR w 229 2 x.2.l x.1.loc.length (valC x.1.loc)
  o : OR w 229 2 x.2.o x.1.ops.length (valC x.1.ops)
  b : OR w 347 2 x.2.b x.1.labs.length (labC x.1.labs)
  lo : ∀ k, x.2.l.ownBlock = some k → x.2.o.ownBlock ≠ some k ∧ x.2.b.ownBlock ≠ some k
  ob : ∀ k, x.2.o.ownBlock = some k → x.2.b.ownBlock ≠ some k
/- the bottom first -/
structure Fstk (w : World) (vf : Value) (q : List (MF × FT3)) : Prop where
  row : OR w 301 5 vf q.length (q.flatMap frC)
  fr : ∀ x, x ∈ q → FrM w x ∧ ∀ k, vf.ownBlock = some k → ¬ FtB x.2 k
  dj : q.Pairwise (fun x y => ∀ k, FtB x.2 k → ¬ FtB y.2 k)
def FsB (vf : Value) (q : List (MF × FT3)) (k : Nat) : Prop := vf.ownBlock = some k ∨ ∃ x, x ∈ q ∧ FtB x.2 k
section
variable {w w' w1 : World} {vf : Value} {q q0 : List (MF × FT3)} {x x' : MF × FT3} {P : Nat → Prop}
theorem FrM.keep (h : FrM w x) (hk : Kp P w w') (hp : ∀ k, FtB x.2 k → ¬ P k) : FrM w' x :=
  ⟨h.l.keep hk (fun k e => hp k (.inl e)), h.o.keep hk (fun k e => hp k (.inr (.inl e))), h.b.keep hk (fun k e => hp k (.inr (.inr e))), h.lo, h.ob⟩
theorem FrM.other (h : FrM w x) {g i : Nat} (hg : ∀ k, FtB x.2 k → k ≠ g) (u : Value) : FrM (w.setCell ⟨g, i, none⟩ u) x :=
  ⟨h.l.other (fun k e => hg k (.inl e)) _, h.o.other (fun k e => hg k (.inr (.inl e))) _, h.b.other (fun k e => hg k (.inr (.inr e))) _, h.lo, h.ob⟩
theorem FrM.lt (h : FrM w x) {k : Nat} (hk : FtB x.2 k) : k < w.heap.size := by
  rcases hk with e | e | e
  · exact h.l.lt e
  · exact h.o.lt e
  · exact h.b.lt e
theorem Fstk.keep (h : Fstk w vf q) (hk : Kp P w w') (hp : ∀ k, FsB vf q k → ¬ P k) : Fstk w' vf q :=
  ⟨h.row.keep hk (fun k e => hp k (.inl e)), fun x hx => ⟨(h.fr x hx).1.keep hk (fun k e => hp k (.inr ⟨x, hx, e⟩)), (h.fr x hx).2⟩, h.dj⟩
theorem Fstk.lt (h : Fstk w vf q) {k : Nat} (hk : FsB vf q k) : k < w.heap.size := by
  rcases hk with e | ⟨x, hx, e⟩
  · exact h.row.lt e
  · exact (h.fr x hx).1.lt e
theorem frC_len (q : List (MF × FT3)) : (q.flatMap frC).length = q.length * 5 := by
  induction q with
  | nil => rfl
  | cons a r ih => rw [List.flatMap_cons, List.length_append, ih]; simp [frC]; omega
theorem top_set (q0 : List (MF × FT3)) (x x' : MF × FT3) {j : Nat} {u : Value} (hj : j < 5) (hc : frC x' = (frC x).set j u) : (q0 ++ [x']).flatMap frC = ((q0 ++ [x]).flatMap frC).set (q0.length * 5 + j) u := by
  rw [List.flatMap_append, List.flatMap_append, List.set_append_right _ _ (by rw [frC_len]; omega), frC_len, Nat.add_sub_cancel_left]
  simp [hc]
/- the top frame's cells -/
theorem Fstk.top (h : Fstk w vf (q0 ++ [x])) : ∃ g cap, vf = .slice (some ⟨g, 0, none⟩) (q0.length + 1) cap ∧ g < w.heap.size ∧ q0.length + 1 ≤ cap ∧ cap ≤ 9223372036854775807 ∧ (∀ j, w.frozen? ⟨g, j, none⟩ = false) ∧
    w.cell? ⟨g, q0.length * 5, none⟩ = some (.int .i64 x.1.f) ∧ w.cell? ⟨g, q0.length * 5 + 1, none⟩ = some (.int .i64 (x.1.pc : Int)) ∧ w.cell? ⟨g, q0.length * 5 + 2, none⟩ = some x.2.l ∧ w.cell? ⟨g, q0.length * 5 + 3, none⟩ = some x.2.o ∧ w.cell? ⟨g, q0.length * 5 + 4, none⟩ = some x.2.b ∧ FrM w x ∧ ¬ FtB x.2 g := by
  have hl : (q0 ++ [x]).length = q0.length + 1 := by simp
  have hr := h.row
  rw [hl] at hr
  obtain ⟨g, cap, hv, h1, h2, h3, h4, h5⟩ := hr.ptr (by omega)
  have hc : ∀ j u, (frC x)[j]? = some u → w.cell? ⟨g, q0.length * 5 + j, none⟩ = some u := fun j u hu => by
    refine h4 _ u ?_
    rw [List.flatMap_append, List.getElem?_append_right (by rw [frC_len]; omega), frC_len, Nat.add_sub_cancel_left]
    simpa using hu
  refine ⟨g, cap, hv, h1, h2, h3, h5, hc 0 _ rfl, hc 1 _ rfl, hc 2 _ rfl, hc 3 _ rfl, hc 4 _ rfl, (h.fr x (by simp)).1, (h.fr x (by simp)).2 g (by rw [hv]; rfl)⟩
/- one field of the top frame is laid anew -/
theorem Fstk.upd (h : Fstk w vf (q0 ++ [x])) (hk : Kp P w w1) (hP : ∀ k, P k → FtB x.2 k) (hx : FrM w1 x') (hown : ∀ k, FtB x'.2 k → FtB x.2 k ∨ w.heap.size ≤ k) {g j : Nat} (hg : vf.ownBlock = some g) (hj : j < 5) {u : Value} (hc : frC x' = (frC x).set j u) :
    Fstk (w1.setCell ⟨g, q0.length * 5 + j, none⟩ u) vf (q0 ++ [x']) ∧ Kp (FsB vf (q0 ++ [x])) w (w1.setCell ⟨g, q0.length * 5 + j, none⟩ u) := by
  have hgx := (h.fr x (by simp)).2 g hg
  have hglt := h.row.lt hg
  have hdj := List.pairwise_append.1 h.dj
  have hxg : ∀ k, FtB x'.2 k → k ≠ g := fun k hk e => by
    subst e
    rcases hown k hk with h1 | h1
    · exact hgx h1
    · omega
  have hold : ∀ y, y ∈ q0 → ∀ k, FtB y.2 k → ¬ FtB x.2 k := fun y hy k hk => hdj.2.2 y hy x (by simp) k hk
  refine ⟨⟨?_, fun y hy => ?_, ?_⟩, ?_⟩
  · have hl : (q0 ++ [x']).length = (q0 ++ [x]).length := by simp
    rw [hl, top_set q0 x x' hj hc]
    exact (h.row.keep hk (fun k e hp => (h.fr x (by simp)).2 k e (hP k hp))).set hg (by simp; omega) u
  · rcases List.mem_append.1 hy with hy | hy
    · have hfy := h.fr y (by simp [hy])
      refine ⟨(hfy.1.keep hk (fun k e hp => hold y hy k e (hP k hp))).other (fun k e (e2 : k = g) => hfy.2 g hg (by rw [← e2]; exact e)) _, hfy.2⟩
    · simp at hy
      subst hy
      refine ⟨hx.other hxg _, fun k e e2 => ?_⟩
      rw [hg] at e
      simp at e
      subst e
      exact hxg g e2 rfl
  · refine List.pairwise_append.2 ⟨hdj.1, by simp, fun y hy z hz k hk e => ?_⟩
    simp at hz
    subst hz
    rcases hown k e with h1 | h1
    · exact hold y hy k hk h1
    · have := (h.fr y (by simp [hy])).1.lt hk
      omega
  · refine (hk.mono (fun k hp => .inr ⟨x, by simp, hP k hp⟩)).trans ?_
    exact kp_set1 w1 u (.inl hg)
theorem valC_len (l : List MV) : (valC l).length = l.length * 2 := by
  induction l with
  | nil => rfl
  | cons a r ih => unfold valC at ih ⊢; rw [List.flatMap_cons, List.length_append, ih]; simp; omega
theorem valC_app (a b : List MV) : valC (a ++ b) = valC a ++ valC b := by unfold valC; rw [List.flatMap_append]
theorem labC_len (l : List (Nat × Nat)) : (labC l).length = l.length * 2 := by
  induction l with
  | nil => rfl
  | cons a r ih => unfold labC at ih ⊢; rw [List.flatMap_cons, List.length_append, ih]; simp; omega
theorem labC_app (a b : List (Nat × Nat)) : labC (a ++ b) = labC a ++ labC b := by unfold labC; rw [List.flatMap_append]
theorem valC_take (a b : List MV) : (valC (a ++ b)).take (a.length * 2) = valC a := by rw [valC_app, ← valC_len, List.take_left]
theorem labC_take (a b : List (Nat × Nat)) : (labC (a ++ b)).take (a.length * 2) = labC a := by rw [labC_app, ← labC_len, List.take_left]
theorem valC_at {l : List MV} {i : Nat} {v : MV} (h : l[i]? = some v) : (valC l)[i * 2]? = some (.int .u8 (v.t : Int)) ∧ (valC l)[i * 2 + 1]? = some (.int .u64 (v.b : Int)) := by
  have hi := (List.getElem?_eq_some_iff.1 h)
  have e : l = l.take i ++ [v] ++ l.drop (i + 1) := by
    have h1 := List.take_append_drop i l
    have h2 : l.drop i = v :: l.drop (i + 1) := by rw [List.drop_eq_getElem_cons hi.1, hi.2]
    rw [h2] at h1
    rw [List.append_assoc]
    exact h1.symm
  have hl : (valC (l.take i)).length = i * 2 := by rw [valC_len, List.length_take, Nat.min_eq_left (by have := hi.1; omega)]
  rw [e, valC_app, valC_app, List.append_assoc]
  constructor
  · rw [List.getElem?_append_right (by omega), hl, Nat.sub_self]; rfl
  · rw [List.getElem?_append_right (by omega), hl, Nat.add_sub_cancel_left]; rfl
theorem labC_at {l : List (Nat × Nat)} {i : Nat} {v : Nat × Nat} (h : l[i]? = some v) : (labC l)[i * 2]? = some (.int .i64 (v.1 : Int)) ∧ (labC l)[i * 2 + 1]? = some (.int .i64 (v.2 : Int)) := by
  have hi := (List.getElem?_eq_some_iff.1 h)
  have e : l = l.take i ++ [v] ++ l.drop (i + 1) := by
    have h1 := List.take_append_drop i l
    have h2 : l.drop i = v :: l.drop (i + 1) := by rw [List.drop_eq_getElem_cons hi.1, hi.2]
    rw [h2] at h1
    rw [List.append_assoc]
    exact h1.symm
  have hl : (labC (l.take i)).length = i * 2 := by rw [labC_len, List.length_take, Nat.min_eq_left (by have := hi.1; omega)]
  rw [e, labC_app, labC_app, List.append_assoc]
  constructor
  · rw [List.getElem?_append_right (by omega), hl, Nat.sub_self]; rfl
  · rw [List.getElem?_append_right (by omega), hl, Nat.add_sub_cancel_left]; rfl
end
theorem u227 : Tryz.prog.underlying 227 = some (.slice 229) := by kernel_rfl
theorem u299 : Tryz.prog.underlying 299 = some (.slice 347) := by kernel_rfl
theorem i229i : ∃ (i : TypeInfo) (z : Value), Tryz.prog.info? 229 = some i ∧ i.zero = some z ∧ z.cells.size = 2 ∧ i.size = 2 ∧ i.bytes = 16 := by
  have h0 : (Tryz.prog.info? 229).map (fun i => (i.zero.map (fun z => z.cells.size), i.size, i.bytes)) = some (some 2, 2, 16) := by kernel_rfl
  cases h : Tryz.prog.info? 229 with
  | none => rw [h] at h0; simp at h0
  | some i =>
    rw [h] at h0
    simp at h0
    obtain ⟨⟨z, h1, h2⟩, h3, h4⟩ := h0
    exact ⟨i, z, rfl, h1, h2, h3, h4⟩
theorem i347i : ∃ (i : TypeInfo) (z : Value), Tryz.prog.info? 347 = some i ∧ i.zero = some z ∧ z.cells.size = 2 ∧ i.size = 2 ∧ i.bytes = 16 := by
  have h0 : (Tryz.prog.info? 347).map (fun i => (i.zero.map (fun z => z.cells.size), i.size, i.bytes)) = some (some 2, 2, 16) := by kernel_rfl
  cases h : Tryz.prog.info? 347 with
  | none => rw [h] at h0; simp at h0
  | some i =>
    rw [h] at h0
    simp at h0
    obtain ⟨⟨z, h1, h2⟩, h3, h4⟩ := h0
    exact ⟨i, z, rfl, h1, h2, h3, h4⟩
end Go.Proofs.Qxb6500275aGreatDoor
