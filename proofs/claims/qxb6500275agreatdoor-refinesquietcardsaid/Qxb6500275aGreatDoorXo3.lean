import Derived.Test.Qxb6500275aGreatDoorXo2
import Derived.Test.Qxb6500275aGreatDoorVb1
import Derived.Test.Qxb6500275aGreatDoorBb2
import Derived.Test.Qxb6500275aGreatDoorKf
set_option maxRecDepth 100000
set_option linter.unusedVariables false
set_option linter.unusedSimpArgs false
namespace Go.Proofs.Qxb6500275aGreatDoor
open Go Go.RowKit
theorem wp_genX {P : Program} {c : Code} {Q : Exit → Act → World → Prop} {ac : Act} {W : World} {k : Nat} (h : ∀ U, Kp (fun _ => False) W U → Code.wp P c Q ac U) : Code.wp P c Q ac (W.drewN k) := h _ ((Kp.refl _ _).drewM k)
/- the frames without the top -/
theorem Fstk.cut {w : World} {g cap : Nat} {q0 : List (MF × FT3)} {x : MF × FT3} (h : Fstk w (.slice (some ⟨g, 0, none⟩) (q0.length + 1) cap) (q0 ++ [x])) : Fstk w (.slice (some ⟨g, 0, none⟩) q0.length cap) q0 := by
  have hl : (q0 ++ [x]).length = q0.length + 1 := by simp
  have hr := h.row
  rw [hl] at hr
  have ht := hr.trunc (k := q0.length) (by omega) rfl
  have e : ((q0 ++ [x]).flatMap frC).take (q0.length * 5) = q0.flatMap frC := by rw [List.flatMap_append, ← frC_len, List.take_left]
  rw [e] at ht
  exact ⟨ht, fun y hy => ⟨(h.fr y (by simp [hy])).1, fun k hk => (h.fr y (by simp [hy])).2 k hk⟩, (List.pairwise_append.1 h.dj).1⟩
theorem Fstk.cutGw {w : World} {g cap : Nat} {q0 : List (MF × FT3)} {x : MF × FT3} : Gw w w (FsB (.slice (some ⟨g, 0, none⟩) (q0.length + 1) cap) (q0 ++ [x])) (FsB (.slice (some ⟨g, 0, none⟩) q0.length cap) q0) :=
  ⟨Kp.refl _ _, fun k hk => .inl (by
    rcases hk with e | ⟨y, hy, e⟩
    · exact .inl e
    · exact .inr ⟨y, by simp [hy], e⟩)⟩
theorem OR.capR {w : World} {e : TypeId} {sz n : Nat} {v : Value} {xs : List Value} (h : OR w e sz v n xs) {a : Option Addr} {k cap : Nat} (hv : v = .slice a k cap) : k ≤ cap ∧ cap ≤ 9223372036854775807 := by
  subst hv
  rcases h.2 with ⟨e1, e2⟩ | ⟨g, cap', cur, e1, h3, h4, h5, h6, _⟩
  · injection e1 with _ e3 e4
    omega
  · injection e1 with _ e3 e4
    simp only [maxLen] at h6
    omega
theorem matchL_le : ∀ (l : List Ins) (j d : Nat) (e : Int), (matchL l j d e).1 ≤ j + l.length
  | [], j, d, e => by simp [matchL]
  | x :: xs, j, d, e => by
    unfold matchL
    repeat' split
    all_goals first
      | (refine Nat.le_trans (matchL_le xs _ _ _) ?_; simp; omega)
      | (simp)
theorem endF_le (fn : Fn) {s : Nat} (hs : s ≤ fn.body.length) : endF fn s ≤ fn.body.length := by
  have := matchL_le (fn.body.drop s) s 0 (-1)
  rw [List.length_drop] at this
  have e : endF fn s = (matchL (fn.body.drop s) s 0 (-1)).1 := rfl
  omega
theorem opAt_get {fn : Fn} {a : Nat} (h : a < fn.body.length) : fn.body[a]? = some (opAt fn a) := by
  rw [List.getElem?_eq_getElem h]
  unfold opAt
  rw [List.getD_eq_getElem?_getD, List.getElem?_eq_getElem h]
  rfl
section
variable {w0 w u : World} {N0 N : EN} {q : MQ} {g cap : Nat} {q0 q1 : List (MF × FT3)} {x b : MF × FT3}
/- the top frame goes -/
theorem Ew.dropTop (h : Ew w0 N0 w N q g cap (q1 ++ [b]) x) : Ew w0 N0 (w.setCell ⟨N.xb, 3, none⟩ (.slice (some ⟨g, 0, none⟩) (q1.length + 1) cap)) { N with vf := .slice (some ⟨g, 0, none⟩) (q1.length + 1) cap, fs := q1 ++ [b] } { q with fr := b.1 :: (q1.map (·.1)).reverse } g cap q1 b := by
  have hl : (q1 ++ [b]).length = q1.length + 1 := by simp
  have hfk := h.fk
  have hvf := h.vf
  rw [hvf] at hfk
  have h1 := hfk.cut
  rw [hl] at h1
  have hg : Gw w w (FsB N.vf N.fs) (FsB (.slice (some ⟨g, 0, none⟩) (q1.length + 1) cap) (q1 ++ [b])) := by
    have := Fstk.cutGw (w := w) (g := g) (cap := cap) (q0 := q1 ++ [b]) (x := x)
    rw [hl] at this
    rw [hvf, h.fs, hl]
    exact this
  obtain ⟨k1, k2⟩ := h.em.reslice h1 hg
  exact ⟨k1, rfl, rfl, rfl, h.xb, h.sb, h.hb, h.mb, h.m, h.gw.trans k2⟩
theorem Ew.dropGw (h : Ew w0 N0 w N q g cap (q1 ++ [b]) x) : Gw w (w.setCell ⟨N.xb, 3, none⟩ (.slice (some ⟨g, 0, none⟩) (q1.length + 1) cap)) N.all ({ N with vf := .slice (some ⟨g, 0, none⟩) (q1.length + 1) cap, fs := q1 ++ [b] } : EN).all := by
  have hl : (q1 ++ [b]).length = q1.length + 1 := by simp
  have hfk := h.fk
  have hvf := h.vf
  rw [hvf] at hfk
  have h1 := hfk.cut
  rw [hl] at h1
  have hg : Gw w w (FsB N.vf N.fs) (FsB (.slice (some ⟨g, 0, none⟩) (q1.length + 1) cap) (q1 ++ [b])) := by
    have := Fstk.cutGw (w := w) (g := g) (cap := cap) (q0 := q1 ++ [b]) (x := x)
    rw [hl] at this
    rw [hvf, h.fs, hl]
    exact this
  exact (h.em.reslice h1 hg).2
/- the cells in sight -/
structure Ec (w : World) (N : EN) (q : MQ) (g cap n : Nat) (x : MF × FT3) : Prop where
  x0 : w.cell? ⟨N.xb, 0, none⟩ = some (.pointer (some ⟨N.mb, 0, none⟩))
  x1 : w.cell? ⟨N.xb, 1, none⟩ = some (.pointer (some ⟨N.sb, 0, none⟩))
  x2 : w.cell? ⟨N.xb, 2, none⟩ = some (.pointer (some ⟨N.hb, 0, none⟩))
  x3 : w.cell? ⟨N.xb, 3, none⟩ = some (.slice (some ⟨g, 0, none⟩) (n + 1) cap)
  x4 : w.cell? ⟨N.xb, 4, none⟩ = some (.int .i64 (q.fuel : Int))
  y3 : w.frozen? ⟨N.xb, 3, none⟩ = false
  y4 : w.frozen? ⟨N.xb, 4, none⟩ = false
  f0 : w.cell? ⟨g, n * 5, none⟩ = some (.int .i64 x.1.f)
  f1 : w.cell? ⟨g, n * 5 + 1, none⟩ = some (.int .i64 (x.1.pc : Int))
  f2 : w.cell? ⟨g, n * 5 + 2, none⟩ = some x.2.l
  f3 : w.cell? ⟨g, n * 5 + 3, none⟩ = some x.2.o
  f4 : w.cell? ⟨g, n * 5 + 4, none⟩ = some x.2.b
  fz : ∀ j, w.frozen? ⟨g, j, none⟩ = false
  ap : N.xb ≠ g
  fc : n + 1 ≤ cap ∧ cap ≤ 9223372036854775807
theorem Ew.cells (h : Ew w0 N0 w N q g cap q0 x) {n : Nat} (hn : q0.length = n) : Ec w N q g cap n x := by
  obtain ⟨x0, x1, x2, x3, x4⟩ := h.em.c
  obtain ⟨g', cap', hv', h1, h2, h3, h4, c0, c1, c2, c3, c4, hM, hng⟩ := h.fk.top
  have e := h.vf
  rw [hv'] at e
  simp at e
  obtain ⟨rfl, rfl⟩ := e
  rw [h.vf] at x3
  subst hn
  exact ⟨x0, x1, x2, x3, x4, h.em.fz 3 (by decide), h.em.fz 4 (by decide), c0, c1, c2, c3, c4, h4, fun e => h.em.ap 0 4 N.xb (by decide) rfl (by rw [e]; exact .inl h.own), h2, h3⟩
theorem Ew.frm (h : Ew w0 N0 w N q g cap q0 x) : FrM w x := by
  obtain ⟨g', cap', hv', h1, h2, h3, h4, c0, c1, c2, c3, c4, hM, hng⟩ := h.fk.top
  exact hM
theorem Ew.fng (h : Ew w0 N0 w N q g cap q0 x) : ¬ FtB x.2 g := by
  obtain ⟨g', cap', hv', h1, h2, h3, h4, c0, c1, c2, c3, c4, hM, hng⟩ := h.fk.top
  have e := h.vf
  rw [hv'] at e
  simp at e
  rw [← e.1]
  exact hng
theorem Ew.mk_ (h : Ew w0 N0 w N q g cap q0 x) : Mw w N.mb N.m := h.em.mw
/- a block of two cells that is no part of the machine -/
structure Vb (w : World) (N : EN) (B : Nat) (a b : Value) : Prop where
  c0 : w.cell? ⟨B, 0, none⟩ = some a
  c1 : w.cell? ⟨B, 1, none⟩ = some b
  z0 : w.frozen? ⟨B, 0, none⟩ = false
  z1 : w.frozen? ⟨B, 1, none⟩ = false
  fo : ¬ N.all B
theorem Vb.lt {B : Nat} {a b : Value} (h : Vb w N B a b) : B < w.heap.size := lt_of_cell h.c0
theorem Ew.all_lt (h : Ew w0 N0 w N q g cap q0 x) {k : Nat} (hk : N.all k) : k < w.heap.size := by
  obtain ⟨i, hi⟩ := hk
  exact h.em.lt hi
theorem Vb.new (h : Ew w0 N0 w N q g cap q0 x) (a b : Value) (e : TypeId) : Vb (w.alloc (.cells #[a, b] e)) N w.heap.size a b := by
  have hb := blk_al w #[a, b] e
  exact ⟨hb.cell (i := 0) (by simp), hb.cell (i := 1) (by simp), hb.fz (by simp), hb.fz (by simp), fun hk => by have := h.all_lt hk; omega⟩
theorem Vb.keep {P : Nat → Prop} {B : Nat} {a b : Value} {N' : EN} (h : Vb w N B a b) (hk : Kp P w u) (hp : ¬ P B) (hN : ¬ N'.all B) : Vb u N' B a b :=
  ⟨(hk.cell (p := ⟨B, 0, none⟩) h.lt hp).trans h.c0, (hk.cell (p := ⟨B, 1, none⟩) h.lt hp).trans h.c1, (hk.frozen (p := ⟨B, 0, none⟩) h.lt hp).trans h.z0, (hk.frozen (p := ⟨B, 1, none⟩) h.lt hp).trans h.z1, hN⟩
theorem Vb.quiet {B : Nat} {a b : Value} (h : Vb w N B a b) (hk : Kp (fun _ => False) w u) : Vb u N B a b := h.keep hk (fun h => h) h.fo
theorem Vb.gw {B : Nat} {a b : Value} {N' : EN} (h : Vb w N B a b) (hg : Gw w u N.all N'.all) : Vb u N' B a b :=
  h.keep hg.kp h.fo (fun hk => by
    rcases hg.own B hk with h1 | h1
    · exact h.fo h1
    · have := h.lt; omega)
theorem Vb.set {B : Nat} {a b : Value} (h : Vb w N B a b) (a' b' : Value) : Vb ((w.setCell ⟨B, 0, none⟩ a').setCell ⟨B, 1, none⟩ b') N B a' b' := by
  obtain ⟨c0, c1, z0, z1, fo⟩ := h
  exact ⟨by simp [c0, go_sem], by simp [c1, go_sem], by simp [z0, go_sem], by simp [z1, go_sem], fo⟩
theorem Ew.scratch (h : Ew w0 N0 w N q g cap q0 x) {B : Nat} (h0 : w0.heap.size ≤ B) (hB : ¬ N.all B) (hk : Kp (fun k => k = B) w u) : Ew w0 N0 u N q g cap q0 x := by
  refine ⟨h.em.keep hk (fun k hk e => hB (by rw [← e]; exact hk)), h.fs, h.fr, h.vf, h.xb, h.sb, h.hb, h.mb, h.m, ⟨h.gw.kp.later hk (fun j hj => .inr (by rw [hj]; exact h0)), h.gw.own⟩⟩
theorem Ew.topGw (h : Ew w0 N0 w N q g cap q0 x) {r' : MF} {t' : FT3} (hf : Fkm w u N.vf q0 x r' t') : Gw w u N.all ({ N with fs := q0 ++ [(r', t')] } : EN).all := (h.em.top h.fs hf).2
theorem kp_set2 (w : World) (B : Nat) (a b : Value) : Kp (fun k => k = B) w ((w.setCell ⟨B, 0, none⟩ a).setCell ⟨B, 1, none⟩ b) := (kp_set1 (P := fun k => k = B) w _ rfl).trans (kp_set1 (P := fun k => k = B) _ _ rfl)
theorem split_kp (t : Ty) (hp : Vals t.p) (hs : t.p.size ≤ 4) (hq : t.q.size ≤ 1) (w : World) : Calls Tryz.prog 86 #[.string t.text] w (fun e w' => e = .returned (.tuple #[.string t.p, .string t.q]) ∧ Kp (fun _ => False) w w') :=
  (split_quiet t hp hs hq).mono (fun e w' ⟨h1, k, h2⟩ => ⟨h1, by rw [h2]; exact (Kp.refl _ _).drewM k⟩)
end
end Go.Proofs.Qxb6500275aGreatDoor
