import Derived.Test.Qxb6500275aGreatDoorXo1
import Derived.Test.Qxb6500275aGreatDoorXo0
set_option maxRecDepth 100000
set_option linter.unusedVariables false
set_option linter.unusedSimpArgs false
namespace Go.Proofs.Qxb6500275aGreatDoor
open Go Go.RowKit
section
variable {r r' : MF} {v : MV} {want : Nat}
theorem FB.pop (h : FB r) (hp : popM r want = some (v, r')) : FB r' ∧ v.t < 256 ∧ v.b < 18446744073709551616 := by
  obtain ⟨l0, e1, e2, e3, rfl⟩ := popM_some hp
  have hv := h.ok v (.inr (by rw [e1]; simp))
  have hl : l0.length ≤ 10 := by have := h.ops; rw [e1] at this; simp at this; omega
  exact ⟨⟨h.pc, h.loc, hl, h.labs, fun u hu => h.ok u (by rcases hu with hu | hu; exact .inl hu; exact .inr (by rw [e1]; exact List.mem_append.2 (.inl hu))), e2, h.lab, h.f⟩, hv⟩
theorem FB.push (h : FB r) (hp : pushM r v = some r') (ht : v.t < 256) (hb : v.b < 18446744073709551616) : FB r' := by
  unfold pushM at hp
  rcases iteC hp with ⟨_, hp⟩ | ⟨h10, hp⟩
  · simp at hp
  · simp at hp
    subst hp
    refine ⟨h.pc, h.loc, by simp; omega, h.labs, fun u hu => ?_, by have := h.fl; show r.floor ≤ _; simp; omega, h.lab, h.f⟩
    rcases hu with hu | hu
    · exact h.ok u (.inl hu)
    · rcases List.mem_append.1 hu with hu | hu
      · exact h.ok u (.inr hu)
      · simp at hu
        subst hu
        exact ⟨ht, hb⟩
theorem FB.lh (h : FB r) : ∀ l, l ∈ r.labs → l.2 ≤ 100 := fun l hl => by have := (h.lab l hl).2; have := h.fl; have := h.ops; omega
end
/- the machine with its top frame in sight; w0, N0: where the method began -/
structure Ew (w0 : World) (N0 : EN) (w : World) (N : EN) (q : MQ) (g cap : Nat) (q0 : List (MF × FT3)) (x : MF × FT3) : Prop where
  em : Em w N q.fuel q.S q.H
  fs : N.fs = q0 ++ [x]
  fr : q.fr = x.1 :: (q0.map (·.1)).reverse
  vf : N.vf = .slice (some ⟨g, 0, none⟩) (q0.length + 1) cap
  xb : N.xb = N0.xb
  sb : N.sb = N0.sb
  hb : N.hb = N0.hb
  mb : N.mb = N0.mb
  m : N.m = N0.m
  gw : Gw w0 w N0.all N.all
section
variable {w0 w u : World} {N0 N : EN} {q : MQ} {g cap : Nat} {q0 : List (MF × FT3)} {x : MF × FT3}
theorem Ew.start {fuel : Nat} (h : Em w N q.fuel q.S q.H) (hf : N.fs.map (·.1) = q.fr.reverse) (hn : q.fr ≠ []) : ∃ g cap q0 x, Ew w N w N q g cap q0 x := by
  have hl : N.fs ≠ [] := fun e => by
    rw [e] at hf
    simp at hf
    exact hn hf
  obtain ⟨q0, x, e⟩ : ∃ q0 x, N.fs = q0 ++ [x] := by
    rcases List.eq_nil_or_concat N.fs with e | ⟨q0, x, e⟩
    · exact absurd e hl
    · exact ⟨q0, x, by rw [e, List.concat_eq_append]⟩
  have hk := h.fk
  rw [e] at hk
  obtain ⟨g, cap, hv, _⟩ := hk.top
  refine ⟨g, cap, q0, x, h, e, ?_, hv, rfl, rfl, rfl, rfl, rfl, Gw.refl _ _⟩
  have h1 := congrArg List.reverse hf
  rw [List.reverse_reverse, e] at h1
  rw [← h1]
  simp
theorem Ew.quiet (h : Ew w0 N0 w N q g cap q0 x) (hk : Kp (fun _ => False) w u) : Ew w0 N0 u N q g cap q0 x :=
  ⟨h.em.quiet hk, h.fs, h.fr, h.vf, h.xb, h.sb, h.hb, h.mb, h.m, h.gw.quiet hk⟩
theorem Ew.setTop (h : Ew w0 N0 w N q g cap q0 x) {r' : MF} {t' : FT3} (hf : Fkm w u N.vf q0 x r' t') : Ew w0 N0 u { N with fs := q0 ++ [(r', t')] } (q.top r') g cap q0 (r', t') := by
  obtain ⟨h1, h2⟩ := h.em.top h.fs hf
  refine ⟨h1, rfl, ?_, h.vf, h.xb, h.sb, h.hb, h.mb, h.m, h.gw.trans h2⟩
  unfold MQ.top
  rw [h.fr]
  rfl
theorem Ew.store (h : Ew w0 N0 w N q g cap q0 x) {vm vt vg : Value} {S' : Sm} (hs : Ms u N.sb vm vt vg S') (hg : Gw w u (Mt N.sb N.vm N.vt N.vg) (Mt N.sb vm vt vg)) : Ew w0 N0 u { N with vm := vm, vt := vt, vg := vg } { q with S := S' } g cap q0 x := by
  obtain ⟨h1, h2⟩ := h.em.store hs hg
  exact ⟨h1, h.fs, h.fr, h.vf, h.xb, h.sb, h.hb, h.mb, h.m, h.gw.trans h2⟩
theorem Ew.host (h : Ew w0 N0 w N q g cap q0 x) {vk vp : Value} {H' : Hm} (hs : Mh u N.hb vk vp H') (hg : Gw w u (Mhv N.hb N.vk N.vp) (Mhv N.hb vk vp)) : Ew w0 N0 u { N with vk := vk, vp := vp } { q with H := H' } g cap q0 x := by
  obtain ⟨h1, h2⟩ := h.em.host hs hg
  exact ⟨h1, h.fs, h.fr, h.vf, h.xb, h.sb, h.hb, h.mb, h.m, h.gw.trans h2⟩
theorem Ew.setFuel (h : Ew w0 N0 w N q g cap q0 x) (n : Nat) : Ew w0 N0 (w.setCell ⟨N.xb, 4, none⟩ (.int .i64 (n : Int))) N { q with fuel := n } g cap q0 x := by
  obtain ⟨h1, h2⟩ := h.em.setFuel n
  exact ⟨h1, h.fs, h.fr, h.vf, h.xb, h.sb, h.hb, h.mb, h.m, h.gw.trans h2⟩
theorem Ew.end_ (h : Ew w0 N0 w N q g cap q0 x) : Ee w0 w N0 N q := by
  refine ⟨h.em, ?_, h.xb, h.sb, h.hb, h.mb, h.m, h.gw⟩
  rw [h.fs, h.fr]
  simp
theorem Ew.fk (h : Ew w0 N0 w N q g cap q0 x) : Fstk w N.vf (q0 ++ [x]) := by have := h.em.fk; rw [h.fs] at this; exact this
theorem Ew.own (h : Ew w0 N0 w N q g cap q0 x) : N.vf.ownBlock = some g := by rw [h.vf]; rfl
/- what a pop, a push come to -/
theorem pop_w (h : Ew w0 N0 w N q g cap q0 x) (hB : FB x.1) {v : MV} {r' : MF} {want : Nat} (hw : want < 256) (hp : popM x.1 want = some (v, r')) :
    Calls Tryz.prog 257 #[.pointer (some ⟨g, q0.length * 5, none⟩), .int .u8 (want : Int)] w (fun en u => en = .returned (.tuple #[.agg #[.int .u8 (v.t : Int), .int .u64 (v.b : Int)], .bool true]) ∧ ∃ t', Fkm w u N.vf q0 x r' t') :=
  pop_m h.fk h.vf hw hp (hB.pop hp).2.1 (hB.pop hp).2.2 (by have := hB.labs; omega) (by have := hB.ops; omega) hB.lh
theorem push_w (h : Ew w0 N0 w N q g cap q0 x) {v : MV} {r' : MF} (hp : pushM x.1 v = some r') (ht : v.t < 256) (hb : v.b < 18446744073709551616) :
    Calls Tryz.prog 271 #[.pointer (some ⟨g, q0.length * 5, none⟩), .int .u8 (v.t : Int), .int .u64 (v.b : Int)] w (fun en u => en = .returned (.bool true) ∧ ∃ t', Fkm w u N.vf q0 x r' t') :=
  push_m h.fk h.vf hp ht hb
end
/- the other fields of the top frame -/
section
variable {w u : World} {vf : Value} {q0 : List (MF × FT3)} {x : MF × FT3} {r : MF} {t : FT3}
theorem Fkm.later (h : Fkm w u vf q0 x r t) {u' : World} {r' : MF} {t' : FT3} (hf : Fstk u' vf (q0 ++ [(r', t')])) (hk : Kp (FsB vf (q0 ++ [(r, t)])) u u') (ho : ∀ k, FtB t' k → FtB t k ∨ u.heap.size ≤ k) : Fkm w u' vf q0 x r' t' := by
  refine ⟨hf, h.2.1.later hk (fun k hk => ?_), fun k hk => ?_⟩
  · rcases hk with e | ⟨y, hy, e⟩
    · exact .inl (.inl e)
    · rcases List.mem_append.1 hy with hy | hy
      · exact .inl (.inr ⟨y, by simp [hy], e⟩)
      · simp at hy
        subst hy
        rcases h.2.2 k e with h5 | h5
        · exact .inl (.inr ⟨x, by simp, h5⟩)
        · exact .inr h5
  · rcases ho k hk with h5 | h5
    · exact h.2.2 k h5
    · exact .inr (Nat.le_trans h.2.1.size h5)
/- the place -/
theorem Fkm.setPc (h : Fkm w u vf q0 x r t) (n : Nat) {g : Nat} (hg : vf.ownBlock = some g) : Fkm w (u.setCell ⟨g, q0.length * 5 + 1, none⟩ (.int .i64 (n : Int))) vf q0 x { r with pc := n } t := by
  obtain ⟨g', cap', hv', h1, h2, h3, h4, c0, c1, c2, c3, c4, hM, hng⟩ := h.1.top
  obtain ⟨k1, k2⟩ := h.1.upd (x' := ({ r with pc := n }, t)) (Kp.refl (fun _ => False) u) (fun k hk => hk.elim) ⟨hM.l, hM.o, hM.b, hM.lo, hM.ob⟩ (fun k hk => .inl hk) hg (j := 1) (by decide) (u := .int .i64 (n : Int)) rfl
  exact h.later k1 k2 (fun k hk => .inl hk)
/- a label more -/
theorem Fkm.pushL (h : Fkm w u vf q0 x r t) (hn : r.labs.length ≤ 1000) (a b : Nat) {g : Nat} (hg : vf.ownBlock = some g) :
    ∃ v' w', (Builtin.append_ #[299, 299] 299 #[t.b, .slice (some ⟨u.heap.size, 0, none⟩) 1 1]).run Tryz.prog (u.alloc (.cells #[.int .i64 (a : Int), .int .i64 (b : Int)] 347)) = .ok v' w' ∧ (w'.cell? ⟨g, q0.length * 5 + 4, none⟩ = some t.b ∧ w'.frozen? ⟨g, q0.length * 5 + 4, none⟩ = false) ∧ (∃ a n c, v' = .slice a n c) ∧
      Fkm w (w'.setCell ⟨g, q0.length * 5 + 4, none⟩ v') vf q0 x { r with labs := r.labs ++ [(a, b)] } { t with b := v' } := by
  obtain ⟨i, z, i1, i2, i3, i4, i5⟩ := i347i
  obtain ⟨g', cap', hv', h1, h2, h3, h4, c0, c1, c2, c3, c4, hM, hng⟩ := h.1.top
  have hgg : g' = g := by rw [hv'] at hg; simpa [Value.ownBlock] using hg
  subst hgg
  obtain ⟨v', w', r1, r2, r3, r4⟩ := hM.b.push2 u299 i1 i2 i4 (by omega) i3 (by dsimp only; omega) (.int .i64 (a : Int)) (.int .i64 (b : Int)) rfl rfl
  have hne : t.b.ownBlock ≠ some g' := fun e => hng (.inr (.inr e))
  have hrow' := h.1.row.keep r3 (fun k e hk => by
    rw [hg] at e
    simp at e
    subst e
    exact hne hk)
  obtain ⟨g2, cap2, e2, _, _, _, _, fz⟩ := hrow'.ptr (by simp)
  have hg2 : g2 = g' := by rw [e2] at hg; simpa [Value.ownBlock] using hg
  subst hg2
  have hfr : FrM w' ({ r with labs := r.labs ++ [(a, b)] }, { t with b := v' }) := by
    refine ⟨hM.l.keep r3 (fun k e hk => (hM.lo k e).2 hk), hM.o.keep r3 (fun k e hk => hM.ob k e hk), ?_, fun k e => ⟨(hM.lo k e).1, fun e2 => ?_⟩, fun k e e2 => ?_⟩
    · dsimp only
      rw [labC_app, List.length_append]
      exact r2
    · rcases r4 k e2 with h5 | h5
      · exact (hM.lo k e).2 h5
      · have := hM.l.lt e; omega
    · rcases r4 k e2 with h5 | h5
      · exact hM.ob k e h5
      · have := hM.o.lt e; omega
  have hown : ∀ k, FtB { t with b := v' } k → FtB t k ∨ u.heap.size ≤ k := fun k hk => by
    rcases hk with e | e | e
    · exact .inl (.inl e)
    · exact .inl (.inr (.inl e))
    · rcases r4 k e with h5 | h5
      · exact .inl (.inr (.inr h5))
      · exact .inr h5
  obtain ⟨k1, k2⟩ := h.1.upd (x' := ({ r with labs := r.labs ++ [(a, b)] }, { t with b := v' })) r3 (fun k hk => .inr (.inr hk)) hfr hown hg (j := 4) (by decide) (u := v') rfl
  refine ⟨v', w', r1, ⟨?_, fz _⟩, ?_, h.later k1 k2 hown⟩
  · rw [r3.cell (p := ⟨g2, q0.length * 5 + 4, none⟩) h1 hne]
    exact c4
  · obtain ⟨a, c, e⟩ := r2.slice
    exact ⟨a, _, c, e⟩
/- the labels cut -/
theorem Fkm.cutL (h : Fkm w u vf q0 x r t) {a : Option Addr} {cap : Nat} {l0 l1 : List (Nat × Nat)} (hv : t.b = .slice a (l0 ++ l1).length cap) (hr : r.labs = l0 ++ l1) {g : Nat} (hg : vf.ownBlock = some g) :
    Fkm w (u.setCell ⟨g, q0.length * 5 + 4, none⟩ (.slice a l0.length cap)) vf q0 x { r with labs := l0 } { t with b := .slice a l0.length cap } := by
  obtain ⟨g', cap', hv', h1, h2, h3, h4, c0, c1, c2, c3, c4, hM, hng⟩ := h.1.top
  have hob : (Value.slice a l0.length cap).ownBlock = t.b.ownBlock := by rw [hv]; cases a <;> rfl
  have hto := hM.b
  dsimp only at hto
  rw [hr] at hto
  have ho := hto.trunc (k := l0.length) (by simp) hv
  rw [labC_take] at ho
  have hfr : FrM u ({ r with labs := l0 }, { t with b := .slice a l0.length cap }) := ⟨hM.l, hM.o, ho, fun k e => ⟨(hM.lo k e).1, fun e2 => (hM.lo k e).2 (by rw [← hob]; exact e2)⟩, fun k e e2 => hM.ob k e (by rw [← hob]; exact e2)⟩
  have hown : ∀ k, FtB { t with b := Value.slice a l0.length cap } k → FtB t k := fun k hk => by
    rcases hk with e | e | e
    · exact .inl e
    · exact .inr (.inl e)
    · exact .inr (.inr (by rw [← hob]; exact e))
  obtain ⟨k1, k2⟩ := h.1.upd (x' := ({ r with labs := l0 }, { t with b := .slice a l0.length cap })) (Kp.refl (fun _ => False) u) (fun k hk => hk.elim) hfr (fun k hk => .inl (hown k hk)) hg (j := 4) (by decide) (u := .slice a l0.length cap) rfl
  exact h.later k1 k2 (fun k hk => .inl (hown k hk))
theorem valC_set {l : List MV} {i : Nat} (hi : i < l.length) (v : MV) : valC (l.set i v) = ((valC l).set (i * 2) (.int .u8 (v.t : Int))).set (i * 2 + 1) (.int .u64 (v.b : Int)) := by
  induction l generalizing i with
  | nil => simp at hi
  | cons a r ih =>
    cases i with
    | zero => rfl
    | succ i =>
      have := ih (i := i) (by simpa using hi)
      unfold valC at this ⊢
      rw [List.set_cons_succ, List.flatMap_cons, this, List.flatMap_cons]
      show [_, _] ++ _ = _
      rw [show (i + 1) * 2 = (i * 2) + 1 + 1 by omega]
      rfl
/- a local is set -/
theorem Fkm.setLoc (h : Fkm w u vf q0 x r t) {i : Nat} (hi : i < r.loc.length) (v : MV) {gl cl : Nat} (hl : t.l = .slice (some ⟨gl, 0, none⟩) r.loc.length cl) : Fkm w ((u.setCell ⟨gl, i * 2, none⟩ (.int .u8 (v.t : Int))).setCell ⟨gl, i * 2 + 1, none⟩ (.int .u64 (v.b : Int))) vf q0 x { r with loc := r.loc.set i v } t := by
  obtain ⟨g', cap', hv', h1, h2, h3, h4, c0, c1, c2, c3, c4, hM, hng⟩ := h.1.top
  have hol : t.l.ownBlock = some gl := by rw [hl]; rfl
  obtain ⟨u', hu'⟩ : ∃ u', (u.setCell ⟨gl, i * 2, none⟩ (.int .u8 (v.t : Int))).setCell ⟨gl, i * 2 + 1, none⟩ (.int .u64 (v.b : Int)) = u' := ⟨_, rfl⟩
  have hk : Kp (fun k => k = gl) u u' := by rw [← hu']; exact (kp_set1 (P := fun k => k = gl) u _ rfl).trans (kp_set1 (P := fun k => k = gl) _ _ rfl)
  have hL : OR u' 229 2 t.l (r.loc.set i v).length (valC (r.loc.set i v)) := by
    rw [valC_set hi, List.length_set, ← hu']
    exact (hM.l.set hol (j := i * 2) (by dsimp only; omega) _).set hol (j := i * 2 + 1) (by dsimp only; omega) _
  have hdj := List.pairwise_append.1 h.1.dj
  rw [hu']
  have hfr : FrM u' ({ r with loc := r.loc.set i v }, t) := ⟨hL, hM.o.keep hk (fun k e e2 => (hM.lo gl hol).1 (by rw [← e2]; exact e)), hM.b.keep hk (fun k e e2 => (hM.lo gl hol).2 (by rw [← e2]; exact e)), hM.lo, hM.ob⟩
  refine h.later ⟨?_, fun y hy => ?_, ?_⟩ (hk.mono (fun k e => .inr ⟨(r, t), by simp, .inl (by rw [e]; exact hol)⟩)) (fun k hk => .inl hk)
  · have e : (q0 ++ [({ r with loc := r.loc.set i v }, t)]).flatMap frC = (q0 ++ [(r, t)]).flatMap frC := by simp [frC]
    have hrow := h.1.row.keep hk (fun k e e2 => (h.1.fr (r, t) (by simp)).2 k e (.inl (by rw [e2]; exact hol)))
    rw [e]
    simpa using hrow
  · rcases List.mem_append.1 hy with hy | hy
    · have hfy := h.1.fr y (by simp [hy])
      exact ⟨hfy.1.keep hk (fun k e e2 => hdj.2.2 y hy (r, t) (by simp) k e (.inl (by rw [e2]; exact hol))), hfy.2⟩
    · simp at hy
      subst hy
      exact ⟨hfr, (h.1.fr (r, t) (by simp)).2⟩
  · refine List.pairwise_append.2 ⟨hdj.1, by simp, fun y hy z hz k hk e => ?_⟩
    simp at hz
    subst hz
    exact hdj.2.2 y hy (r, t) (by simp) k hk e
end
end Go.Proofs.Qxb6500275aGreatDoor
