import Derived.Test.Qxb6500275aGreatDoorXn1
import Derived.Test.Qxb6500275aGreatDoorKq
import Derived.StillTailTactics
set_option maxRecDepth 100000
set_option linter.unusedVariables false
set_option linter.unusedSimpArgs false
namespace Go.Proofs.Qxb6500275aGreatDoor
open Go Go.RowKit
theorem OR.push2 {w : World} {e : TypeId} {v : Value} {n : Nat} {xs : List Value} (h : OR w e 2 v n xs) {t : TypeId} {i : TypeInfo} {z : Value} (ht : Tryz.prog.underlying t = some (.slice e)) (hi : Tryz.prog.info? e = some i) (hz : i.zero = some z)
    (hsize : i.size = 2) (hby : i.bytes ≤ 1000) (hzs : z.cells.size = 2) (hn : n ≤ 100000) (a b : Value) (ha : a.oneCell' = true) (hb : b.oneCell' = true) :
    ∃ v' w', (Builtin.append_ #[t, t] t #[v, .slice (some ⟨w.heap.size, 0, none⟩) 1 1]).run Tryz.prog (w.alloc (.cells #[a, b] e)) = .ok v' w' ∧ OR w' e 2 v' (n + 1) (xs ++ [a, b]) ∧ Kp (fun k => v.ownBlock = some k) w w' ∧ OwnO w v v' := by
  have hk : Kp (fun _ => False) w (w.alloc (.cells #[a, b] e)) := (Kp.refl _ _).alloc _
  obtain ⟨v', w', r1, r2, r3, r4⟩ := (h.keep hk (fun _ _ h => h)).app (ty := t) ht hi hz hsize rfl hzs (by decide) hby hn ⟨w.heap.size, 0, none⟩ 1 [a, b] rfl (fun j y hy => by
    rw [add_none, Nat.zero_add]
    have hj := (List.getElem?_eq_some_iff.1 hy).1
    simp at hj
    rcases (by omega : j = 0 ∨ j = 1) with e | e
    · subst e
      simp at hy
      subst hy
      exact (blk_al w #[a, b] _).cell (i := 0) (by simp)
    · subst e
      simp at hy
      subst hy
      exact (blk_al w #[a, b] _).cell (i := 1) (by simp)) (fun y hy => by simp at hy; rcases hy with rfl | rfl; exact ha; exact hb)
  refine ⟨v', w', r1, r2, (hk.mono (fun _ h => h.elim)).trans r3, fun k hk2 => ?_⟩
  rcases r4 k hk2 with h | h
  · exact .inl h
  · exact .inr (Nat.le_trans hk.size h)
section
variable {w : World} {vf : Value} {q0 : List (MF × FT3)} {x : MF × FT3}
/- what a change of the top frame keeps -/
def Fkm (w u : World) (vf : Value) (q0 : List (MF × FT3)) (x : MF × FT3) (r' : MF) (t' : FT3) : Prop := Fstk u vf (q0 ++ [(r', t')]) ∧ Kp (FsB vf (q0 ++ [x])) w u ∧ ∀ k, FtB t' k → FtB x.2 k ∨ w.heap.size ≤ k
theorem Fkm.start (h : Fstk w vf (q0 ++ [x])) : Fkm w w vf q0 x x.1 x.2 := ⟨h, Kp.refl _ _, fun k hk => .inl hk⟩
/- an operand more -/
theorem Fkm.pushO {u : World} {r : MF} {t : FT3} (h : Fkm w u vf q0 x r t) (hn : r.ops.length ≤ 1000) (v : MV) {g : Nat} (hg : vf.ownBlock = some g) :
    ∃ v' w', (Builtin.append_ #[227, 227] 227 #[t.o, .slice (some ⟨u.heap.size, 0, none⟩) 1 1]).run Tryz.prog (u.alloc (.cells #[.int .u8 (v.t : Int), .int .u64 (v.b : Int)] 229)) = .ok v' w' ∧ (w'.cell? ⟨g, q0.length * 5 + 3, none⟩ = some t.o ∧ w'.frozen? ⟨g, q0.length * 5 + 3, none⟩ = false) ∧ (∃ a n c, v' = .slice a n c) ∧
      Fkm w (w'.setCell ⟨g, q0.length * 5 + 3, none⟩ v') vf q0 x { r with ops := r.ops ++ [v] } { t with o := v' } := by
  obtain ⟨i, z, i1, i2, i3, i4, i5⟩ := i229i
  obtain ⟨g', cap', hv', h1, h2, h3, h4, c0, c1, c2, c3, c4, hM, hng⟩ := h.1.top
  have hgg : g' = g := by rw [hv'] at hg; simpa [Value.ownBlock] using hg
  subst hgg
  obtain ⟨v', w', r1, r2, r3, r4⟩ := hM.o.push2 u227 i1 i2 i4 (by omega) i3 (by dsimp only; omega) (.int .u8 (v.t : Int)) (.int .u64 (v.b : Int)) rfl rfl
  have hne : t.o.ownBlock ≠ some g' := fun e => hng (.inr (.inl e))
  have hrow' := h.1.row.keep r3 (fun k e hk => by
    rw [hg] at e
    simp at e
    subst e
    exact hne hk)
  obtain ⟨g2, cap2, e2, _, _, _, _, fz⟩ := hrow'.ptr (by simp)
  have hg2 : g2 = g' := by rw [e2] at hg; simpa [Value.ownBlock] using hg
  subst hg2
  have hfr : FrM w' ({ r with ops := r.ops ++ [v] }, { t with o := v' }) := by
    refine ⟨hM.l.keep r3 (fun k e hk => (hM.lo k e).1 hk), ?_, hM.b.keep r3 (fun k e hk => hM.ob k hk e), fun k e => ⟨fun e2 => ?_, (hM.lo k e).2⟩, fun k e e2 => ?_⟩
    · dsimp only
      rw [valC_app, List.length_append]
      exact r2
    · rcases r4 k e2 with h5 | h5
      · exact (hM.lo k e).1 h5
      · have := hM.l.lt e; omega
    · rcases r4 k e with h5 | h5
      · exact hM.ob k h5 e2
      · have := hM.b.lt e2; omega
  have hown : ∀ k, FtB { t with o := v' } k → FtB t k ∨ u.heap.size ≤ k := fun k hk => by
    rcases hk with e | e | e
    · exact .inl (.inl e)
    · rcases r4 k e with h5 | h5
      · exact .inl (.inr (.inl h5))
      · exact .inr h5
    · exact .inl (.inr (.inr e))
  obtain ⟨k1, k2⟩ := h.1.upd r3 (fun k hk => .inr (.inl hk)) hfr hown hg (j := 3) (by decide) (u := v') rfl
  refine ⟨v', w', r1, ⟨?_, fz _⟩, ?_, k1, ?_, fun k hk => ?_⟩
  · rw [r3.cell (p := ⟨g2, q0.length * 5 + 3, none⟩) h1 hne]
    exact c3
  · obtain ⟨a, c, e⟩ := r2.slice
    exact ⟨a, _, c, e⟩
  · refine h.2.1.later k2 (fun k hk => ?_)
    rcases hk with e | ⟨y, hy, e⟩
    · exact .inl (.inl e)
    · rcases List.mem_append.1 hy with hy | hy
      · exact .inl (.inr ⟨y, by simp [hy], e⟩)
      · simp at hy
        subst hy
        rcases h.2.2 k e with h5 | h5
        · exact .inl (.inr ⟨x, by simp, h5⟩)
        · exact .inr h5
  · rcases hown k hk with h5 | h5
    · exact h.2.2 k h5
    · exact .inr (Nat.le_trans h.2.1.size h5)
/- the operands cut to the first n -/
theorem Fkm.cutO {u : World} {r : MF} {t : FT3} (h : Fkm w u vf q0 x r t) {a : Option Addr} {n cap : Nat} {l0 l1 : List MV} (hv : t.o = .slice a (l0 ++ l1).length cap) (hr : r.ops = l0 ++ l1) {g : Nat} (hg : vf.ownBlock = some g) :
    Fkm w (u.setCell ⟨g, q0.length * 5 + 3, none⟩ (.slice a l0.length cap)) vf q0 x { r with ops := l0 } { t with o := .slice a l0.length cap } := by
  obtain ⟨g', cap', hv', h1, h2, h3, h4, c0, c1, c2, c3, c4, hM, hng⟩ := h.1.top
  have hob : (Value.slice a l0.length cap).ownBlock = t.o.ownBlock := by rw [hv]; cases a <;> rfl
  have hto := hM.o
  dsimp only at hto
  rw [hr] at hto
  have ho := hto.trunc (k := l0.length) (by simp) hv
  rw [valC_take] at ho
  have hfr : FrM u ({ r with ops := l0 }, { t with o := .slice a l0.length cap }) := ⟨hM.l, ho, hM.b, fun k e => ⟨fun e2 => (hM.lo k e).1 (by rw [← hob]; exact e2), (hM.lo k e).2⟩, fun k e => hM.ob k (by rw [← hob]; exact e)⟩
  have hown : ∀ k, FtB { t with o := Value.slice a l0.length cap } k → FtB t k := fun k hk => by
    rcases hk with e | e | e
    · exact .inl e
    · exact .inr (.inl (by rw [← hob]; exact e))
    · exact .inr (.inr e)
  obtain ⟨k1, k2⟩ := h.1.upd (Kp.refl (fun _ => False) u) (fun k hk => hk.elim) hfr (fun k hk => .inl (hown k hk)) hg (j := 3) (by decide) (u := .slice a l0.length cap) rfl
  refine ⟨k1, ?_, fun k hk => h.2.2 k (hown k hk)⟩
  refine h.2.1.later k2 (fun k hk => ?_)
  rcases hk with e | ⟨y, hy, e⟩
  · exact .inl (.inl e)
  · rcases List.mem_append.1 hy with hy | hy
    · exact .inl (.inr ⟨y, by simp [hy], e⟩)
    · simp at hy
      subst hy
      rcases h.2.2 k e with h5 | h5
      · exact .inl (.inr ⟨x, by simp, h5⟩)
      · exact .inr h5
theorem Fkm.quiet {u u' : World} {r : MF} {t : FT3} (h : Fkm w u vf q0 x r t) (hk : Kp (fun _ => False) u u') : Fkm w u' vf q0 x r t := ⟨h.1.keep hk (fun _ _ h => h), h.2.1.trans (hk.mono (fun _ h => h.elim)), h.2.2⟩
/- how a method on the top frame ends -/
def Fz3 (w : World) (vf : Value) (q0 : List (MF × FT3)) (x : MF × FT3) (r' : MF) (v : Value) (en : Ending) (w' : World) : Prop := en = .returned v ∧ ∃ t', Fkm w w' vf q0 x r' t'
set_option maxHeartbeats 4000000 in
theorem push_m (h : Fstk w vf (q0 ++ [x])) {g cap : Nat} (hvf : vf = .slice (some ⟨g, 0, none⟩) (q0.length + 1) cap) {v : MV} {r' : MF} (hp : pushM x.1 v = some r') (ht : v.t < 256) (hb : v.b < 18446744073709551616) :
    Calls Tryz.prog 271 #[.pointer (some ⟨g, q0.length * 5, none⟩), .int .u8 (v.t : Int), .int .u64 (v.b : Int)] w (Fz3 w vf q0 x r' (.bool true)) := by
  have hg : vf.ownBlock = some g := by rw [hvf]; rfl
  obtain ⟨g', cap', hv', h1, h2, h3, h4, c0, c1, c2, c3, c4, hM, hng⟩ := h.top
  have hgg : g' = g := by rw [hv'] at hg; simpa [Value.ownBlock] using hg
  subst hgg
  unfold pushM at hp
  rcases iteC hp with ⟨_, hp⟩ | ⟨hl10, hp⟩
  · simp at hp
  simp at hp
  obtain ⟨n, hn⟩ : ∃ n, x.1.ops.length = n := ⟨_, rfl⟩
  obtain ⟨oa, oc, hov⟩ := hM.o.slice
  obtain ⟨vo', w', r1, ⟨r2, r3⟩, ⟨ra, rn, rc, hvo'⟩, r5⟩ := (Fkm.start h).pushO (by omega) v hg
  rw [hn] at hov hl10
  have hge : ¬ (10 : Int) ≤ (n : Int) := by omega
  rw [hov] at c3 r1 r2
  obtain ⟨o, ho⟩ : ∃ o, q0.length * 5 = o := ⟨_, rfl⟩
  rw [ho] at c3 r2 r3 r5 ⊢
  subst hvo'
  have HR5 : Hid _ := r5
  have HP : Hid _ := hp
  clear r5 hp h hM hn ho hov hvf h4 c0 c1 c2 c4 hg hv' hl10
  go_enter Tryz.func271, Tryz.ntmps271
  go_wp2_with (at_builtin; refine wpList_app rfl _ _ 227 rfl r1 ?_)
  go_wp2
  go_ret
  rw [← HP.out]
  exact ⟨rfl, _, HR5.out⟩
end
end Go.Proofs.Qxb6500275aGreatDoor
