import Derived.Test.Qxb6500275aGreatDoorXn5
import Derived.Test.Qxb6500275aGreatDoorRh1
import Derived.Test.Qxb6500275aGreatDoorMr1
set_option maxRecDepth 100000
set_option linter.unusedVariables false
set_option linter.unusedSimpArgs false
namespace Go.Proofs.Qxb6500275aGreatDoor
open Go Go.RowKit
/- THE MODEL'S MACHINE IN MEMORY: the names of its parts -/
structure EN where
  xb : Nat
  sb : Nat
  hb : Nat
  mb : Nat
  vm : Value
  vt : Value
  vg : Value
  vk : Value
  vp : Value
  vf : Value
  m : MT
  fs : List (MF × FT3)
def EN.own (N : EN) (i k : Nat) : Prop := match i with
  | 0 => k = N.xb
  | 1 => Mt N.sb N.vm N.vt N.vg k
  | 2 => Mhv N.hb N.vk N.vp k
  | 3 => MwB N.mb N.m k
  | 4 => FsB N.vf N.fs k
  | _ => False
def EN.all (N : EN) (k : Nat) : Prop := ∃ i, N.own i k
structure Em (w : World) (N : EN) (fuel : Nat) (S : Sm) (H : Hm) : Prop where
  xk : ∃ F, Blk w N.xb 5 F ∧ F 0 = .pointer (some ⟨N.mb, 0, none⟩) ∧ F 1 = .pointer (some ⟨N.sb, 0, none⟩) ∧ F 2 = .pointer (some ⟨N.hb, 0, none⟩) ∧ F 3 = N.vf ∧ F 4 = .int .i64 (fuel : Int)
  st : Ms w N.sb N.vm N.vt N.vg S
  h : Mh w N.hb N.vk N.vp H
  mw : Mw w N.mb N.m
  fk : Fstk w N.vf N.fs
  ap : ∀ i j k, i ≠ j → N.own i k → ¬ N.own j k
theorem ap_upd {A A' : Nat → Nat → Prop} {n : Nat} (i0 : Nat) (h : ∀ i j k, i ≠ j → A i k → ¬ A j k) (hlt : ∀ i k, A i k → k < n) (h1 : ∀ i, i ≠ i0 → ∀ k, A' i k → A i k) (h2 : ∀ k, A' i0 k → A i0 k ∨ n ≤ k) : ∀ i j k, i ≠ j → A' i k → ¬ A' j k := by
  intro i j k hij hi hj
  by_cases e : i = i0
  · subst e
    have hj' := h1 j (fun e => hij e.symm) k hj
    rcases h2 k hi with h3 | h3
    · exact h i j k hij h3 hj'
    · have := hlt j k hj'; omega
  · have hi' := h1 i e k hi
    by_cases e2 : j = i0
    · subst e2
      rcases h2 k hj with h3 | h3
      · exact h i j k hij hi' h3
      · have := hlt i k hi'; omega
    · exact h i j k hij hi' (h1 j e2 k hj)
section
variable {w u : World} {N : EN} {fuel : Nat} {S S' : Sm} {H H' : Hm} {P : Nat → Prop}
theorem Mt.lt (h : Ms w N.sb N.vm N.vt N.vg S) {k : Nat} (hk : Mt N.sb N.vm N.vt N.vg k) : k < w.heap.size := by
  rcases hk with e | e | e | e
  · subst e
    obtain ⟨F, b, _⟩ := h.bk
    exact b.lt (by decide)
  · exact h.m.lt e
  · exact h.t.lt e
  · exact h.g.lt e
theorem Mhv.lt (h : Mh w N.hb N.vk N.vp H) {k : Nat} (hk : Mhv N.hb N.vk N.vp k) : k < w.heap.size := by
  rcases hk with e | e | e
  · subst e; exact h.lt
  · exact h.k.lt e
  · exact h.t.2.1 k e
theorem Em.lt (h : Em w N fuel S H) {i k : Nat} (hk : N.own i k) : k < w.heap.size := by
  match i, hk with
  | 0, hk =>
    obtain ⟨F, b, _⟩ := h.xk
    have e : k = N.xb := hk
    rw [e]
    exact b.lt (by decide)
  | 1, hk => exact Mt.lt h.st hk
  | 2, hk => exact Mhv.lt h.h hk
  | 3, hk => exact h.mw.lt hk
  | 4, hk => exact h.fk.lt hk
theorem Em.keep (h : Em w N fuel S H) (hk : Kp P w u) (hp : ∀ k, N.all k → ¬ P k) : Em u N fuel S H := by
  obtain ⟨F, b, rest⟩ := h.xk
  exact ⟨⟨F, b.keep hk (hp _ ⟨0, rfl⟩), rest⟩, h.st.keep hk (fun k e => hp k ⟨1, e⟩), h.h.keep hk (fun k e => hp k ⟨2, e⟩), h.mw.keep hk (fun k e => hp k ⟨3, e⟩), h.fk.keep hk (fun k e => hp k ⟨4, e⟩), h.ap⟩
theorem Em.quiet (h : Em w N fuel S H) (hk : Kp (fun _ => False) w u) : Em u N fuel S H := h.keep hk (fun _ _ h => h)
theorem Em.c (h : Em w N fuel S H) : w.cell? ⟨N.xb, 0, none⟩ = some (.pointer (some ⟨N.mb, 0, none⟩)) ∧ w.cell? ⟨N.xb, 1, none⟩ = some (.pointer (some ⟨N.sb, 0, none⟩)) ∧ w.cell? ⟨N.xb, 2, none⟩ = some (.pointer (some ⟨N.hb, 0, none⟩)) ∧ w.cell? ⟨N.xb, 3, none⟩ = some N.vf ∧ w.cell? ⟨N.xb, 4, none⟩ = some (.int .i64 (fuel : Int)) := by
  obtain ⟨F, b, f0, f1, f2, f3, f4⟩ := h.xk
  exact ⟨by rw [b.cell (by decide), f0], by rw [b.cell (by decide), f1], by rw [b.cell (by decide), f2], by rw [b.cell (by decide), f3], by rw [b.cell (by decide), f4]⟩
theorem Em.fz (h : Em w N fuel S H) (i : Nat) (hi : i < 5) : w.frozen? ⟨N.xb, i, none⟩ = false := by
  obtain ⟨F, b, _⟩ := h.xk
  exact b.fz hi
/- how a part's change reaches the whole -/
theorem EN.all_upd {N N' : EN} (i0 : Nat) {n : Nat} (h1 : ∀ i, i ≠ i0 → ∀ k, N'.own i k → N.own i k) (h2 : ∀ k, N'.own i0 k → N.own i0 k ∨ n ≤ k) : ∀ k, N'.all k → N.all k ∨ n ≤ k := by
  rintro k ⟨i, hi⟩
  by_cases e : i = i0
  · subst e
    rcases h2 k hi with h | h
    · exact .inl ⟨_, h⟩
    · exact .inr h
  · exact .inl ⟨i, h1 i e k hi⟩
/- the store -/
theorem Em.store (h : Em w N fuel S H) {vm vt vg : Value} (hs : Ms u N.sb vm vt vg S') (hg : Gw w u (Mt N.sb N.vm N.vt N.vg) (Mt N.sb vm vt vg)) : Em u { N with vm := vm, vt := vt, vg := vg } fuel S' H ∧ Gw w u N.all ({ N with vm := vm, vt := vt, vg := vg } : EN).all := by
  have hk := hg.kp
  have ha : ∀ i k, i ≠ 1 → N.own i k → ¬ Mt N.sb N.vm N.vt N.vg k := fun i k hi hk e => h.ap i 1 k hi hk e
  obtain ⟨F, b, rest⟩ := h.xk
  have h1 : ∀ i, i ≠ 1 → ∀ k, ({ N with vm := vm, vt := vt, vg := vg } : EN).own i k → N.own i k := fun i hi k hk => by
    match i, hi, hk with
    | 0, _, hk => exact hk
    | 2, _, hk => exact hk
    | 3, _, hk => exact hk
    | 4, _, hk => exact hk
  exact ⟨⟨⟨F, b.keep hk (ha 0 _ (by decide) rfl), rest⟩, hs, h.h.keep hk (fun k e => ha 2 k (by decide) e), h.mw.keep hk (fun k e => ha 3 k (by decide) e), h.fk.keep hk (fun k e => ha 4 k (by decide) e), ap_upd 1 h.ap (fun i k hk => h.lt hk) h1 hg.own⟩, hk.mono (fun k e => ⟨1, e⟩), EN.all_upd 1 h1 hg.own⟩
/- the host -/
theorem Em.host (h : Em w N fuel S H) {vk vp : Value} (hs : Mh u N.hb vk vp H') (hg : Gw w u (Mhv N.hb N.vk N.vp) (Mhv N.hb vk vp)) : Em u { N with vk := vk, vp := vp } fuel S H' ∧ Gw w u N.all ({ N with vk := vk, vp := vp } : EN).all := by
  have hk := hg.kp
  have ha : ∀ i k, i ≠ 2 → N.own i k → ¬ Mhv N.hb N.vk N.vp k := fun i k hi hk e => h.ap i 2 k hi hk e
  obtain ⟨F, b, rest⟩ := h.xk
  have h1 : ∀ i, i ≠ 2 → ∀ k, ({ N with vk := vk, vp := vp } : EN).own i k → N.own i k := fun i hi k hk => by
    match i, hi, hk with
    | 0, _, hk => exact hk
    | 1, _, hk => exact hk
    | 3, _, hk => exact hk
    | 4, _, hk => exact hk
  exact ⟨⟨⟨F, b.keep hk (ha 0 _ (by decide) rfl), rest⟩, h.st.keep hk (fun k e => ha 1 k (by decide) e), hs, h.mw.keep hk (fun k e => ha 3 k (by decide) e), h.fk.keep hk (fun k e => ha 4 k (by decide) e), ap_upd 2 h.ap (fun i k hk => h.lt hk) h1 hg.own⟩, hk.mono (fun k e => ⟨2, e⟩), EN.all_upd 2 h1 hg.own⟩
/- the frames, their slice where it lay -/
theorem Em.frames (h : Em w N fuel S H) {fs : List (MF × FT3)} (hs : Fstk u N.vf fs) (hg : Gw w u (FsB N.vf N.fs) (FsB N.vf fs)) : Em u { N with fs := fs } fuel S H ∧ Gw w u N.all ({ N with fs := fs } : EN).all := by
  have hk := hg.kp
  have ha : ∀ i k, i ≠ 4 → N.own i k → ¬ FsB N.vf N.fs k := fun i k hi hk e => h.ap i 4 k hi hk e
  obtain ⟨F, b, rest⟩ := h.xk
  have h1 : ∀ i, i ≠ 4 → ∀ k, ({ N with fs := fs } : EN).own i k → N.own i k := fun i hi k hk => by
    match i, hi, hk with
    | 0, _, hk => exact hk
    | 1, _, hk => exact hk
    | 2, _, hk => exact hk
    | 3, _, hk => exact hk
    | 4, hi, _ => exact absurd rfl hi
    | n + 5, _, hk => exact hk.elim
  exact ⟨⟨⟨F, b.keep hk (ha 0 _ (by decide) rfl), rest⟩, h.st.keep hk (fun k e => ha 1 k (by decide) e), h.h.keep hk (fun k e => ha 2 k (by decide) e), h.mw.keep hk (fun k e => ha 3 k (by decide) e), hs, ap_upd 4 h.ap (fun i k hk => h.lt hk) h1 hg.own⟩, hk.mono (fun k e => ⟨4, e⟩), EN.all_upd 4 h1 hg.own⟩
theorem Fkm.gw {vf : Value} {q0 : List (MF × FT3)} {x : MF × FT3} {r' : MF} {t' : FT3} (h : Fkm w u vf q0 x r' t') : Gw w u (FsB vf (q0 ++ [x])) (FsB vf (q0 ++ [(r', t')])) := by
  refine ⟨h.2.1, fun k hk => ?_⟩
  rcases hk with e | ⟨y, hy, e⟩
  · exact .inl (.inl e)
  · rcases List.mem_append.1 hy with hy | hy
    · exact .inl (.inr ⟨y, by simp [hy], e⟩)
    · simp at hy
      subst hy
      rcases h.2.2 k e with h5 | h5
      · exact .inl (.inr ⟨x, by simp, h5⟩)
      · exact .inr h5
theorem Em.top (h : Em w N fuel S H) {q0 : List (MF × FT3)} {x : MF × FT3} {r' : MF} {t' : FT3} (he : N.fs = q0 ++ [x]) (hf : Fkm w u N.vf q0 x r' t') : Em u { N with fs := q0 ++ [(r', t')] } fuel S H ∧ Gw w u N.all ({ N with fs := q0 ++ [(r', t')] } : EN).all :=
  h.frames hf.1 (by rw [he]; exact hf.gw)
/- the frames in a slice of their own, laid into the machine's block -/
theorem Em.reslice (h : Em w N fuel S H) {u1 : World} {vf : Value} {fs : List (MF × FT3)} (hs : Fstk u1 vf fs) (hg : Gw w u1 (FsB N.vf N.fs) (FsB vf fs)) : Em (u1.setCell ⟨N.xb, 3, none⟩ vf) { N with vf := vf, fs := fs } fuel S H ∧ Gw w (u1.setCell ⟨N.xb, 3, none⟩ vf) N.all ({ N with vf := vf, fs := fs } : EN).all := by
  have hk := hg.kp
  have ha : ∀ i k, i ≠ 4 → N.own i k → ¬ FsB N.vf N.fs k := fun i k hi hk e => h.ap i 4 k hi hk e
  have hx : ∀ i k, i ≠ 0 → N.own i k → k ≠ N.xb := fun i k hi hk e => h.ap i 0 k hi hk e
  have hset : Kp (fun k => k = N.xb) u1 (u1.setCell ⟨N.xb, 3, none⟩ vf) := kp_set1 u1 vf rfl
  obtain ⟨F, b, f0, f1, f2, f3, f4⟩ := h.xk
  have hxlt : N.xb < w.heap.size := b.lt (by decide)
  have h1 : ∀ i, i ≠ 4 → ∀ k, ({ N with vf := vf, fs := fs } : EN).own i k → N.own i k := fun i hi k hk => by
    match i, hi, hk with
    | 0, _, hk => exact hk
    | 1, _, hk => exact hk
    | 2, _, hk => exact hk
    | 3, _, hk => exact hk
    | 4, hi, _ => exact absurd rfl hi
    | n + 5, _, hk => exact hk.elim
  have hfx : ∀ k, FsB vf fs k → k ≠ N.xb := fun k hk e => by
    rcases hg.own k hk with h5 | h5
    · exact hx 4 k (by decide) h5 e
    · omega
  refine ⟨⟨⟨_, (b.keep hk (ha 0 _ (by decide) rfl)).set (i := 3) (by decide) vf, by simp [upd, f0, f1, f2, f4]⟩, (h.st.keep hk (fun k e => ha 1 k (by decide) e)).keep hset (fun k e => hx 1 k (by decide) e), (h.h.keep hk (fun k e => ha 2 k (by decide) e)).keep hset (fun k e => hx 2 k (by decide) e), (h.mw.keep hk (fun k e => ha 3 k (by decide) e)).keep hset (fun k e => hx 3 k (by decide) e), hs.keep hset hfx, ap_upd 4 h.ap (fun i k hk => h.lt hk) h1 hg.own⟩, ?_, EN.all_upd 4 h1 hg.own⟩
  exact (hk.mono (fun k e => ⟨4, e⟩)).trans (hset.mono (fun k e => ⟨0, e⟩))
/- the fuel -/
theorem Em.setFuel (h : Em w N fuel S H) (n : Nat) : Em (w.setCell ⟨N.xb, 4, none⟩ (.int .i64 (n : Int))) N n S H ∧ Gw w (w.setCell ⟨N.xb, 4, none⟩ (.int .i64 (n : Int))) N.all N.all := by
  have hx : ∀ i k, i ≠ 0 → N.own i k → k ≠ N.xb := fun i k hi hk e => h.ap i 0 k hi hk e
  have hset : Kp (fun k => k = N.xb) w (w.setCell ⟨N.xb, 4, none⟩ (.int .i64 (n : Int))) := kp_set1 w _ rfl
  obtain ⟨F, b, f0, f1, f2, f3, f4⟩ := h.xk
  exact ⟨⟨⟨_, b.set (i := 4) (by decide) (.int .i64 (n : Int)), by simp [upd, f0, f1, f2, f3]⟩, h.st.keep hset (fun k e => hx 1 k (by decide) e), h.h.keep hset (fun k e => hx 2 k (by decide) e), h.mw.keep hset (fun k e => hx 3 k (by decide) e), h.fk.keep hset (fun k e => hx 4 k (by decide) e), h.ap⟩, hset.mono (fun k e => ⟨0, e⟩), fun k hk => .inl hk⟩
end
/- how a method of the machine ends -/
structure Ee (w u : World) (N N' : EN) (q : MQ) : Prop where
  em : Em u N' q.fuel q.S q.H
  fr : N'.fs.map (·.1) = q.fr.reverse
  xb : N'.xb = N.xb
  sb : N'.sb = N.sb
  hb : N'.hb = N.hb
  mb : N'.mb = N.mb
  m : N'.m = N.m
  gw : Gw w u N.all N'.all
def Ez (w : World) (N : EN) (e : Int) (q : MQ) (en : Ending) (u : World) : Prop := en = .returned (.int .i64 e) ∧ ∃ N', Ee w u N N' q
end Go.Proofs.Qxb6500275aGreatDoor
