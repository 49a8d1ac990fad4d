import Derived.Test.Qxb6500275aGreatDoorXo1
set_option maxRecDepth 100000
set_option linter.unusedVariables false
set_option linter.unusedSimpArgs false
namespace Go.Proofs.Qxb6500275aGreatDoor
open Go Go.RowKit
theorem nil_own3 {k : Nat} (h : (Value.slice none 0 0).ownBlock = some k) : False := by simp [Value.ownBlock] at h
/- THE MODEL'S MACHINE AT REST; c: what stands for its module -/
structure Erm (w : World) (N : EN) (c : Value) (n : Nat) (S : Sm) (H : Hm) : Prop where
  xk : ∃ F, Blk w N.xb 5 F ∧ F 0 = c ∧ F 1 = .pointer (some ⟨N.sb, 0, none⟩) ∧ F 2 = .pointer (some ⟨N.hb, 0, none⟩) ∧ F 3 = .slice none 0 0 ∧ F 4 = .int .i64 (n : Int)
  st : Ms w N.sb N.vm N.vt N.vg S
  h : Mh w N.hb N.vk N.vp H
  ap : ∀ i j k, i < 3 → j < 3 → i ≠ j → N.own i k → ¬ N.own j k
def EN.bas (N : EN) (k : Nat) : Prop := ∃ i, i < 3 ∧ N.own i k
section
variable {w u : World} {N : EN} {n : Nat} {S S' : Sm} {H H' : Hm} {P : Nat → Prop} {cv : Value}
theorem Erm.lt (h : Erm w N cv n S H) {k : Nat} (hk : N.bas k) : k < w.heap.size := by
  obtain ⟨i, hi, hk⟩ := hk
  match i, hi, hk with
  | 0, _, hk =>
    obtain ⟨F, b, _⟩ := h.xk
    have e : k = N.xb := hk
    rw [e]
    exact b.lt (by decide)
  | 1, _, hk => exact Mt.lt h.st hk
  | 2, _, hk => exact Mhv.lt h.h hk
theorem Erm.keep (h : Erm w N cv n S H) (hk : Kp P w u) (hp : ∀ k, N.bas k → ¬ P k) : Erm u N cv n S H := by
  obtain ⟨F, b, rest⟩ := h.xk
  exact ⟨⟨F, b.keep hk (hp _ ⟨0, by decide, rfl⟩), rest⟩, h.st.keep hk (fun k e => hp k ⟨1, by decide, e⟩), h.h.keep hk (fun k e => hp k ⟨2, by decide, e⟩), h.ap⟩
theorem Erm.quiet (h : Erm w N cv n S H) (hk : Kp (fun _ => False) w u) : Erm u N cv n S H := h.keep hk (fun _ _ h => h)
theorem Erm.c (h : Erm w N cv n S H) : w.cell? ⟨N.xb, 0, none⟩ = some cv ∧ w.cell? ⟨N.xb, 1, none⟩ = some (.pointer (some ⟨N.sb, 0, none⟩)) ∧ w.cell? ⟨N.xb, 2, none⟩ = some (.pointer (some ⟨N.hb, 0, none⟩)) ∧ w.cell? ⟨N.xb, 3, none⟩ = some (.slice none 0 0) ∧ w.cell? ⟨N.xb, 4, none⟩ = some (.int .i64 (n : Int)) := by
  obtain ⟨F, b, f0, f1, f2, f3, f4⟩ := h.xk
  exact ⟨by rw [b.cell (by decide), f0], by rw [b.cell (by decide), f1], by rw [b.cell (by decide), f2], by rw [b.cell (by decide), f3], by rw [b.cell (by decide), f4]⟩
theorem Erm.fz (h : Erm w N cv n S H) (i : Nat) (hi : i < 5) : w.frozen? ⟨N.xb, i, none⟩ = false := by
  obtain ⟨F, b, _⟩ := h.xk
  exact b.fz hi
theorem EN.bas_upd {N N' : EN} (i0 : Nat) {m : Nat} (h0 : i0 < 3) (h1 : ∀ i, i < 3 → i ≠ i0 → ∀ k, N'.own i k → N.own i k) (h2 : ∀ k, N'.own i0 k → N.own i0 k ∨ m ≤ k) : ∀ k, N'.bas k → N.bas k ∨ m ≤ k := by
  rintro k ⟨i, h3, hi⟩
  by_cases e : i = i0
  · subst e
    rcases h2 k hi with h | h
    · exact .inl ⟨_, h3, h⟩
    · exact .inr h
  · exact .inl ⟨i, h3, h1 i h3 e k hi⟩
theorem ap_bas {N N' : EN} (i0 : Nat) {m : Nat} (h0 : i0 < 3) (h : ∀ i j k, i < 3 → j < 3 → i ≠ j → N.own i k → ¬ N.own j k) (hlt : ∀ k, N.bas k → k < m) (h1 : ∀ i, i < 3 → i ≠ i0 → ∀ k, N'.own i k → N.own i k) (h2 : ∀ k, N'.own i0 k → N.own i0 k ∨ m ≤ k) : ∀ i j k, i < 3 → j < 3 → i ≠ j → N'.own i k → ¬ N'.own j k := by
  intro i j k g1 g2 hij hi hj
  by_cases e : i = i0
  · subst e
    have hj' := h1 j g2 (fun e => hij e.symm) k hj
    rcases h2 k hi with h3 | h3
    · exact h i j k g1 g2 hij h3 hj'
    · have := hlt k ⟨j, g2, hj'⟩; omega
  · have hi' := h1 i g1 e k hi
    by_cases e2 : j = i0
    · subst e2
      rcases h2 k hj with h3 | h3
      · exact h i j k g1 g2 hij hi' h3
      · have := hlt k ⟨i, g1, hi'⟩; omega
    · exact h i j k g1 g2 hij hi' (h1 j g2 e2 k hj)
/- the module's place is laid anew -/
theorem Erm.setM (h : Erm w N cv n S H) (c' : Value) : Erm (w.setCell ⟨N.xb, 0, none⟩ c') N c' n S H ∧ Gw w (w.setCell ⟨N.xb, 0, none⟩ c') N.bas N.bas := by
  have hx : ∀ i k, i < 3 → i ≠ 0 → N.own i k → k ≠ N.xb := fun i k h3 hi hk e => h.ap i 0 k h3 (by decide) hi hk e
  have hset : Kp (fun k => k = N.xb) w (w.setCell ⟨N.xb, 0, none⟩ c') := kp_set1 w _ rfl
  obtain ⟨F, b, f0, f1, f2, f3, f4⟩ := h.xk
  exact ⟨⟨⟨_, b.set (i := 0) (by decide) c', by simp [upd, f1, f2, f3, f4]⟩, h.st.keep hset (fun k e => hx 1 k (by decide) (by decide) e), h.h.keep hset (fun k e => hx 2 k (by decide) (by decide) e), h.ap⟩, hset.mono (fun k e => ⟨0, by decide, e⟩), fun k hk => .inl hk⟩
theorem Erm.store (h : Erm w N cv n S H) {vm vt vg : Value} (hs : Ms u N.sb vm vt vg S') (hg : Gw w u (Mt N.sb N.vm N.vt N.vg) (Mt N.sb vm vt vg)) : Erm u { N with vm := vm, vt := vt, vg := vg } cv n S' H ∧ Gw w u N.bas ({ N with vm := vm, vt := vt, vg := vg } : EN).bas := by
  have hk := hg.kp
  have ha : ∀ i k, i < 3 → i ≠ 1 → N.own i k → ¬ Mt N.sb N.vm N.vt N.vg k := fun i k h3 hi hk e => h.ap i 1 k h3 (by decide) hi hk e
  obtain ⟨F, b, rest⟩ := h.xk
  have h1 : ∀ i, i < 3 → i ≠ 1 → ∀ k, ({ N with vm := vm, vt := vt, vg := vg } : EN).own i k → N.own i k := fun i h3 hi k hk => by
    match i, h3, hi, hk with
    | 0, _, _, hk => exact hk
    | 1, _, hi, _ => exact absurd rfl hi
    | 2, _, _, hk => exact hk
    | n + 3, h3, _, _ => omega
  exact ⟨⟨⟨F, b.keep hk (ha 0 _ (by decide) (by decide) rfl), rest⟩, hs, h.h.keep hk (fun k e => ha 2 k (by decide) (by decide) e), ap_bas 1 (by decide) h.ap (fun k hk => h.lt hk) h1 hg.own⟩, hk.mono (fun k e => ⟨1, by decide, e⟩), EN.bas_upd 1 (by decide) h1 hg.own⟩
theorem Erm.host (h : Erm w N cv n S H) {vk vp : Value} (hs : Mh u N.hb vk vp H') (hg : Gw w u (Mhv N.hb N.vk N.vp) (Mhv N.hb vk vp)) : Erm u { N with vk := vk, vp := vp } cv n S H' ∧ Gw w u N.bas ({ N with vk := vk, vp := vp } : EN).bas := by
  have hk := hg.kp
  have ha : ∀ i k, i < 3 → i ≠ 2 → N.own i k → ¬ Mhv N.hb N.vk N.vp k := fun i k h3 hi hk e => h.ap i 2 k h3 (by decide) hi hk e
  obtain ⟨F, b, rest⟩ := h.xk
  have h1 : ∀ i, i < 3 → i ≠ 2 → ∀ k, ({ N with vk := vk, vp := vp } : EN).own i k → N.own i k := fun i h3 hi k hk => by
    match i, h3, hi, hk with
    | 0, _, _, hk => exact hk
    | 1, _, _, hk => exact hk
    | 2, _, hi, _ => exact absurd rfl hi
    | n + 3, h3, _, _ => omega
  exact ⟨⟨⟨F, b.keep hk (ha 0 _ (by decide) (by decide) rfl), rest⟩, h.st.keep hk (fun k e => ha 1 k (by decide) (by decide) e), hs, ap_bas 2 (by decide) h.ap (fun k hk => h.lt hk) h1 hg.own⟩, hk.mono (fun k e => ⟨2, by decide, e⟩), EN.bas_upd 2 (by decide) h1 hg.own⟩
/- with its module -/
def EN.load (N : EN) (mb : Nat) (m : MT) : EN := { N with mb := mb, m := m, vf := .slice none 0 0, fs := [] }
theorem fstk_nil (w : World) : Fstk w (.slice none 0 0) [] := ⟨OR.nil _ _ _, fun x hx => by simp at hx, List.Pairwise.nil⟩
theorem fsB_nil {k : Nat} (h : FsB (.slice none 0 0) [] k) : False := by
  rcases h with e | ⟨y, hy, _⟩
  · exact nil_own3 e
  · simp at hy
theorem Erm.em {mb : Nat} {m : MT} (h : Erm w N (.pointer (some ⟨mb, 0, none⟩)) n S H) (hm : Mw w mb m) (hd : ∀ k, MwB mb m k → ¬ N.bas k) : Em w (N.load mb m) n S H := by
  obtain ⟨F, b, f0, f1, f2, f3, f4⟩ := h.xk
  refine ⟨⟨F, b, f0, f1, f2, f3, f4⟩, h.st, h.h, hm, fstk_nil _, fun i j k hij hi hj => ?_⟩
  match i, j, hij, hi, hj with
  | 4, _, _, hi, _ => exact fsB_nil hi
  | _, 4, _, _, hj => exact fsB_nil hj
  | 3, 0, _, hi, hj => exact hd k hi ⟨0, by decide, hj⟩
  | 3, 1, _, hi, hj => exact hd k hi ⟨1, by decide, hj⟩
  | 3, 2, _, hi, hj => exact hd k hi ⟨2, by decide, hj⟩
  | 0, 3, _, hi, hj => exact hd k hj ⟨0, by decide, hi⟩
  | 1, 3, _, hi, hj => exact hd k hj ⟨1, by decide, hi⟩
  | 2, 3, _, hi, hj => exact hd k hj ⟨2, by decide, hi⟩
  | 0, 1, _, hi, hj => exact h.ap 0 1 k (by decide) (by decide) (by decide) hi hj
  | 0, 2, _, hi, hj => exact h.ap 0 2 k (by decide) (by decide) (by decide) hi hj
  | 1, 0, _, hi, hj => exact h.ap 1 0 k (by decide) (by decide) (by decide) hi hj
  | 1, 2, _, hi, hj => exact h.ap 1 2 k (by decide) (by decide) (by decide) hi hj
  | 2, 0, _, hi, hj => exact h.ap 2 0 k (by decide) (by decide) (by decide) hi hj
  | 2, 1, _, hi, hj => exact h.ap 2 1 k (by decide) (by decide) (by decide) hi hj
  | 0, 0, hij, _, _ => exact hij rfl
  | 1, 1, hij, _, _ => exact hij rfl
  | 2, 2, hij, _, _ => exact hij rfl
  | 3, 3, hij, _, _ => exact hij rfl
  | m + 5, _, _, hi, _ => exact hi.elim
  | _, m + 5, _, _, hj => exact hj.elim
theorem Em.er (h : Em w N n S H) (hv : N.vf = .slice none 0 0) : Erm w N (.pointer (some ⟨N.mb, 0, none⟩)) n S H := by
  obtain ⟨F, b, f0, f1, f2, f3, f4⟩ := h.xk
  exact ⟨⟨F, b, f0, f1, f2, f3.trans hv, f4⟩, h.st, h.h, fun i j k _ _ hij hi hj => h.ap i j k hij hi hj⟩
theorem Em.md (h : Em w N n S H) : ∀ k, MwB N.mb N.m k → ¬ N.bas k := fun k hk ⟨i, h3, hi⟩ => h.ap 3 i k (by omega) hk hi
end
end Go.Proofs.Qxb6500275aGreatDoor
