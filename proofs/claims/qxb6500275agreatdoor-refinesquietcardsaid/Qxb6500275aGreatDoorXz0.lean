import Derived.Test.Qxb6500275aGreatDoorXw6
set_option maxRecDepth 1000000
set_option linter.unusedVariables false
set_option linter.unusedSimpArgs false
namespace Go.Proofs.Qxb6500275aGreatDoor
open Go Go.RowKit
section
variable {w0 w w' : World} {N : Xn} {C : XC} {T : Nat → Prop} {ws ws' : List Nat} {fr fr' : List Fr} {hd hd' : Option (Nat × Nat)} {S : Sm} {H : Hm}
/- a cell of the machine's own block is set -/
theorem Xr.xw (hq : Xq w0 N C T) (h : Xr w0 w N T ws fr hd S H) {i : Nat} (hi : i < 28) (v : Value)
    (hx : ∀ F, XK F N → XF F fr → (∀ fn base, hd = some (fn, base) → XH F fr.length fn base) → XK (upd F i v) N ∧ XF (upd F i v) fr' ∧ ∀ fn base, hd' = some (fn, base) → XH (upd F i v) fr'.length fn base) : Xr w0 (w.setCell ⟨N.xb, i, Option.none⟩ v) N T ws fr' hd' S H := by
  obtain ⟨n1, n2, n3, n4, n5, n6⟩ := hq.new
  have hd' := hq.dn
  have hlo := hq.lo
  have hkl := hq.fix (k := N.xb) (.inl (.inl rfl))
  have hk : Kp (fun k => k = N.xb) w (w.setCell ⟨N.xb, i, Option.none⟩ v) := (Kp.refl (fun k => k = N.xb) w).setCell (p := ⟨N.xb, i, Option.none⟩) (.inl rfl) _
  obtain ⟨F, x1, x2, x3, x4⟩ := h.x
  obtain ⟨K, s1, s2⟩ := h.st
  obtain ⟨D, d⟩ := h.cb
  obtain ⟨E, e⟩ := h.gb
  obtain ⟨G, g⟩ := h.qb
  obtain ⟨y2, y3, y4⟩ := hx F x2 x3 x4
  exact ⟨h.kp.setCell (p := ⟨N.xb, i, Option.none⟩) (.inl (.inl rfl)) _, ⟨_, x1.set hi v, y2, y3, y4⟩, ⟨K, s1.keep hk (Ne.symm hd'.xb_kb), s2⟩, ⟨D, d.keep hk (by omega)⟩, ⟨E, e.keep hk (by omega)⟩, ⟨G, g.keep hk (by omega)⟩, h.mm.keep hk (Ne.symm hd'.xb_sb) (Ne.symm hd'.xb_rb), h.hw.keep hk (Ne.symm hd'.xb_hb) (Ne.symm hd'.xb_bb) (Ne.symm hd'.xb_tb) (fun k hT e => (hq.t k hT).2.1 (.inl e))⟩
theorem XK.upd {F : Nat → Value} (h : XK F N) {i : Nat} (hi : 10 ≤ i) (v : Value) : XK (upd F i v) N := by
  obtain ⟨f3, f4, f5, f6, f7, f8, f9, fz⟩ := h
  refine ⟨?_, ?_, ?_, ?_, ?_, ?_, ?_, fun j hj => by rw [upd_ne _ _ (by omega)]; exact fz j hj⟩ <;> (rw [upd_ne _ _ (by omega)]; assumption)
theorem XF.upd {F : Nat → Value} (h : XF F fr) {i : Nat} (hi : 10 + 3 * fr.length ≤ i) (v : Value) : XF (upd F i v) fr := by
  intro j f hj
  have hl : j < fr.length := by have := (List.getElem?_eq_some_iff.1 hj).1; simpa using this
  obtain ⟨a, b, c⟩ := h j f hj
  refine ⟨?_, ?_, ?_⟩ <;> (rw [upd_ne _ _ (by omega)]; assumption)
/- the place is written: the running frame joins the others -/
theorem Xr.pcset (hq : Xq w0 N C T) {fn base : Nat} (h : Xr w0 w N T ws fr (some (fn, base)) S H) (hd5 : fr.length ≤ 5) (pc : Nat) : Xr w0 (w.setCell ⟨N.xb, 10 + 3 * fr.length + 1, Option.none⟩ (.int .i64 (pc : Int))) N T ws (⟨fn, pc, base⟩ :: fr) Option.none S H := by
  refine h.xw hq (by omega) _ (fun F h1 h2 h3 => ⟨h1.upd (by omega) _, ?_, fun _ _ e => by simp at e⟩)
  obtain ⟨h4, h5⟩ := h3 fn base rfl
  intro j f hj
  simp only [List.reverse_cons] at hj
  rcases get_snoc3 hj with ⟨hl, hj'⟩ | ⟨hl, he⟩
  · simp at hl
    obtain ⟨a, b, c⟩ := h2 j f hj'
    refine ⟨?_, ?_, ?_⟩ <;> (rw [upd_ne _ _ (by omega)]; assumption)
  · simp at hl
    subst hl he
    refine ⟨?_, ?_, ?_⟩
    · rw [upd_ne _ _ (by omega)]; exact h4
    · rw [upd_same]
    · rw [upd_ne _ _ (by omega)]; exact h5
theorem Xr.head (h : Xr w0 w N T ws fr hd S H) : Xr w0 w N T ws fr Option.none S H := by
  obtain ⟨F, x1, x2, x3, x4⟩ := h.x
  exact ⟨h.kp, ⟨F, x1, x2, x3, fun _ _ e => by simp at e⟩, h.st, h.cb, h.gb, h.qb, h.mm, h.hw⟩
/- a frame's record is laid -/
theorem Xr.frset (hq : Xq w0 N C T) (h : Xr w0 w N T ws fr hd S H) (hd5 : fr.length ≤ 5) (fn base : Nat) (u : Value) : Xr w0 (((w.setCell ⟨N.xb, 10 + 3 * fr.length, Option.none⟩ (.int .i64 (fn : Int))).setCell ⟨N.xb, 10 + 3 * fr.length + 1, Option.none⟩ u).setCell ⟨N.xb, 10 + 3 * fr.length + 2, Option.none⟩ (.int .i64 (base : Int))) N T ws fr (some (fn, base)) S H := by
  obtain ⟨F, x1, x2, x3, x4⟩ := h.x
  have h1 : Xr w0 (w.setCell ⟨N.xb, 10 + 3 * fr.length, Option.none⟩ (.int .i64 (fn : Int))) N T ws fr Option.none S H := h.xw hq (by omega) _ (fun F h1 h2 h3 => ⟨h1.upd (by omega) _, h2.upd (by omega) _, fun _ _ e => by simp at e⟩)
  have h2 : Xr w0 ((w.setCell ⟨N.xb, 10 + 3 * fr.length, Option.none⟩ (.int .i64 (fn : Int))).setCell ⟨N.xb, 10 + 3 * fr.length + 1, Option.none⟩ u) N T ws fr Option.none S H := h1.xw hq (by omega) _ (fun F h1 h2 h3 => ⟨h1.upd (by omega) _, h2.upd (by omega) _, fun _ _ e => by simp at e⟩)
  have h3 : Xr w0 (((w.setCell ⟨N.xb, 10 + 3 * fr.length, Option.none⟩ (.int .i64 (fn : Int))).setCell ⟨N.xb, 10 + 3 * fr.length + 1, Option.none⟩ u).setCell ⟨N.xb, 10 + 3 * fr.length + 2, Option.none⟩ (.int .i64 (base : Int))) N T ws fr Option.none S H := h2.xw hq (by omega) _ (fun F h1 h2 h3 => ⟨h1.upd (by omega) _, h2.upd (by omega) _, fun _ _ e => by simp at e⟩)
  obtain ⟨G, y1, y2, y3, y4⟩ := h3.x
  refine ⟨h3.kp, ⟨_, ((x1.set (i := 10 + 3 * fr.length) (by omega) _).set (i := 10 + 3 * fr.length + 1) (by omega) _).set (i := 10 + 3 * fr.length + 2) (by omega) _, ((x2.upd (by omega) _).upd (by omega) _).upd (by omega) _, ((x3.upd (by omega) _).upd (by omega) _).upd (by omega) _, fun a b e => ?_⟩, h3.st, h3.cb, h3.gb, h3.qb, h3.mm, h3.hw⟩
  simp at e
  obtain ⟨rfl, rfl⟩ := e
  refine ⟨?_, ?_⟩
  · rw [upd_ne _ _ (by omega), upd_ne _ _ (by omega), upd_same]
  · rw [upd_same]
/- the caller's record -/
theorem Xr.popf {c : Fr} (h : Xr w0 w N T ws (c :: fr) hd S H) (hl : fr.length ≤ 5) : Xr w0 w N T ws fr (some (c.fn, c.base)) S H ∧ w.cell? ⟨N.xb, 10 + 3 * fr.length, Option.none⟩ = some (.int .i64 c.fn) ∧ w.cell? ⟨N.xb, 10 + 3 * fr.length + 1, Option.none⟩ = some (.int .i64 c.pc) ∧ w.cell? ⟨N.xb, 10 + 3 * fr.length + 2, Option.none⟩ = some (.int .i64 c.base) := by
  obtain ⟨F, x1, x2, x3, x4⟩ := h.x
  obtain ⟨a, b, d⟩ := x3 fr.length c (by simp)
  refine ⟨⟨h.kp, ⟨F, x1, x2, fun j f hj => ?_, fun fn base e => ?_⟩, h.st, h.cb, h.gb, h.qb, h.mm, h.hw⟩, ?_, ?_, ?_⟩
  · refine x3 j f ?_
    have hl : j < fr.length := by have := (List.getElem?_eq_some_iff.1 hj).1; simpa using this
    rw [List.reverse_cons, List.getElem?_append_left (by simpa using hl)]
    exact hj
  · simp at e
    obtain ⟨rfl, rfl⟩ := e
    exact ⟨a, d⟩
  · rw [x1.cell (by omega), a]
  · rw [x1.cell (by omega), b]
  · rw [x1.cell (by omega), d]
theorem Xr.xslot (h : Xr w0 w N T ws fr hd S H) {i : Nat} (hi : i < 28) : (∃ v, w.cell? ⟨N.xb, i, Option.none⟩ = some v) ∧ w.frozen? ⟨N.xb, i, Option.none⟩ = false := by
  obtain ⟨F, x1, x2, x3, x4⟩ := h.x
  exact ⟨⟨_, x1.cell hi⟩, x1.fz hi⟩
theorem Xr.gbz (h : Xr w0 w N T ws fr hd S H) : ∀ i, i < 6 → (∃ v, w.cell? ⟨N.gb, i, Option.none⟩ = some v) ∧ w.frozen? ⟨N.gb, i, Option.none⟩ = false := fun i hi => by
  obtain ⟨D, d⟩ := h.gb
  exact ⟨⟨_, d.cell hi⟩, d.fz hi⟩
theorem Xr.qbz (h : Xr w0 w N T ws fr hd S H) : ∀ i, i < 3 → (∃ v, w.cell? ⟨N.qb, i, Option.none⟩ = some v) ∧ w.frozen? ⟨N.qb, i, Option.none⟩ = false := fun i hi => by
  obtain ⟨D, d⟩ := h.qb
  exact ⟨⟨_, d.cell hi⟩, d.fz hi⟩
/- the blocks of its own are apart from the others -/
theorem Xq.ap (hq : Xq w0 N C T) : N.kb ≠ N.cb ∧ N.kb ≠ N.gb ∧ N.kb ≠ N.qb ∧ N.xb ≠ N.cb ∧ N.xb ≠ N.gb ∧ N.xb ≠ N.qb ∧ N.xb ≠ N.kb := by
  have h1 := hq.fix (k := N.kb) (.inl (.inr (.inl rfl)))
  have h2 := hq.lo
  have h3 := hq.new
  have h4 := hq.fix (k := N.xb) (.inl (.inl rfl))
  have h5 := hq.dn.xb_kb
  omega
end
end Go.Proofs.Qxb6500275aGreatDoor
