import Derived.Test.Qxb6500275aGreatDoorHoc
set_option maxRecDepth 100000
set_option linter.unusedVariables false
set_option linter.unusedSimpArgs false
namespace Go.Proofs.Qxb6500275aGreatDoor
open Go Go.RowKit
section
variable {w w' : World} {hb bb tb : Nat} {T : Nat → Prop} {H : Hm}
/- the box of the arguments, the count of the rows -/
def w1C (w : World) (hb : Nat) (a : Value) (r : Nat) : World := (w.setCell ⟨hb, 10, none⟩ (.int .i64 ((r : Int) + 1))).alloc (.cells #[a] 67)
structure CaA (w w2 : World) (hb tb len r k : Nat) (a : Value) (F C : Nat → Value) : Prop where
  kp : Kp (fun k => k = hb ∨ k = tb) w w2
  box : w2.cell? ⟨w.heap.size, 0, none⟩ = some a
  f : Blk w2 hb 11 (upd F 10 (.int .i64 ((r : Int) + 1)))
  t : Tb w2 tb len C [32, 48 + k, 40]
  sz : w.heap.size < w2.heap.size
theorem caA {F C : Nat → Value} (b1 : Blk w hb 11 F) (b3 : Blk w tb 864 C) (d2 : hb ≠ tb) (a : Value) (r k len : Nat) (hl : len + 72 ≤ 864) : ∃ w2, (Builtin.append_ #[104, 104] 104 #[.slice (some ⟨tb, 0, none⟩) len 864, .slice (some ⟨w.heap.size + 1, 0, none⟩) 3 3]).run Tryz.prog ((w1C w hb a r).alloc (.cells #[.int .u8 32, .int .u8 (48 + (k : Int)), .int .u8 40] 5)) = .ok (.slice (some ⟨tb, 0, none⟩) (len + 3) 864) w2 ∧ CaA w w2 hb tb len r k a F C := by
  have hbl := b1.lt (by decide)
  have htl := b3.lt (by decide)
  have k1 : Kp (fun k => k = hb) w (w1C w hb a r) := ((Kp.refl (fun k => k = hb) w).setCell (p := ⟨hb, 10, none⟩) (.inl rfl) _).alloc _
  have k0 : Kp (fun _ => False) (w.setCell ⟨hb, 10, none⟩ (.int .i64 ((r : Int) + 1))) (w1C w hb a r) := (Kp.refl _ _).alloc _
  have ks : Kp (fun _ => False) (w1C w hb a r) ((w1C w hb a r).alloc (.cells #[.int .u8 32, .int .u8 (48 + (k : Int)), .int .u8 40] 5)) := (Kp.refl _ _).alloc _
  have hsz : (w1C w hb a r).heap.size = w.heap.size + 1 := by unfold w1C; simp
  have hb1 : Blk (w1C w hb a r) hb 11 (upd F 10 (.int .i64 ((r : Int) + 1))) := (b1.set (i := 10) (by decide) _).keep k0 (fun h => h)
  have hb3 : Blk (w1C w hb a r) tb 864 C := b3.keep k1 (Ne.symm d2)
  have hT : Tb ((w1C w hb a r).alloc (.cells #[.int .u8 32, .int .u8 (48 + (k : Int)), .int .u8 40] 5)) tb len C [] := ⟨C, hb3.keep ks (fun h => h), fun _ _ => rfl, fun j x hx => by simp [byV] at hx⟩
  obtain ⟨w2, h1, h2, h3⟩ := hT.app 104 ⟨w.heap.size + 1, 0, none⟩ 3 3 [32, 48 + k, 40] rfl (fun j x hx => by
    have hcell : ∀ i v, (#[Value.int .u8 32, .int .u8 (48 + (k : Int)), .int .u8 40])[i]? = some v → ((w1C w hb a r).alloc (.cells #[.int .u8 32, .int .u8 (48 + (k : Int)), .int .u8 40] 5)).cell? ⟨w.heap.size + 1, i, none⟩ = some v := fun i v hv => by
      rw [World.cell?_alloc_at _ _ _ _ hsz.symm]; exact hv
    rw [add_non, Nat.zero_add]
    match j, hx with
    | 0, hx => simp [byV] at hx; subst hx; exact hcell 0 _ rfl
    | 1, hx => simp [byV] at hx; subst hx; exact hcell 1 _ rfl
    | 2, hx => simp [byV] at hx; subst hx; exact hcell 2 _ rfl
    | j + 3, hx => simp [byV] at hx) (by simp; omega)
  refine ⟨w2, h1, ⟨?_, ?_, ?_, h3, ?_⟩⟩
  · exact (k1.mono (fun _ h => .inl h)).trans ((ks.mono (fun _ h => h.elim)).trans (h2.mono (fun _ h => .inr h)))
  · have e1 : (w1C w hb a r).cell? ⟨w.heap.size, 0, none⟩ = some a := by unfold w1C; rw [World.cell?_alloc_at _ _ _ _ (by simp)]; rfl
    have kk : Kp (fun k => k = tb) (w1C w hb a r) w2 := (ks.mono (fun _ h => h.elim)).trans h2
    rw [kk.cell (p := ⟨w.heap.size, 0, none⟩) (by rw [hsz]; exact Nat.lt_succ_self _) (fun h => by dsimp only at h; omega)]
    exact e1
  · exact (hb1.keep ks (fun h => h)).keep h2 (fun h => d2 h)
  · have h4 := h2.size
    have h5 := ks.size
    omega
/- the second box -/
def w4C (w2 : World) (tb len : Nat) : World := w2.alloc (.cells #[.slice (some ⟨tb, 0, none⟩) (len + 3) 864] 104)
structure CaB (w w5 : World) (hb tb xb len r k : Nat) (a : Value) (vs : List Nat) (F C : Nat → Value) : Prop where
  box : w5.cell? ⟨w.heap.size, 0, none⟩ = some a
  sz : w.heap.size < w5.heap.size
  kp : Kp (fun k => k = hb ∨ k = tb) w w5
  f : Blk w5 hb 11 (upd F 10 (.int .i64 ((r : Int) + 1)))
  t : Tb w5 tb len C ([32, 48 + k, 40] ++ rowN vs)
  cx : w5.cell? ⟨xb, 0, none⟩ = some (.slice (some ⟨tb, 0, none⟩) (len + 3 + 17 * vs.length) 864)
theorem caB {w2 : World} {F C : Nat → Value} {a : Value} {r k len : Nat} {vs : List Nat} {ao : Option Addr} {cc : Nat} (h : CaA w w2 hb tb len r k (.slice ao vs.length cc) F C) (hbl : hb < w.heap.size) (htl : tb < w.heap.size) (d2 : hb ≠ tb) (hl : len + 72 ≤ 864) (hv4 : vs.length ≤ 4) (hvr : ∀ v, v ∈ vs → v < 18446744073709551616)
    (cs : 0 < vs.length → ∃ sk o, ao = some ⟨sk, o, none⟩ ∧ sk ≠ tb ∧ sk ≠ hb ∧ ∀ (i v : Nat), vs[i]? = some v → w.cell? ⟨sk, o + i, none⟩ = some (.int .u64 (v : Int))) :
    Calls Tryz.prog 179 #[.pointer (some ⟨w.heap.size, 0, none⟩), .pointer (some ⟨w2.heap.size, 0, none⟩)] (w4C w2 tb len) (fun en w' => en = .returned (.tuple #[]) ∧ CaB w w' hb tb w2.heap.size len r k (.slice ao vs.length cc) vs F C) := by
  have hsz := h.sz
  obtain ⟨D, e1, e2, e3⟩ := h.t.is
  have k4 : Kp (fun _ => False) w2 (w4C w2 tb len) := (Kp.refl _ _).alloc _
  have cx : (w4C w2 tb len).cell? ⟨w2.heap.size, 0, none⟩ = some (.slice (some ⟨tb, 0, none⟩) (len + 3) 864) := by unfold w4C; rw [World.cell?_alloc_at _ _ _ _ rfl]; rfl
  have gx : (w4C w2 tb len).frozen? ⟨w2.heap.size, 0, none⟩ = false := by
    unfold w4C World.frozen?
    rw [heap_alloc_new]
    rfl
  have ca : (w4C w2 tb len).cell? ⟨w.heap.size, 0, none⟩ = some (.slice ao vs.length cc) := by
    rw [k4.cell (p := ⟨w.heap.size, 0, none⟩) hsz (fun h => h)]; exact h.box
  have hrow : Rw1 (w4C w2 tb len) (w4C w2 tb len) w2.heap.size tb (len + 3) D vs 0 := ⟨Kp.refl _ _, ⟨D, e1.keep k4 (fun h => h), fun _ _ => rfl, fun j x hx => by simp [byV, rowN] at hx⟩, cx, gx⟩
  refine (row_calls (ab := w.heap.size) rfl hvr ca (fun h0 => ?_) hrow (by omega) hv4 (by omega)).mono ?_
  · obtain ⟨sk, o, h1, h2, h3, h4⟩ := cs h0
    have hsk : ∀ (i v : Nat), vs[i]? = some v → sk < w.heap.size := fun i v hv => lt_of_cell (h4 i v hv)
    have hsl : sk < w.heap.size := by
      cases hvs : vs with
      | nil => rw [hvs] at h0; simp at h0
      | cons v r => exact hsk 0 v (by rw [hvs]; rfl)
    refine ⟨sk, o, h1, h2, by omega, fun i v hv => ?_⟩
    rw [k4.cell (p := ⟨sk, o + i, none⟩) (by dsimp only; omega) (fun h => h), h.kp.cell (p := ⟨sk, o + i, none⟩) hsl (fun e => by rcases e with e | e; exact h3 e; exact h2 e)]
    exact h4 i v hv
  · rintro en w5 ⟨rfl, h5⟩
    have k5 : Kp (fun k => k = hb ∨ k = tb) w w5 := by
      have := h.kp.trans (k4.mono (fun _ h => h.elim))
      refine ⟨h5.kp.os.trans this.os, h5.kp.tape.trans this.tape, h5.kp.output.trans this.output, Nat.le_trans this.size h5.kp.size, fun j hj hs => ?_⟩
      rw [h5.kp.block j (by have := this.size; omega) (fun e => by
        rcases e with e | e
        · exact hs (.inr e)
        · omega), this.block j hj hs]
    have hz4 := k4.size
    have hz5 := h5.kp.size
    refine ⟨rfl, ?_, by omega, k5, ?_, ?_, ?_⟩
    · rw [h5.kp.cell (p := ⟨w.heap.size, 0, none⟩) (by dsimp only; omega) (fun e => by dsimp only at e; omega)]; exact ca
    · have h4 : Blk (w4C w2 tb len) hb 11 (upd F 10 (.int .i64 ((r : Int) + 1))) := h.f.keep k4 (fun h => h)
      exact h4.keep h5.kp (fun e => by rcases e with e | e; exact d2 e; omega)
    · have := h5.tr
      rw [List.take_length] at this
      exact Tb.join (a := [32, 48 + k, 40]) this e2 e3
    · exact h5.cx
/- the row's end -/
theorem caC {w5 : World} {xb : Nat} {a : Value} {F G C : Nat → Value} {k head : Nat} {vs : List Nat} (h : CaB w w5 hb tb xb H.tr.length H.rows k a vs F C) (b1 : Blk w hb 11 F) (b2 : Blk w bb 4 G) (b3 : Blk w tb 864 C) (hl : HL w F G C hb bb tb T H head) (d1 : hb ≠ bb) (d2 : hb ≠ tb) (d3 : bb ≠ tb) (t : ¬ T hb ∧ ¬ T bb ∧ ¬ T tb) (hr : H.tr.length + 72 ≤ 864) (hv4 : vs.length ≤ 4) (hk4 : k < 4) {kd : Nat} (hkd : H.bd[k]? = some kd) {len n : Nat} (hlen : H.tr.length = len) (hn : vs.length = n) :
    ∃ w7, (Builtin.append_ #[104, 104] 104 #[.slice (some ⟨tb, 0, none⟩) (len + 3 + 17 * n) 864, .slice (some ⟨w5.heap.size, 0, none⟩) 1 1]).run Tryz.prog (w5.alloc (.cells #[.int .u8 41] 5)) = .ok (.slice (some ⟨tb, 0, none⟩) (len + 3 + 17 * n + 1) 864) w7 ∧ (∃ v, w7.cell? ⟨hb, 9, none⟩ = some v) ∧ w7.frozen? ⟨hb, 9, none⟩ = false ∧
      Kp (fun k => k = hb ∨ k = tb) w (w7.setCell ⟨hb, 9, none⟩ (.slice (some ⟨tb, 0, none⟩) (len + 3 + 17 * n + 1) 864)) ∧ Hw (w7.setCell ⟨hb, 9, none⟩ (.slice (some ⟨tb, 0, none⟩) (len + 3 + 17 * n + 1) 864)) hb bb tb T (tracedH H k vs) ∧
      w7.cell? ⟨w.heap.size, 0, none⟩ = some a ∧ w7.cell? ⟨hb, 0, none⟩ = some (.slice (some ⟨bb, 0, none⟩) H.bd.length 4) ∧ ∃ v, w7.cell? ⟨bb, k, none⟩ = some v ∧ Fc (w7.setCell ⟨hb, 9, none⟩ (.slice (some ⟨tb, 0, none⟩) (len + 3 + 17 * n + 1) 864)) hb T kd v := by
  subst hlen hn
  have ks : Kp (fun _ => False) w5 (w5.alloc (.cells #[.int .u8 41] 5)) := (Kp.refl _ _).alloc _
  have hll : ([32, 48 + k, 40] ++ rowN vs).length = 3 + 17 * vs.length := by rw [List.length_append, rowN_len]; rfl
  obtain ⟨w7, h1, h2, h3⟩ := (h.t.keep ks (fun h => h)).app 104 ⟨w5.heap.size, 0, none⟩ 1 1 [41] rfl (fun j x hx => by
    cases j with
    | zero =>
      simp [byV] at hx
      subst hx
      rw [add_non, World.cell?_alloc_at _ _ _ _ rfl]; rfl
    | succ j => simp [byV] at hx) (by omega)
  rw [hll, show H.tr.length + (3 + 17 * vs.length) = H.tr.length + 3 + 17 * vs.length by omega] at h1
  have f7 := (h.f.keep ks (fun h => h)).keep h2 (fun e => d2 e)
  have k7 : Kp (fun k => k = hb ∨ k = tb) w w7 := h.kp.trans ((ks.mono (fun _ h => h.elim)).trans (h2.mono (fun _ h => .inr h)))
  have k8 : Kp (fun k => k = hb ∨ k = tb) w (w7.setCell ⟨hb, 9, none⟩ (.slice (some ⟨tb, 0, none⟩) (H.tr.length + 3 + 17 * vs.length + 1) 864)) := k7.setCell (p := ⟨hb, 9, none⟩) (.inl (.inl rfl)) _
  have hbl := b1.lt (by decide)
  have htl := b3.lt (by decide)
  have hs5 := h.sz
  refine ⟨w7, h1, ⟨_, f7.cell (by decide)⟩, f7.fz (by decide), k8, ?_, ?_, ?_, G k, ?_, ?_⟩
  rotate_left
  · rw [h2.cell (p := ⟨w.heap.size, 0, none⟩) (by simp; omega) (fun e => by dsimp only at e; omega), ks.cell (p := ⟨w.heap.size, 0, none⟩) hs5 (fun h => h)]; exact h.box
  · rw [f7.cell (by decide), upd_ne _ _ (by omega), hl.f0]
  · rw [k7.cell (p := ⟨bb, k, none⟩) (b2.lt (by decide)) (fun e => by rcases e with e | e; exact d1 e.symm; exact d3 e), b2.cell hk4]
  · exact (hl.bd k kd hkd).keep k8 (fun j hT e => by
      rcases e with e | e
      · exact t.1 (e ▸ hT)
      · exact t.2.2 (e ▸ hT))
  refine Hw.traced b1 b2 b3 hl d1 d2 d3 t k8 ?_ ?_
  · have := f7.set (i := 9) (by decide) (.slice (some ⟨tb, 0, none⟩) (H.tr.length + 3 + 17 * vs.length + 1) 864)
    rw [rowH_len, show H.tr.length + (17 * vs.length + 4) = H.tr.length + 3 + 17 * vs.length + 1 by omega]
    exact this
  · exact h3.keep ((Kp.refl (fun k => k = hb) w7).setCell (p := ⟨hb, 9, none⟩) (.inl rfl) _) (Ne.symm d2)
end
end Go.Proofs.Qxb6500275aGreatDoor
