import Derived.Test.Qxb6500275aGreatDoorEx5
set_option maxRecDepth 100000
set_option linter.unusedVariables false
set_option linter.unusedSimpArgs false
namespace Go.Proofs.Qxb6500275aGreatDoor
open Go Go.RowKit
section
variable {w w' : World} {X : Mx} {T : Nat → Prop} {V V' : Vm} {S S' : Sm} {H H' : Hm} {P : Nat → Prop}
theorem Ax.lt (h : Ax X) : X.lo < X.a1 ∧ X.a1 < X.a2 ∧ X.a2 < X.a3 ∧ X.a3 < X.a4 ∧ X.a4 < X.a5 ∧ X.a5 < X.hi := by
  obtain ⟨m, d, v, p, hh, x⟩ := h
  omega
theorem Xb.keep (hA : Ax X) (h : Xb w X T V S H) (hk : Kp P w w') (hp : ∀ k, X.lo ≤ k → k < X.hi → ¬ P k) (ht : ∀ k, T k → ¬ P k) : Xb w' X T V S H := by
  have hl := hA.lt
  obtain ⟨m, d, v, p, hh, xx⟩ := hA
  obtain ⟨F, x1, x2⟩ := h.x
  obtain ⟨K, k1⟩ := h.kb
  obtain ⟨ty, b1⟩ := h.bt
  obtain ⟨v0, d1, d2⟩ := h.vd
  obtain ⟨n, p1⟩ := h.pr
  have q : ∀ k, (X.lo ≤ k ∧ k < X.hi) → ¬ P k := fun k hk => hp k hk.1 hk.2
  exact ⟨⟨F, x1.keep hk (q _ (by omega)), x2⟩, ⟨K, k1.keep hk (q _ (by omega))⟩, h.mm.keep hk (q _ (by omega)) (q _ (by omega)), h.hw.keep hk (q _ (by omega)) (q _ (by omega)) (q _ (by omega)) ht, ⟨ty, b1.keep hk (q _ (by omega)) (q _ (by omega)) (q _ (by omega))⟩, ⟨v0, d1.keep hk (q _ (by omega)), d2⟩, ⟨n, p1.keep hk (q _ (by omega)) (q _ (by omega))⟩⟩
/- the host turns -/
theorem Xb.host (hA : Ax X) (h : Xb w X T V S H) (hT : ∀ k, T k → X.hi ≤ k) (hk : Kp (fun k => k = X.hb ∨ k = X.tb ∨ T k) w w') (hw : Hw w' X.hb X.bb X.tb T H') : Xb w' X T V S H' := by
  have hl := hA.lt
  obtain ⟨m, d, v, p, hh, xx⟩ := hA
  obtain ⟨F, x1, x2⟩ := h.x
  obtain ⟨K, k1⟩ := h.kb
  obtain ⟨ty, b1⟩ := h.bt
  obtain ⟨v0, d1, d2⟩ := h.vd
  obtain ⟨n, p1⟩ := h.pr
  have q : ∀ k, (k < X.hi ∧ k ≠ X.hb ∧ k ≠ X.tb) → ¬ (k = X.hb ∨ k = X.tb ∨ T k) := fun k hk hP => by
    rcases hP with e | e | e
    · exact hk.2.1 e
    · exact hk.2.2 e
    · have := hT k e; omega
  exact ⟨⟨F, x1.keep hk (q _ (by omega)), x2⟩, ⟨K, k1.keep hk (q _ (by omega))⟩, h.mm.keep hk (q _ (by omega)) (q _ (by omega)), hw, ⟨ty, b1.keep hk (q _ (by omega)) (q _ (by omega)) (q _ (by omega))⟩, ⟨v0, d1.keep hk (q _ (by omega)), d2⟩, ⟨n, p1.keep hk (q _ (by omega)) (q _ (by omega))⟩⟩
/- a cell of the machine's own block -/
theorem Xb.xset (hA : Ax X) (h : Xb w X T V S H) (hT : ∀ k, T k → X.hi ≤ k) {i : Nat} (hi : i < 28) (v : Value) (hv : ∀ F, XB F X V → XB (upd F i v) X V') : Xb (w.setCell ⟨X.xb, i, none⟩ v) X T V' S H := by
  have hk : Kp (fun k => k = X.xb) w (w.setCell ⟨X.xb, i, none⟩ v) := (Kp.refl (fun k => k = X.xb) w).setCell (p := ⟨X.xb, i, none⟩) (.inl rfl) _
  have hl := hA.lt
  obtain ⟨m, d, v', p, hh, xx⟩ := hA
  obtain ⟨F, x1, x2⟩ := h.x
  obtain ⟨K, k1⟩ := h.kb
  obtain ⟨ty, b1⟩ := h.bt
  obtain ⟨v0, d1, d2⟩ := h.vd
  obtain ⟨n, p1⟩ := h.pr
  exact ⟨⟨_, x1.set hi v, hv F x2⟩, ⟨K, k1.keep hk (by omega)⟩, h.mm.keep hk (by omega) (by omega), h.hw.keep hk (by omega) (by omega) (by omega) (fun k hk e => by have := hT k hk; omega), ⟨ty, b1.keep hk (by omega) (by omega) (by omega)⟩, ⟨v0, d1.keep hk (by omega), d2⟩, ⟨n, p1.keep hk (by omega) (by omega)⟩⟩
theorem XB.u5 {F : Nat → Value} (h : XB F X V) (v : Value) : XB (upd F 5 v) X { V with v5 := v } := by
  obtain ⟨f0, f1, f2, f3, f4, f5, f6, f7, f8, f9⟩ := h
  refine ⟨?_, ?_, ?_, ?_, ?_, upd_same _ _ _, ?_, ?_, ?_, ?_⟩ <;> (rw [upd_ne _ _ (by decide)]; assumption)
theorem XB.u6 {F : Nat → Value} (h : XB F X V) (v : Value) : XB (upd F 6 v) X { V with v6 := v } := by
  obtain ⟨f0, f1, f2, f3, f4, f5, f6, f7, f8, f9⟩ := h
  refine ⟨?_, ?_, ?_, ?_, ?_, ?_, upd_same _ _ _, ?_, ?_, ?_⟩ <;> (rw [upd_ne _ _ (by decide)]; assumption)
theorem XB.u7 {F : Nat → Value} (h : XB F X V) (v : Value) : XB (upd F 7 v) X { V with v7 := v } := by
  obtain ⟨f0, f1, f2, f3, f4, f5, f6, f7, f8, f9⟩ := h
  refine ⟨?_, ?_, ?_, ?_, ?_, ?_, ?_, upd_same _ _ _, ?_, ?_⟩ <;> (rw [upd_ne _ _ (by decide)]; assumption)
theorem XB.u8 {F : Nat → Value} (h : XB F X V) (v : Value) : XB (upd F 8 v) X { V with v8 := v } := by
  obtain ⟨f0, f1, f2, f3, f4, f5, f6, f7, f8, f9⟩ := h
  refine ⟨?_, ?_, ?_, ?_, ?_, ?_, ?_, ?_, upd_same _ _ _, ?_⟩ <;> (rw [upd_ne _ _ (by decide)]; assumption)
theorem Xb.cell (h : Xb w X T V S H) : ∃ F, (∀ i, i < 28 → w.cell? ⟨X.xb, i, none⟩ = some (F i) ∧ w.frozen? ⟨X.xb, i, none⟩ = false) ∧ XB F X V := by
  obtain ⟨F, x1, x2⟩ := h.x
  exact ⟨F, fun i hi => ⟨x1.cell hi, x1.fz hi⟩, x2⟩
set_option maxHeartbeats 4000000 in
theorem empty_calls (hA : Ax X) (h : Xb w X T V S H) (hT : ∀ k, T k → X.hi ≤ k) (hb4 : H.bd.length ≤ 4) : Calls Tryz.prog 36 #[.pointer (some ⟨X.xb, 0, none⟩)] w (fun en w' => en = .returned (.tuple #[]) ∧ Kp (fun k => k = X.xb ∨ k = X.hb ∨ T k) w w' ∧ Xb w' X T Vm.none S (clearS H)) := by
  obtain ⟨F, hc, hF⟩ := h.cell
  obtain ⟨c4, -⟩ := hc 4 (by decide)
  obtain ⟨c5, g5⟩ := hc 5 (by decide)
  obtain ⟨c6, g6⟩ := hc 6 (by decide)
  obtain ⟨c7, g7⟩ := hc 7 (by decide)
  obtain ⟨c8, g8⟩ := hc 8 (by decide)
  rw [hF.f4] at c4
  have h4 := (((h.xset hA hT (i := 5) (by decide) (.pointer none) (fun F h => h.u5 _)).xset hA hT (i := 6) (by decide) (.pointer none) (fun F h => h.u6 _)).xset hA hT (i := 7) (by decide) (.slice none 0 0) (fun F h => h.u7 _)).xset hA hT (i := 8) (by decide) (.slice none 0 0) (fun F h => h.u8 _)
  have hk4 : Kp (fun k => k = X.xb ∨ k = X.hb ∨ T k) w ((((w.setCell ⟨X.xb, 5, none⟩ (.pointer none)).setCell ⟨X.xb, 6, none⟩ (.pointer none)).setCell ⟨X.xb, 7, none⟩ (.slice none 0 0)).setCell ⟨X.xb, 8, none⟩ (.slice none 0 0)) := ((((Kp.refl _ w).setCell (p := ⟨X.xb, 5, none⟩) (.inl (.inl rfl)) _).setCell (p := ⟨X.xb, 6, none⟩) (.inl (.inl rfl)) _).setCell (p := ⟨X.xb, 7, none⟩) (.inl (.inl rfl)) _).setCell (p := ⟨X.xb, 8, none⟩) (.inl (.inl rfl)) _
  have H4 : Hid _ := h4
  have HK4 : Hid _ := hk4
  clear h4 hk4 hc hF h
  go_enter Tryz.func36, Tryz.ntmps36
  go_wp2_with fail
  generalize ((((w.setCell ⟨X.xb, 5, none⟩ (.pointer none)).setCell ⟨X.xb, 6, none⟩ (.pointer none)).setCell ⟨X.xb, 7, none⟩ (.slice none 0 0)).setCell ⟨X.xb, 8, none⟩ (.slice none 0 0)) = w4 at H4 HK4 ⊢
  refine (clear_calls H4.out.hw hb4).mono ?_
  rintro en w5 ⟨rfl, k5, m5⟩
  go_wp2_with fail
  go_end0
  go_light
  refine ⟨rfl, HK4.out.trans (k5.mono (fun k hk => .inr hk)), H4.out.host hA hT (k5.mono (fun k hk => ?_)) m5⟩
  rcases hk with e | e
  · exact .inl e
  · exact .inr (.inr e)
end
end Go.Proofs.Qxb6500275aGreatDoor
