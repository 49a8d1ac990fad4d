import Derived.Test.Qxb6500275aGreatDoorNqt
set_option maxRecDepth 100000
set_option linter.unusedVariables false
set_option linter.unusedSimpArgs false
namespace Go.Proofs.Qxb6500275aGreatDoor
open Go Go.RowKit
theorem nan_unp {F : Ieee.Format} {bi : Nat} (hF : Fmt F bi) {v : Nat} : nanB F v = true ↔ (unpS F bi v).2.1 = 3 := by
  have hmod : exB F v * 2 ^ F.fractionBits + frB F v = v % F.signWeight := by
    unfold exB frB; rw [Nat.mul_comm]; exact Nat.div_add_mod _ _
  have hel := hF.ex_lt v
  have hfl := Fmt.fr_lt F v
  have hn : (F.infRung < v % F.signWeight) ↔ (exB F v = 2 * bi + 1 ∧ frB F v ≠ 0) := by
    rw [hF.inf, ← hmod]
    constructor
    · intro h
      have : ¬ exB F v < 2 * bi + 1 := fun e => by
        have : (exB F v + 1) * 2 ^ F.fractionBits ≤ (2 * bi + 1) * 2 ^ F.fractionBits := Nat.mul_le_mul_right _ (by omega)
        rw [Nat.add_mul] at this
        omega
      have h2 : exB F v = 2 * bi + 1 := by omega
      rw [h2] at h
      exact ⟨h2, by omega⟩
    · rintro ⟨h2, h3⟩
      rw [h2]; omega
  unfold nanB
  rw [decide_eq_true_iff, hn]
  unfold unpS
  by_cases h1 : exB F v = 2 * bi + 1
  · rw [if_pos h1]
    by_cases h2 : frB F v = 0
    · rw [if_pos h2]; simp [h2]
    · rw [if_neg h2]; simp [h1, h2]
  · rw [if_neg h1]
    by_cases h0 : exB F v = 0
    · rw [if_pos h0]
      by_cases h2 : frB F v = 0
      · rw [if_pos h2]; simp [h1]
      · rw [if_neg h2]; simp [h1]
    · rw [if_neg h0]; simp [h1]
theorem nan_isN {F : Ieee.Format} {bi : Nat} (hF : Fmt F bi) {v : Nat} : nanB F v = true ↔ isN F bi v := by
  rw [nan_unp hF]
  unfold unpS isN
  by_cases h1 : exB F v = 2 * bi + 1
  · rw [if_pos h1]
    by_cases h2 : frB F v = 0
    · rw [if_pos h2]; simp [h2]
    · rw [if_neg h2]; simp [h1, h2]
  · rw [if_neg h1]
    by_cases h0 : exB F v = 0
    · rw [if_pos h0]
      by_cases h2 : frB F v = 0
      · rw [if_pos h2]; simp [h1]
      · rw [if_neg h2]; simp [h1]
    · rw [if_neg h0]; simp [h1]
theorem flip_lt {F : Ieee.Format} {v : Nat} (hv : v < 2 * F.signWeight) : flipW F v < 2 * F.signWeight ∧ flipW F v % F.signWeight = v % F.signWeight := by
  unfold flipW
  by_cases h : F.signWeight ≤ v
  · rw [if_pos h]
    refine ⟨by omega, ?_⟩
    rw [Nat.mod_eq_sub_mod h]
  · rw [if_neg h]
    exact ⟨by omega, Nat.add_mod_right _ _⟩
def fbinM (F : Ieee.Format) (bi can k a b : Nat) : Nat :=
  if nanB F a = true then can else if nanB F b = true then can
  else if k = 0 then softAdd F bi can a b else if k = 1 then softAdd F bi can a (flipW F b) else if k = 2 then softMul F bi can a b else if k = 3 then softDiv F bi can a b
  else if k = 4 then (if keyN F a < keyN F b then a else b) else (if keyN F a < keyN F b then b else a)
set_option maxHeartbeats 4000000 in
theorem fltBin_0 {F : Ieee.Format} {bi can : Nat} {f : Int} (h : NG F bi can f) (a b : Nat) (ha : a < 2 * F.signWeight) (hb : b < 2 * F.signWeight) (w : World) : Calls Tryz.prog 290 #[.int .i64 0, .int .i64 f, .int .u64 a, .int .u64 b] w (Pq w (.int .u64 ((fbinM F bi can 0 a b : Nat) : Int))) := by
  have hN := h.nan
  have hT := h.top
  have hcan := h.nf.can
  have hsw := h.nf.sw
  have ha2 : a < 18446744073709551616 := by omega
  have hb2 : b < 18446744073709551616 := by omega
  have hna' := nan_unp h.nf.fmt (v := a)
  have hnb' := nan_unp h.nf.fmt (v := b)
  unfold fbinM
  cases hna : nanB F a
  · rw [if_neg (by simp)]
    have hna3 : (unpS F bi a).2.1 ≠ 3 := fun e => by rw [hna'.2 e] at hna; cases hna
    cases hnb : nanB F b
    · rw [if_neg (by simp)]
      have hnb3 : (unpS F bi b).2.1 ≠ 3 := fun e => by rw [hnb'.2 e] at hnb; cases hnb
      simp only [if_true, if_false]
      have hop := fun w => add_gen h.nf a b ha hb hna3 hnb3 w
      generalize softAdd F bi can a b = R at hop ⊢
      clear hna' hnb' hna3 hnb3 h hsw hcan
      generalize nanB F = N at *
      generalize F.signWeight = S at *
      go_enter Tryz.func290, Tryz.ntmps290
      go_wp2_with (first | (go_at_call 293; refine (hT _).mono ?_; rintro en w2 ⟨rfl, rfl⟩) | (go_at_call 295; refine (hN _ (by assumption) _).mono ?_; rintro en w2 ⟨rfl, rfl⟩) | (go_at_call 303; refine (hop _).mono ?_; rintro en w2 ⟨rfl, rfl⟩))
      refine bodyPost_ret (v := .int .u64 (R : Int)) (by simp [results, Tryz.results290, go_sem]) rfl ?_
      exact ⟨rfl, rfl⟩
    · rw [if_pos rfl]
      clear hna' hnb' h hsw
      generalize nanB F = N at *
      generalize F.signWeight = S at *
      go_enter Tryz.func290, Tryz.ntmps290
      go_wp2_with (first | (go_at_call 293; refine (hT _).mono ?_; rintro en w2 ⟨rfl, rfl⟩) | (go_at_call 295; refine (hN _ (by assumption) _).mono ?_; rintro en w2 ⟨rfl, rfl⟩) | (go_at_call 302; refine (hcan _).mono ?_; rintro en w2 ⟨rfl, rfl⟩))
      refine bodyPost_ret (v := .int .u64 (can : Int)) (by simp [results, Tryz.results290, go_sem]) rfl ?_
      exact ⟨rfl, rfl⟩
  · rw [if_pos rfl]
    clear hna' hnb' h hsw
    generalize nanB F = N at *
    generalize F.signWeight = S at *
    go_enter Tryz.func290, Tryz.ntmps290
    go_wp2_with (first | (go_at_call 293; refine (hT _).mono ?_; rintro en w2 ⟨rfl, rfl⟩) | (go_at_call 295; refine (hN _ (by assumption) _).mono ?_; rintro en w2 ⟨rfl, rfl⟩) | (go_at_call 302; refine (hcan _).mono ?_; rintro en w2 ⟨rfl, rfl⟩))
    refine bodyPost_ret (v := .int .u64 (can : Int)) (by simp [results, Tryz.results290, go_sem]) rfl ?_
    exact ⟨rfl, rfl⟩
set_option maxHeartbeats 4000000 in
theorem fltBin_1 {F : Ieee.Format} {bi can : Nat} {f : Int} (h : NG F bi can f) (a b : Nat) (ha : a < 2 * F.signWeight) (hb : b < 2 * F.signWeight) (w : World) : Calls Tryz.prog 290 #[.int .i64 1, .int .i64 f, .int .u64 a, .int .u64 b] w (Pq w (.int .u64 ((fbinM F bi can 1 a b : Nat) : Int))) := by
  have hN := h.nan
  have hT := h.top
  have hcan := h.nf.can
  have hsw := h.nf.sw
  have ha2 : a < 18446744073709551616 := by omega
  have hb2 : b < 18446744073709551616 := by omega
  have hna' := nan_unp h.nf.fmt (v := a)
  have hnb' := nan_unp h.nf.fmt (v := b)
  obtain ⟨hfl, hfm⟩ := flip_lt hb
  have hx := h.xor b hb
  have hnc : nanB F (flipW F b) = nanB F b := by unfold nanB; rw [hfm]
  have hnc' := nan_unp h.nf.fmt (v := flipW F b)
  rw [hnc] at hnc'
  unfold fbinM
  cases hna : nanB F a
  · rw [if_neg (by simp)]
    have hna3 : (unpS F bi a).2.1 ≠ 3 := fun e => by rw [hna'.2 e] at hna; cases hna
    cases hnb : nanB F b
    · rw [if_neg (by simp)]
      have hnb3 : (unpS F bi b).2.1 ≠ 3 := fun e => by rw [hnb'.2 e] at hnb; cases hnb
      have hnc3 : (unpS F bi (flipW F b)).2.1 ≠ 3 := fun e => by rw [hnc'.2 e] at hnb; cases hnb
      clear hnc hnc'
      simp only [if_true, if_false, show ¬ (1 = 0) by decide]
      have hop := fun w => add_gen h.nf a (flipW F b) ha hfl hna3 hnc3 w
      generalize softAdd F bi can a (flipW F b) = R at hop ⊢
      clear hna' hnb' hna3 hnb3 h hsw hcan
      generalize nanB F = N at *
      generalize flipW F b = c at *
      generalize F.signWeight = S at *
      go_enter Tryz.func290, Tryz.ntmps290
      go_wp2_with (first | (go_at_call 293; refine (hT _).mono ?_; rintro en w2 ⟨rfl, rfl⟩) | (go_at_call 295; refine (hN _ (by assumption) _).mono ?_; rintro en w2 ⟨rfl, rfl⟩) | (go_at_call 303; refine (hop _).mono ?_; rintro en w2 ⟨rfl, rfl⟩))
      refine bodyPost_ret (v := .int .u64 (R : Int)) (by simp [results, Tryz.results290, go_sem]) rfl ?_
      exact ⟨rfl, rfl⟩
    · rw [if_pos rfl]
      clear hna' hnb' h hsw
      generalize nanB F = N at *
      generalize F.signWeight = S at *
      go_enter Tryz.func290, Tryz.ntmps290
      go_wp2_with (first | (go_at_call 293; refine (hT _).mono ?_; rintro en w2 ⟨rfl, rfl⟩) | (go_at_call 295; refine (hN _ (by assumption) _).mono ?_; rintro en w2 ⟨rfl, rfl⟩) | (go_at_call 302; refine (hcan _).mono ?_; rintro en w2 ⟨rfl, rfl⟩))
      refine bodyPost_ret (v := .int .u64 (can : Int)) (by simp [results, Tryz.results290, go_sem]) rfl ?_
      exact ⟨rfl, rfl⟩
  · rw [if_pos rfl]
    clear hna' hnb' h hsw
    generalize nanB F = N at *
    generalize F.signWeight = S at *
    go_enter Tryz.func290, Tryz.ntmps290
    go_wp2_with (first | (go_at_call 293; refine (hT _).mono ?_; rintro en w2 ⟨rfl, rfl⟩) | (go_at_call 295; refine (hN _ (by assumption) _).mono ?_; rintro en w2 ⟨rfl, rfl⟩) | (go_at_call 302; refine (hcan _).mono ?_; rintro en w2 ⟨rfl, rfl⟩))
    refine bodyPost_ret (v := .int .u64 (can : Int)) (by simp [results, Tryz.results290, go_sem]) rfl ?_
    exact ⟨rfl, rfl⟩
set_option maxHeartbeats 4000000 in
theorem fltBin_2 {F : Ieee.Format} {bi can : Nat} {f : Int} (h : NG F bi can f) (a b : Nat) (ha : a < 2 * F.signWeight) (hb : b < 2 * F.signWeight) (w : World) : Calls Tryz.prog 290 #[.int .i64 2, .int .i64 f, .int .u64 a, .int .u64 b] w (Pq w (.int .u64 ((fbinM F bi can 2 a b : Nat) : Int))) := by
  have hN := h.nan
  have hT := h.top
  have hcan := h.nf.can
  have hsw := h.nf.sw
  have ha2 : a < 18446744073709551616 := by omega
  have hb2 : b < 18446744073709551616 := by omega
  have hna' := nan_unp h.nf.fmt (v := a)
  have hnb' := nan_unp h.nf.fmt (v := b)
  unfold fbinM
  cases hna : nanB F a
  · rw [if_neg (by simp)]
    have hna3 : (unpS F bi a).2.1 ≠ 3 := fun e => by rw [hna'.2 e] at hna; cases hna
    cases hnb : nanB F b
    · rw [if_neg (by simp)]
      have hnb3 : (unpS F bi b).2.1 ≠ 3 := fun e => by rw [hnb'.2 e] at hnb; cases hnb
      simp only [if_true, if_false, show ¬ (2 = 0) by decide, show ¬ (2 = 1) by decide]
      have hop := fun w => mul_gen h.nf a b ha hb hna3 hnb3 w
      generalize softMul F bi can a b = R at hop ⊢
      clear hna' hnb' hna3 hnb3 h hsw hcan
      generalize nanB F = N at *
      generalize F.signWeight = S at *
      go_enter Tryz.func290, Tryz.ntmps290
      go_wp2_with (first | (go_at_call 293; refine (hT _).mono ?_; rintro en w2 ⟨rfl, rfl⟩) | (go_at_call 295; refine (hN _ (by assumption) _).mono ?_; rintro en w2 ⟨rfl, rfl⟩) | (go_at_call 304; refine (hop _).mono ?_; rintro en w2 ⟨rfl, rfl⟩))
      refine bodyPost_ret (v := .int .u64 (R : Int)) (by simp [results, Tryz.results290, go_sem]) rfl ?_
      exact ⟨rfl, rfl⟩
    · rw [if_pos rfl]
      clear hna' hnb' h hsw
      generalize nanB F = N at *
      generalize F.signWeight = S at *
      go_enter Tryz.func290, Tryz.ntmps290
      go_wp2_with (first | (go_at_call 293; refine (hT _).mono ?_; rintro en w2 ⟨rfl, rfl⟩) | (go_at_call 295; refine (hN _ (by assumption) _).mono ?_; rintro en w2 ⟨rfl, rfl⟩) | (go_at_call 302; refine (hcan _).mono ?_; rintro en w2 ⟨rfl, rfl⟩))
      refine bodyPost_ret (v := .int .u64 (can : Int)) (by simp [results, Tryz.results290, go_sem]) rfl ?_
      exact ⟨rfl, rfl⟩
  · rw [if_pos rfl]
    clear hna' hnb' h hsw
    generalize nanB F = N at *
    generalize F.signWeight = S at *
    go_enter Tryz.func290, Tryz.ntmps290
    go_wp2_with (first | (go_at_call 293; refine (hT _).mono ?_; rintro en w2 ⟨rfl, rfl⟩) | (go_at_call 295; refine (hN _ (by assumption) _).mono ?_; rintro en w2 ⟨rfl, rfl⟩) | (go_at_call 302; refine (hcan _).mono ?_; rintro en w2 ⟨rfl, rfl⟩))
    refine bodyPost_ret (v := .int .u64 (can : Int)) (by simp [results, Tryz.results290, go_sem]) rfl ?_
    exact ⟨rfl, rfl⟩
set_option maxHeartbeats 4000000 in
theorem fltBin_3 {F : Ieee.Format} {bi can : Nat} {f : Int} (h : NG F bi can f) (a b : Nat) (ha : a < 2 * F.signWeight) (hb : b < 2 * F.signWeight) (w : World) : Calls Tryz.prog 290 #[.int .i64 3, .int .i64 f, .int .u64 a, .int .u64 b] w (Pq w (.int .u64 ((fbinM F bi can 3 a b : Nat) : Int))) := by
  have hN := h.nan
  have hT := h.top
  have hcan := h.nf.can
  have hsw := h.nf.sw
  have ha2 : a < 18446744073709551616 := by omega
  have hb2 : b < 18446744073709551616 := by omega
  have hna' := nan_unp h.nf.fmt (v := a)
  have hnb' := nan_unp h.nf.fmt (v := b)
  unfold fbinM
  cases hna : nanB F a
  · rw [if_neg (by simp)]
    have hna3 : (unpS F bi a).2.1 ≠ 3 := fun e => by rw [hna'.2 e] at hna; cases hna
    cases hnb : nanB F b
    · rw [if_neg (by simp)]
      have hnb3 : (unpS F bi b).2.1 ≠ 3 := fun e => by rw [hnb'.2 e] at hnb; cases hnb
      simp only [if_true, if_false, show ¬ (3 = 0) by decide, show ¬ (3 = 1) by decide, show ¬ (3 = 2) by decide]
      have hop := fun w => div_gen h.nf a b ha hb hna3 hnb3 w
      generalize softDiv F bi can a b = R at hop ⊢
      clear hna' hnb' hna3 hnb3 h hsw hcan
      generalize nanB F = N at *
      generalize F.signWeight = S at *
      go_enter Tryz.func290, Tryz.ntmps290
      go_wp2_with (first | (go_at_call 293; refine (hT _).mono ?_; rintro en w2 ⟨rfl, rfl⟩) | (go_at_call 295; refine (hN _ (by assumption) _).mono ?_; rintro en w2 ⟨rfl, rfl⟩) | (go_at_call 305; refine (hop _).mono ?_; rintro en w2 ⟨rfl, rfl⟩))
      refine bodyPost_ret (v := .int .u64 (R : Int)) (by simp [results, Tryz.results290, go_sem]) rfl ?_
      exact ⟨rfl, rfl⟩
    · rw [if_pos rfl]
      clear hna' hnb' h hsw
      generalize nanB F = N at *
      generalize F.signWeight = S at *
      go_enter Tryz.func290, Tryz.ntmps290
      go_wp2_with (first | (go_at_call 293; refine (hT _).mono ?_; rintro en w2 ⟨rfl, rfl⟩) | (go_at_call 295; refine (hN _ (by assumption) _).mono ?_; rintro en w2 ⟨rfl, rfl⟩) | (go_at_call 302; refine (hcan _).mono ?_; rintro en w2 ⟨rfl, rfl⟩))
      refine bodyPost_ret (v := .int .u64 (can : Int)) (by simp [results, Tryz.results290, go_sem]) rfl ?_
      exact ⟨rfl, rfl⟩
  · rw [if_pos rfl]
    clear hna' hnb' h hsw
    generalize nanB F = N at *
    generalize F.signWeight = S at *
    go_enter Tryz.func290, Tryz.ntmps290
    go_wp2_with (first | (go_at_call 293; refine (hT _).mono ?_; rintro en w2 ⟨rfl, rfl⟩) | (go_at_call 295; refine (hN _ (by assumption) _).mono ?_; rintro en w2 ⟨rfl, rfl⟩) | (go_at_call 302; refine (hcan _).mono ?_; rintro en w2 ⟨rfl, rfl⟩))
    refine bodyPost_ret (v := .int .u64 (can : Int)) (by simp [results, Tryz.results290, go_sem]) rfl ?_
    exact ⟨rfl, rfl⟩
set_option maxHeartbeats 4000000 in
theorem fltBin_4 {F : Ieee.Format} {bi can : Nat} {f : Int} (h : NG F bi can f) (a b : Nat) (ha : a < 2 * F.signWeight) (hb : b < 2 * F.signWeight) (w : World) : Calls Tryz.prog 290 #[.int .i64 4, .int .i64 f, .int .u64 a, .int .u64 b] w (Pq w (.int .u64 ((fbinM F bi can 4 a b : Nat) : Int))) := by
  have hN := h.nan
  have hT := h.top
  have hcan := h.nf.can
  have hsw := h.nf.sw
  have ha2 : a < 18446744073709551616 := by omega
  have hb2 : b < 18446744073709551616 := by omega
  have hna' := nan_unp h.nf.fmt (v := a)
  have hnb' := nan_unp h.nf.fmt (v := b)
  unfold fbinM
  cases hna : nanB F a
  · rw [if_neg (by simp)]
    have hna3 : (unpS F bi a).2.1 ≠ 3 := fun e => by rw [hna'.2 e] at hna; cases hna
    cases hnb : nanB F b
    · rw [if_neg (by simp)]
      have hnb3 : (unpS F bi b).2.1 ≠ 3 := fun e => by rw [hnb'.2 e] at hnb; cases hnb
      simp only [if_true, if_false, show ¬ (4 = 0) by decide, show ¬ (4 = 1) by decide, show ¬ (4 = 2) by decide, show ¬ (4 = 3) by decide]
      have hK := h.key
      clear hna' hnb' hna3 hnb3 h hsw hcan
      generalize nanB F = N at *
      have hkb : ∀ v, v < 2 * F.signWeight → keyN F v < 2 * F.signWeight := fun v hv => by unfold keyN; split <;> omega
      clear hkb
      generalize keyN F = KY at *
      generalize F.signWeight = S at *
      by_cases hc : KY a < KY b
      · rw [if_pos hc]
        have hci : ((KY a : Nat) : Int) < ((KY b : Nat) : Int) := by omega
        go_enter Tryz.func290, Tryz.ntmps290
        go_wp2_with (first | (go_at_call 293; refine (hT _).mono ?_; rintro en w2 ⟨rfl, rfl⟩) | (go_at_call 295; refine (hN _ (by assumption) _).mono ?_; rintro en w2 ⟨rfl, rfl⟩) | (go_at_call 297; refine (hK _ (by assumption) _).mono ?_; rintro en w2 ⟨rfl, rfl⟩))
        refine bodyPost_ret (v := .int .u64 (a : Int)) (by simp [results, Tryz.results290, go_sem]) rfl ?_
        exact ⟨rfl, rfl⟩
      · rw [if_neg hc]
        have hci : ¬ ((KY a : Nat) : Int) < ((KY b : Nat) : Int) := by omega
        have hcd : decide (((KY a : Nat) : Int) < ((KY b : Nat) : Int)) = false := decide_eq_false hci
        go_enter Tryz.func290, Tryz.ntmps290
        go_wp2_with (first | (go_at_call 293; refine (hT _).mono ?_; rintro en w2 ⟨rfl, rfl⟩) | (go_at_call 295; refine (hN _ (by assumption) _).mono ?_; rintro en w2 ⟨rfl, rfl⟩) | (go_at_call 297; refine (hK _ (by assumption) _).mono ?_; rintro en w2 ⟨rfl, rfl⟩))
        refine bodyPost_ret (v := .int .u64 (b : Int)) (by simp [results, Tryz.results290, go_sem]) rfl ?_
        exact ⟨rfl, rfl⟩
    · rw [if_pos rfl]
      clear hna' hnb' h hsw
      generalize nanB F = N at *
      generalize F.signWeight = S at *
      go_enter Tryz.func290, Tryz.ntmps290
      go_wp2_with (first | (go_at_call 293; refine (hT _).mono ?_; rintro en w2 ⟨rfl, rfl⟩) | (go_at_call 295; refine (hN _ (by assumption) _).mono ?_; rintro en w2 ⟨rfl, rfl⟩) | (go_at_call 302; refine (hcan _).mono ?_; rintro en w2 ⟨rfl, rfl⟩))
      refine bodyPost_ret (v := .int .u64 (can : Int)) (by simp [results, Tryz.results290, go_sem]) rfl ?_
      exact ⟨rfl, rfl⟩
  · rw [if_pos rfl]
    clear hna' hnb' h hsw
    generalize nanB F = N at *
    generalize F.signWeight = S at *
    go_enter Tryz.func290, Tryz.ntmps290
    go_wp2_with (first | (go_at_call 293; refine (hT _).mono ?_; rintro en w2 ⟨rfl, rfl⟩) | (go_at_call 295; refine (hN _ (by assumption) _).mono ?_; rintro en w2 ⟨rfl, rfl⟩) | (go_at_call 302; refine (hcan _).mono ?_; rintro en w2 ⟨rfl, rfl⟩))
    refine bodyPost_ret (v := .int .u64 (can : Int)) (by simp [results, Tryz.results290, go_sem]) rfl ?_
    exact ⟨rfl, rfl⟩
set_option maxHeartbeats 4000000 in
theorem fltBin_5 {F : Ieee.Format} {bi can : Nat} {f : Int} (h : NG F bi can f) (a b : Nat) (ha : a < 2 * F.signWeight) (hb : b < 2 * F.signWeight) (w : World) : Calls Tryz.prog 290 #[.int .i64 5, .int .i64 f, .int .u64 a, .int .u64 b] w (Pq w (.int .u64 ((fbinM F bi can 5 a b : Nat) : Int))) := by
  have hN := h.nan
  have hT := h.top
  have hcan := h.nf.can
  have hsw := h.nf.sw
  have ha2 : a < 18446744073709551616 := by omega
  have hb2 : b < 18446744073709551616 := by omega
  have hna' := nan_unp h.nf.fmt (v := a)
  have hnb' := nan_unp h.nf.fmt (v := b)
  unfold fbinM
  cases hna : nanB F a
  · rw [if_neg (by simp)]
    have hna3 : (unpS F bi a).2.1 ≠ 3 := fun e => by rw [hna'.2 e] at hna; cases hna
    cases hnb : nanB F b
    · rw [if_neg (by simp)]
      have hnb3 : (unpS F bi b).2.1 ≠ 3 := fun e => by rw [hnb'.2 e] at hnb; cases hnb
      simp only [if_true, if_false, show ¬ (5 = 0) by decide, show ¬ (5 = 1) by decide, show ¬ (5 = 2) by decide, show ¬ (5 = 3) by decide, show ¬ (5 = 4) by decide]
      have hK := h.key
      clear hna' hnb' hna3 hnb3 h hsw hcan
      generalize nanB F = N at *
      have hkb : ∀ v, v < 2 * F.signWeight → keyN F v < 2 * F.signWeight := fun v hv => by unfold keyN; split <;> omega
      clear hkb
      generalize keyN F = KY at *
      generalize F.signWeight = S at *
      by_cases hc : KY a < KY b
      · rw [if_pos hc]
        have hci : ((KY a : Nat) : Int) < ((KY b : Nat) : Int) := by omega
        go_enter Tryz.func290, Tryz.ntmps290
        go_wp2_with (first | (go_at_call 293; refine (hT _).mono ?_; rintro en w2 ⟨rfl, rfl⟩) | (go_at_call 295; refine (hN _ (by assumption) _).mono ?_; rintro en w2 ⟨rfl, rfl⟩) | (go_at_call 297; refine (hK _ (by assumption) _).mono ?_; rintro en w2 ⟨rfl, rfl⟩))
        refine bodyPost_ret (v := .int .u64 (b : Int)) (by simp [results, Tryz.results290, go_sem]) rfl ?_
        exact ⟨rfl, rfl⟩
      · rw [if_neg hc]
        have hci : ¬ ((KY a : Nat) : Int) < ((KY b : Nat) : Int) := by omega
        have hcd : decide (((KY a : Nat) : Int) < ((KY b : Nat) : Int)) = false := decide_eq_false hci
        go_enter Tryz.func290, Tryz.ntmps290
        go_wp2_with (first | (go_at_call 293; refine (hT _).mono ?_; rintro en w2 ⟨rfl, rfl⟩) | (go_at_call 295; refine (hN _ (by assumption) _).mono ?_; rintro en w2 ⟨rfl, rfl⟩) | (go_at_call 297; refine (hK _ (by assumption) _).mono ?_; rintro en w2 ⟨rfl, rfl⟩))
        refine bodyPost_ret (v := .int .u64 (a : Int)) (by simp [results, Tryz.results290, go_sem]) rfl ?_
        exact ⟨rfl, rfl⟩
    · rw [if_pos rfl]
      clear hna' hnb' h hsw
      generalize nanB F = N at *
      generalize F.signWeight = S at *
      go_enter Tryz.func290, Tryz.ntmps290
      go_wp2_with (first | (go_at_call 293; refine (hT _).mono ?_; rintro en w2 ⟨rfl, rfl⟩) | (go_at_call 295; refine (hN _ (by assumption) _).mono ?_; rintro en w2 ⟨rfl, rfl⟩) | (go_at_call 302; refine (hcan _).mono ?_; rintro en w2 ⟨rfl, rfl⟩))
      refine bodyPost_ret (v := .int .u64 (can : Int)) (by simp [results, Tryz.results290, go_sem]) rfl ?_
      exact ⟨rfl, rfl⟩
  · rw [if_pos rfl]
    clear hna' hnb' h hsw
    generalize nanB F = N at *
    generalize F.signWeight = S at *
    go_enter Tryz.func290, Tryz.ntmps290
    go_wp2_with (first | (go_at_call 293; refine (hT _).mono ?_; rintro en w2 ⟨rfl, rfl⟩) | (go_at_call 295; refine (hN _ (by assumption) _).mono ?_; rintro en w2 ⟨rfl, rfl⟩) | (go_at_call 302; refine (hcan _).mono ?_; rintro en w2 ⟨rfl, rfl⟩))
    refine bodyPost_ret (v := .int .u64 (can : Int)) (by simp [results, Tryz.results290, go_sem]) rfl ?_
    exact ⟨rfl, rfl⟩
end Go.Proofs.Qxb6500275aGreatDoor
