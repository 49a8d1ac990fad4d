import Derived.Test.Qxb6500275aGreatDoorNqs
set_option maxRecDepth 100000
set_option linter.unusedVariables false
set_option linter.unusedSimpArgs false
namespace Go.Proofs.Qxb6500275aGreatDoor
open Go Go.RowKit
/- the comparisons of two keys; the model's comparison -/
def cmpC (k : Nat) (x y : Nat) : Bool := if k = 0 then ((x : Int) == (y : Int)) else if k = 1 then ((x : Int) != (y : Int)) else if k = 2 then decide ((x : Int) < (y : Int)) else if k = 3 then decide ((y : Int) < (x : Int)) else if k = 4 then decide ((x : Int) ≤ (y : Int)) else decide ((y : Int) ≤ (x : Int))
def cmpM (F : Ieee.Format) (k a b : Nat) : Bool := if nanB F a = true then decide (k = 1) else if nanB F b = true then decide (k = 1) else cmpC k (keyN F (if zerB F a = true then 0 else a)) (keyN F (if zerB F b = true then 0 else b))
def flagN (b : Bool) : Nat := if b = true then 1 else 0
theorem flag_n (b : Bool) (w : World) : Calls Tryz.prog 284 #[.bool b] w (Pq w (.int .u64 ((flagN b : Nat) : Int))) := by
  have h := flag_c b w
  cases b
  · exact h
  · exact h
set_option maxHeartbeats 4000000 in
theorem fltCmp_0 {F : Ieee.Format} {bi can : Nat} {f : Int} (h : NG F bi can f) (a b : Nat) (ha : a < 2 * F.signWeight) (hb : b < 2 * F.signWeight) (w : World) : Calls Tryz.prog 286 #[.int .i64 0, .int .i64 f, .int .u64 a, .int .u64 b] w (Pq w (.int .u64 ((flagN (cmpM F 0 a b) : Nat) : Int))) := by
  have hN := h.nan
  have hZ := h.zer
  have hK := h.key
  have hsw := h.nf.sw
  have hz0 : 0 < 2 * F.signWeight := by omega
  have hz0' : ((0 : Nat) : Int) = 0 := rfl
  have hkb : ∀ v, v < 2 * F.signWeight → keyN F v < 18446744073709551616 := fun v hv => by unfold keyN; split <;> omega
  have ha2 : a < 18446744073709551616 := by omega
  have hb2 : b < 18446744073709551616 := by omega
  clear h hsw
  unfold cmpM
  generalize nanB F = N at *
  generalize zerB F = Z at *
  generalize keyN F = KY at *
  cases hna : N a
  · rw [if_neg (by simp)]
    cases hnb : N b
    · rw [if_neg (by simp)]
      unfold cmpC
      have hK0 := hK 0 hz0
      have hK1 := hK a ha
      have hK2 := hK b hb
      have hk0 := hkb 0 hz0
      have hk1 := hkb a ha
      have hk2 := hkb b hb
      clear hkb
      cases hza : Z a <;> cases hzb : Z b
      · simp only [Bool.false_eq_true, if_false, if_true]
        go_enter Tryz.func286, Tryz.ntmps286
        go_wp2_with (first | (go_at_call 295; refine (hN _ (by assumption) _).mono ?_; rintro en w2 ⟨rfl, rfl⟩) | (go_at_call 296; refine (hZ _ (by assumption) _).mono ?_; rintro en w2 ⟨rfl, rfl⟩) | (go_at_call 297; refine (hK _ (by assumption) _).mono ?_; rintro en w2 ⟨rfl, rfl⟩) | (go_at_call 284; refine (flag_n _ _).mono ?_; rintro en w2 ⟨rfl, rfl⟩))
        refine bodyPost_ret (v := .int .u64 ((flagN (((KY a : Nat) : Int) == ((KY b : Nat) : Int)) : Nat) : Int)) (by simp [results, Tryz.results286, go_sem]) rfl ?_
        exact ⟨rfl, rfl⟩
      · simp only [Bool.false_eq_true, if_false, if_true]
        have hKz : ∀ i : Int, (i = 0 ∨ i = (a : Int)) → ∀ w, Calls Tryz.prog 297 #[.int .i64 f, .int .u64 i] w (Pq w (.int .u64 ((KY i.toNat : Nat) : Int))) := fun i hi w => by
          rcases hi with rfl | rfl
          · exact hK0 w
          · exact hK1 w
        go_enter Tryz.func286, Tryz.ntmps286
        go_wp2_with (first | (go_at_call 295; refine (hN _ (by assumption) _).mono ?_; rintro en w2 ⟨rfl, rfl⟩) | (go_at_call 296; refine (hZ _ (by assumption) _).mono ?_; rintro en w2 ⟨rfl, rfl⟩) | (go_at_call 297; refine (hKz _ (by first | exact .inl rfl | exact .inr rfl) _).mono ?_; rintro en w2 ⟨rfl, rfl⟩) | (go_at_call 284; refine (flag_n _ _).mono ?_; rintro en w2 ⟨rfl, rfl⟩))
        refine bodyPost_ret (v := .int .u64 ((flagN (((KY a : Nat) : Int) == ((KY 0 : Nat) : Int)) : Nat) : Int)) (by simp [results, Tryz.results286, go_sem]) rfl ?_
        exact ⟨rfl, rfl⟩
      · simp only [Bool.false_eq_true, if_false, if_true]
        have hKz : ∀ i : Int, (i = 0 ∨ i = (b : Int)) → ∀ w, Calls Tryz.prog 297 #[.int .i64 f, .int .u64 i] w (Pq w (.int .u64 ((KY i.toNat : Nat) : Int))) := fun i hi w => by
          rcases hi with rfl | rfl
          · exact hK0 w
          · exact hK2 w
        go_enter Tryz.func286, Tryz.ntmps286
        go_wp2_with (first | (go_at_call 295; refine (hN _ (by assumption) _).mono ?_; rintro en w2 ⟨rfl, rfl⟩) | (go_at_call 296; refine (hZ _ (by assumption) _).mono ?_; rintro en w2 ⟨rfl, rfl⟩) | (go_at_call 297; refine (hKz _ (by first | exact .inl rfl | exact .inr rfl) _).mono ?_; rintro en w2 ⟨rfl, rfl⟩) | (go_at_call 284; refine (flag_n _ _).mono ?_; rintro en w2 ⟨rfl, rfl⟩))
        refine bodyPost_ret (v := .int .u64 ((flagN (((KY 0 : Nat) : Int) == ((KY b : Nat) : Int)) : Nat) : Int)) (by simp [results, Tryz.results286, go_sem]) rfl ?_
        exact ⟨rfl, rfl⟩
      · simp only [Bool.false_eq_true, if_false, if_true]
        go_enter Tryz.func286, Tryz.ntmps286
        go_wp2_with (first | (go_at_call 295; refine (hN _ (by assumption) _).mono ?_; rintro en w2 ⟨rfl, rfl⟩) | (go_at_call 296; refine (hZ _ (by assumption) _).mono ?_; rintro en w2 ⟨rfl, rfl⟩) | (go_at_call 297; refine (hK0 _).mono ?_; rintro en w2 ⟨rfl, rfl⟩) | (go_at_call 284; refine (flag_n _ _).mono ?_; rintro en w2 ⟨rfl, rfl⟩))
        refine bodyPost_ret (v := .int .u64 ((flagN (((KY 0 : Nat) : Int) == ((KY 0 : Nat) : Int)) : Nat) : Int)) (by simp [results, Tryz.results286, go_sem]) rfl ?_
        exact ⟨rfl, rfl⟩
    · rw [if_pos rfl]
      go_enter Tryz.func286, Tryz.ntmps286
      go_wp2_with (first | (go_at_call 295; refine (hN _ (by assumption) _).mono ?_; rintro en w2 ⟨rfl, rfl⟩) | (go_at_call 284; refine (flag_n _ _).mono ?_; rintro en w2 ⟨rfl, rfl⟩))
      refine bodyPost_ret (v := .int .u64 ((flagN false : Nat) : Int)) (by simp [results, Tryz.results286, go_sem]) rfl ?_
      exact ⟨rfl, rfl⟩
  · rw [if_pos rfl]
    go_enter Tryz.func286, Tryz.ntmps286
    go_wp2_with (first | (go_at_call 295; refine (hN _ (by assumption) _).mono ?_; rintro en w2 ⟨rfl, rfl⟩) | (go_at_call 284; refine (flag_n _ _).mono ?_; rintro en w2 ⟨rfl, rfl⟩))
    refine bodyPost_ret (v := .int .u64 ((flagN false : Nat) : Int)) (by simp [results, Tryz.results286, go_sem]) rfl ?_
    exact ⟨rfl, rfl⟩
set_option maxHeartbeats 4000000 in
theorem fltCmp_1 {F : Ieee.Format} {bi can : Nat} {f : Int} (h : NG F bi can f) (a b : Nat) (ha : a < 2 * F.signWeight) (hb : b < 2 * F.signWeight) (w : World) : Calls Tryz.prog 286 #[.int .i64 1, .int .i64 f, .int .u64 a, .int .u64 b] w (Pq w (.int .u64 ((flagN (cmpM F 1 a b) : Nat) : Int))) := by
  have hN := h.nan
  have hZ := h.zer
  have hK := h.key
  have hsw := h.nf.sw
  have hz0 : 0 < 2 * F.signWeight := by omega
  have hz0' : ((0 : Nat) : Int) = 0 := rfl
  have hkb : ∀ v, v < 2 * F.signWeight → keyN F v < 18446744073709551616 := fun v hv => by unfold keyN; split <;> omega
  have ha2 : a < 18446744073709551616 := by omega
  have hb2 : b < 18446744073709551616 := by omega
  clear h hsw
  unfold cmpM
  generalize nanB F = N at *
  generalize zerB F = Z at *
  generalize keyN F = KY at *
  cases hna : N a
  · rw [if_neg (by simp)]
    cases hnb : N b
    · rw [if_neg (by simp)]
      unfold cmpC
      have hK0 := hK 0 hz0
      have hK1 := hK a ha
      have hK2 := hK b hb
      have hk0 := hkb 0 hz0
      have hk1 := hkb a ha
      have hk2 := hkb b hb
      clear hkb
      cases hza : Z a <;> cases hzb : Z b
      · simp only [Bool.false_eq_true, if_false, if_true, show ¬ (1 = 0) by decide]
        go_enter Tryz.func286, Tryz.ntmps286
        go_wp2_with (first | (go_at_call 295; refine (hN _ (by assumption) _).mono ?_; rintro en w2 ⟨rfl, rfl⟩) | (go_at_call 296; refine (hZ _ (by assumption) _).mono ?_; rintro en w2 ⟨rfl, rfl⟩) | (go_at_call 297; refine (hK _ (by assumption) _).mono ?_; rintro en w2 ⟨rfl, rfl⟩) | (go_at_call 284; refine (flag_n _ _).mono ?_; rintro en w2 ⟨rfl, rfl⟩))
        refine bodyPost_ret (v := .int .u64 ((flagN (((KY a : Nat) : Int) != ((KY b : Nat) : Int)) : Nat) : Int)) (by simp [results, Tryz.results286, go_sem]) rfl ?_
        exact ⟨rfl, rfl⟩
      · simp only [Bool.false_eq_true, if_false, if_true, show ¬ (1 = 0) by decide]
        have hKz : ∀ i : Int, (i = 0 ∨ i = (a : Int)) → ∀ w, Calls Tryz.prog 297 #[.int .i64 f, .int .u64 i] w (Pq w (.int .u64 ((KY i.toNat : Nat) : Int))) := fun i hi w => by
          rcases hi with rfl | rfl
          · exact hK0 w
          · exact hK1 w
        go_enter Tryz.func286, Tryz.ntmps286
        go_wp2_with (first | (go_at_call 295; refine (hN _ (by assumption) _).mono ?_; rintro en w2 ⟨rfl, rfl⟩) | (go_at_call 296; refine (hZ _ (by assumption) _).mono ?_; rintro en w2 ⟨rfl, rfl⟩) | (go_at_call 297; refine (hKz _ (by first | exact .inl rfl | exact .inr rfl) _).mono ?_; rintro en w2 ⟨rfl, rfl⟩) | (go_at_call 284; refine (flag_n _ _).mono ?_; rintro en w2 ⟨rfl, rfl⟩))
        refine bodyPost_ret (v := .int .u64 ((flagN (((KY a : Nat) : Int) != ((KY 0 : Nat) : Int)) : Nat) : Int)) (by simp [results, Tryz.results286, go_sem]) rfl ?_
        exact ⟨rfl, rfl⟩
      · simp only [Bool.false_eq_true, if_false, if_true, show ¬ (1 = 0) by decide]
        have hKz : ∀ i : Int, (i = 0 ∨ i = (b : Int)) → ∀ w, Calls Tryz.prog 297 #[.int .i64 f, .int .u64 i] w (Pq w (.int .u64 ((KY i.toNat : Nat) : Int))) := fun i hi w => by
          rcases hi with rfl | rfl
          · exact hK0 w
          · exact hK2 w
        go_enter Tryz.func286, Tryz.ntmps286
        go_wp2_with (first | (go_at_call 295; refine (hN _ (by assumption) _).mono ?_; rintro en w2 ⟨rfl, rfl⟩) | (go_at_call 296; refine (hZ _ (by assumption) _).mono ?_; rintro en w2 ⟨rfl, rfl⟩) | (go_at_call 297; refine (hKz _ (by first | exact .inl rfl | exact .inr rfl) _).mono ?_; rintro en w2 ⟨rfl, rfl⟩) | (go_at_call 284; refine (flag_n _ _).mono ?_; rintro en w2 ⟨rfl, rfl⟩))
        refine bodyPost_ret (v := .int .u64 ((flagN (((KY 0 : Nat) : Int) != ((KY b : Nat) : Int)) : Nat) : Int)) (by simp [results, Tryz.results286, go_sem]) rfl ?_
        exact ⟨rfl, rfl⟩
      · simp only [Bool.false_eq_true, if_false, if_true, show ¬ (1 = 0) by decide]
        go_enter Tryz.func286, Tryz.ntmps286
        go_wp2_with (first | (go_at_call 295; refine (hN _ (by assumption) _).mono ?_; rintro en w2 ⟨rfl, rfl⟩) | (go_at_call 296; refine (hZ _ (by assumption) _).mono ?_; rintro en w2 ⟨rfl, rfl⟩) | (go_at_call 297; refine (hK0 _).mono ?_; rintro en w2 ⟨rfl, rfl⟩) | (go_at_call 284; refine (flag_n _ _).mono ?_; rintro en w2 ⟨rfl, rfl⟩))
        refine bodyPost_ret (v := .int .u64 ((flagN (((KY 0 : Nat) : Int) != ((KY 0 : Nat) : Int)) : Nat) : Int)) (by simp [results, Tryz.results286, go_sem]) rfl ?_
        exact ⟨rfl, rfl⟩
    · rw [if_pos rfl]
      go_enter Tryz.func286, Tryz.ntmps286
      go_wp2_with (first | (go_at_call 295; refine (hN _ (by assumption) _).mono ?_; rintro en w2 ⟨rfl, rfl⟩) | (go_at_call 284; refine (flag_n _ _).mono ?_; rintro en w2 ⟨rfl, rfl⟩))
      refine bodyPost_ret (v := .int .u64 ((flagN true : Nat) : Int)) (by simp [results, Tryz.results286, go_sem]) rfl ?_
      exact ⟨rfl, rfl⟩
  · rw [if_pos rfl]
    go_enter Tryz.func286, Tryz.ntmps286
    go_wp2_with (first | (go_at_call 295; refine (hN _ (by assumption) _).mono ?_; rintro en w2 ⟨rfl, rfl⟩) | (go_at_call 284; refine (flag_n _ _).mono ?_; rintro en w2 ⟨rfl, rfl⟩))
    refine bodyPost_ret (v := .int .u64 ((flagN true : Nat) : Int)) (by simp [results, Tryz.results286, go_sem]) rfl ?_
    exact ⟨rfl, rfl⟩
set_option maxHeartbeats 4000000 in
theorem fltCmp_2 {F : Ieee.Format} {bi can : Nat} {f : Int} (h : NG F bi can f) (a b : Nat) (ha : a < 2 * F.signWeight) (hb : b < 2 * F.signWeight) (w : World) : Calls Tryz.prog 286 #[.int .i64 2, .int .i64 f, .int .u64 a, .int .u64 b] w (Pq w (.int .u64 ((flagN (cmpM F 2 a b) : Nat) : Int))) := by
  have hN := h.nan
  have hZ := h.zer
  have hK := h.key
  have hsw := h.nf.sw
  have hz0 : 0 < 2 * F.signWeight := by omega
  have hz0' : ((0 : Nat) : Int) = 0 := rfl
  have hkb : ∀ v, v < 2 * F.signWeight → keyN F v < 18446744073709551616 := fun v hv => by unfold keyN; split <;> omega
  have ha2 : a < 18446744073709551616 := by omega
  have hb2 : b < 18446744073709551616 := by omega
  clear h hsw
  unfold cmpM
  generalize nanB F = N at *
  generalize zerB F = Z at *
  generalize keyN F = KY at *
  cases hna : N a
  · rw [if_neg (by simp)]
    cases hnb : N b
    · rw [if_neg (by simp)]
      unfold cmpC
      have hK0 := hK 0 hz0
      have hK1 := hK a ha
      have hK2 := hK b hb
      have hk0 := hkb 0 hz0
      have hk1 := hkb a ha
      have hk2 := hkb b hb
      clear hkb
      cases hza : Z a <;> cases hzb : Z b
      · simp only [Bool.false_eq_true, if_false, if_true, show ¬ (2 = 0) by decide, show ¬ (2 = 1) by decide]
        go_enter Tryz.func286, Tryz.ntmps286
        go_wp2_with (first | (go_at_call 295; refine (hN _ (by assumption) _).mono ?_; rintro en w2 ⟨rfl, rfl⟩) | (go_at_call 296; refine (hZ _ (by assumption) _).mono ?_; rintro en w2 ⟨rfl, rfl⟩) | (go_at_call 297; refine (hK _ (by assumption) _).mono ?_; rintro en w2 ⟨rfl, rfl⟩) | (go_at_call 284; refine (flag_n _ _).mono ?_; rintro en w2 ⟨rfl, rfl⟩))
        refine bodyPost_ret (v := .int .u64 ((flagN (decide (((KY a : Nat) : Int) < ((KY b : Nat) : Int))) : Nat) : Int)) (by simp [results, Tryz.results286, go_sem]) rfl ?_
        exact ⟨rfl, rfl⟩
      · simp only [Bool.false_eq_true, if_false, if_true, show ¬ (2 = 0) by decide, show ¬ (2 = 1) by decide]
        have hKz : ∀ i : Int, (i = 0 ∨ i = (a : Int)) → ∀ w, Calls Tryz.prog 297 #[.int .i64 f, .int .u64 i] w (Pq w (.int .u64 ((KY i.toNat : Nat) : Int))) := fun i hi w => by
          rcases hi with rfl | rfl
          · exact hK0 w
          · exact hK1 w
        go_enter Tryz.func286, Tryz.ntmps286
        go_wp2_with (first | (go_at_call 295; refine (hN _ (by assumption) _).mono ?_; rintro en w2 ⟨rfl, rfl⟩) | (go_at_call 296; refine (hZ _ (by assumption) _).mono ?_; rintro en w2 ⟨rfl, rfl⟩) | (go_at_call 297; refine (hKz _ (by first | exact .inl rfl | exact .inr rfl) _).mono ?_; rintro en w2 ⟨rfl, rfl⟩) | (go_at_call 284; refine (flag_n _ _).mono ?_; rintro en w2 ⟨rfl, rfl⟩))
        refine bodyPost_ret (v := .int .u64 ((flagN (decide (((KY a : Nat) : Int) < ((KY 0 : Nat) : Int))) : Nat) : Int)) (by simp [results, Tryz.results286, go_sem]) rfl ?_
        exact ⟨rfl, rfl⟩
      · simp only [Bool.false_eq_true, if_false, if_true, show ¬ (2 = 0) by decide, show ¬ (2 = 1) by decide]
        have hKz : ∀ i : Int, (i = 0 ∨ i = (b : Int)) → ∀ w, Calls Tryz.prog 297 #[.int .i64 f, .int .u64 i] w (Pq w (.int .u64 ((KY i.toNat : Nat) : Int))) := fun i hi w => by
          rcases hi with rfl | rfl
          · exact hK0 w
          · exact hK2 w
        go_enter Tryz.func286, Tryz.ntmps286
        go_wp2_with (first | (go_at_call 295; refine (hN _ (by assumption) _).mono ?_; rintro en w2 ⟨rfl, rfl⟩) | (go_at_call 296; refine (hZ _ (by assumption) _).mono ?_; rintro en w2 ⟨rfl, rfl⟩) | (go_at_call 297; refine (hKz _ (by first | exact .inl rfl | exact .inr rfl) _).mono ?_; rintro en w2 ⟨rfl, rfl⟩) | (go_at_call 284; refine (flag_n _ _).mono ?_; rintro en w2 ⟨rfl, rfl⟩))
        refine bodyPost_ret (v := .int .u64 ((flagN (decide (((KY 0 : Nat) : Int) < ((KY b : Nat) : Int))) : Nat) : Int)) (by simp [results, Tryz.results286, go_sem]) rfl ?_
        exact ⟨rfl, rfl⟩
      · simp only [Bool.false_eq_true, if_false, if_true, show ¬ (2 = 0) by decide, show ¬ (2 = 1) by decide]
        go_enter Tryz.func286, Tryz.ntmps286
        go_wp2_with (first | (go_at_call 295; refine (hN _ (by assumption) _).mono ?_; rintro en w2 ⟨rfl, rfl⟩) | (go_at_call 296; refine (hZ _ (by assumption) _).mono ?_; rintro en w2 ⟨rfl, rfl⟩) | (go_at_call 297; refine (hK0 _).mono ?_; rintro en w2 ⟨rfl, rfl⟩) | (go_at_call 284; refine (flag_n _ _).mono ?_; rintro en w2 ⟨rfl, rfl⟩))
        refine bodyPost_ret (v := .int .u64 ((flagN (decide (((KY 0 : Nat) : Int) < ((KY 0 : Nat) : Int))) : Nat) : Int)) (by simp [results, Tryz.results286, go_sem]) rfl ?_
        exact ⟨rfl, rfl⟩
    · rw [if_pos rfl]
      go_enter Tryz.func286, Tryz.ntmps286
      go_wp2_with (first | (go_at_call 295; refine (hN _ (by assumption) _).mono ?_; rintro en w2 ⟨rfl, rfl⟩) | (go_at_call 284; refine (flag_n _ _).mono ?_; rintro en w2 ⟨rfl, rfl⟩))
      refine bodyPost_ret (v := .int .u64 ((flagN false : Nat) : Int)) (by simp [results, Tryz.results286, go_sem]) rfl ?_
      exact ⟨rfl, rfl⟩
  · rw [if_pos rfl]
    go_enter Tryz.func286, Tryz.ntmps286
    go_wp2_with (first | (go_at_call 295; refine (hN _ (by assumption) _).mono ?_; rintro en w2 ⟨rfl, rfl⟩) | (go_at_call 284; refine (flag_n _ _).mono ?_; rintro en w2 ⟨rfl, rfl⟩))
    refine bodyPost_ret (v := .int .u64 ((flagN false : Nat) : Int)) (by simp [results, Tryz.results286, go_sem]) rfl ?_
    exact ⟨rfl, rfl⟩
set_option maxHeartbeats 4000000 in
theorem fltCmp_3 {F : Ieee.Format} {bi can : Nat} {f : Int} (h : NG F bi can f) (a b : Nat) (ha : a < 2 * F.signWeight) (hb : b < 2 * F.signWeight) (w : World) : Calls Tryz.prog 286 #[.int .i64 3, .int .i64 f, .int .u64 a, .int .u64 b] w (Pq w (.int .u64 ((flagN (cmpM F 3 a b) : Nat) : Int))) := by
  have hN := h.nan
  have hZ := h.zer
  have hK := h.key
  have hsw := h.nf.sw
  have hz0 : 0 < 2 * F.signWeight := by omega
  have hz0' : ((0 : Nat) : Int) = 0 := rfl
  have hkb : ∀ v, v < 2 * F.signWeight → keyN F v < 18446744073709551616 := fun v hv => by unfold keyN; split <;> omega
  have ha2 : a < 18446744073709551616 := by omega
  have hb2 : b < 18446744073709551616 := by omega
  clear h hsw
  unfold cmpM
  generalize nanB F = N at *
  generalize zerB F = Z at *
  generalize keyN F = KY at *
  cases hna : N a
  · rw [if_neg (by simp)]
    cases hnb : N b
    · rw [if_neg (by simp)]
      unfold cmpC
      have hK0 := hK 0 hz0
      have hK1 := hK a ha
      have hK2 := hK b hb
      have hk0 := hkb 0 hz0
      have hk1 := hkb a ha
      have hk2 := hkb b hb
      clear hkb
      cases hza : Z a <;> cases hzb : Z b
      · simp only [Bool.false_eq_true, if_false, if_true, show ¬ (3 = 0) by decide, show ¬ (3 = 1) by decide, show ¬ (3 = 2) by decide]
        go_enter Tryz.func286, Tryz.ntmps286
        go_wp2_with (first | (go_at_call 295; refine (hN _ (by assumption) _).mono ?_; rintro en w2 ⟨rfl, rfl⟩) | (go_at_call 296; refine (hZ _ (by assumption) _).mono ?_; rintro en w2 ⟨rfl, rfl⟩) | (go_at_call 297; refine (hK _ (by assumption) _).mono ?_; rintro en w2 ⟨rfl, rfl⟩) | (go_at_call 284; refine (flag_n _ _).mono ?_; rintro en w2 ⟨rfl, rfl⟩))
        refine bodyPost_ret (v := .int .u64 ((flagN (decide (((KY b : Nat) : Int) < ((KY a : Nat) : Int))) : Nat) : Int)) (by simp [results, Tryz.results286, go_sem]) rfl ?_
        exact ⟨rfl, rfl⟩
      · simp only [Bool.false_eq_true, if_false, if_true, show ¬ (3 = 0) by decide, show ¬ (3 = 1) by decide, show ¬ (3 = 2) by decide]
        have hKz : ∀ i : Int, (i = 0 ∨ i = (a : Int)) → ∀ w, Calls Tryz.prog 297 #[.int .i64 f, .int .u64 i] w (Pq w (.int .u64 ((KY i.toNat : Nat) : Int))) := fun i hi w => by
          rcases hi with rfl | rfl
          · exact hK0 w
          · exact hK1 w
        go_enter Tryz.func286, Tryz.ntmps286
        go_wp2_with (first | (go_at_call 295; refine (hN _ (by assumption) _).mono ?_; rintro en w2 ⟨rfl, rfl⟩) | (go_at_call 296; refine (hZ _ (by assumption) _).mono ?_; rintro en w2 ⟨rfl, rfl⟩) | (go_at_call 297; refine (hKz _ (by first | exact .inl rfl | exact .inr rfl) _).mono ?_; rintro en w2 ⟨rfl, rfl⟩) | (go_at_call 284; refine (flag_n _ _).mono ?_; rintro en w2 ⟨rfl, rfl⟩))
        refine bodyPost_ret (v := .int .u64 ((flagN (decide (((KY 0 : Nat) : Int) < ((KY a : Nat) : Int))) : Nat) : Int)) (by simp [results, Tryz.results286, go_sem]) rfl ?_
        exact ⟨rfl, rfl⟩
      · simp only [Bool.false_eq_true, if_false, if_true, show ¬ (3 = 0) by decide, show ¬ (3 = 1) by decide, show ¬ (3 = 2) by decide]
        have hKz : ∀ i : Int, (i = 0 ∨ i = (b : Int)) → ∀ w, Calls Tryz.prog 297 #[.int .i64 f, .int .u64 i] w (Pq w (.int .u64 ((KY i.toNat : Nat) : Int))) := fun i hi w => by
          rcases hi with rfl | rfl
          · exact hK0 w
          · exact hK2 w
        go_enter Tryz.func286, Tryz.ntmps286
        go_wp2_with (first | (go_at_call 295; refine (hN _ (by assumption) _).mono ?_; rintro en w2 ⟨rfl, rfl⟩) | (go_at_call 296; refine (hZ _ (by assumption) _).mono ?_; rintro en w2 ⟨rfl, rfl⟩) | (go_at_call 297; refine (hKz _ (by first | exact .inl rfl | exact .inr rfl) _).mono ?_; rintro en w2 ⟨rfl, rfl⟩) | (go_at_call 284; refine (flag_n _ _).mono ?_; rintro en w2 ⟨rfl, rfl⟩))
        refine bodyPost_ret (v := .int .u64 ((flagN (decide (((KY b : Nat) : Int) < ((KY 0 : Nat) : Int))) : Nat) : Int)) (by simp [results, Tryz.results286, go_sem]) rfl ?_
        exact ⟨rfl, rfl⟩
      · simp only [Bool.false_eq_true, if_false, if_true, show ¬ (3 = 0) by decide, show ¬ (3 = 1) by decide, show ¬ (3 = 2) by decide]
        go_enter Tryz.func286, Tryz.ntmps286
        go_wp2_with (first | (go_at_call 295; refine (hN _ (by assumption) _).mono ?_; rintro en w2 ⟨rfl, rfl⟩) | (go_at_call 296; refine (hZ _ (by assumption) _).mono ?_; rintro en w2 ⟨rfl, rfl⟩) | (go_at_call 297; refine (hK0 _).mono ?_; rintro en w2 ⟨rfl, rfl⟩) | (go_at_call 284; refine (flag_n _ _).mono ?_; rintro en w2 ⟨rfl, rfl⟩))
        refine bodyPost_ret (v := .int .u64 ((flagN (decide (((KY 0 : Nat) : Int) < ((KY 0 : Nat) : Int))) : Nat) : Int)) (by simp [results, Tryz.results286, go_sem]) rfl ?_
        exact ⟨rfl, rfl⟩
    · rw [if_pos rfl]
      go_enter Tryz.func286, Tryz.ntmps286
      go_wp2_with (first | (go_at_call 295; refine (hN _ (by assumption) _).mono ?_; rintro en w2 ⟨rfl, rfl⟩) | (go_at_call 284; refine (flag_n _ _).mono ?_; rintro en w2 ⟨rfl, rfl⟩))
      refine bodyPost_ret (v := .int .u64 ((flagN false : Nat) : Int)) (by simp [results, Tryz.results286, go_sem]) rfl ?_
      exact ⟨rfl, rfl⟩
  · rw [if_pos rfl]
    go_enter Tryz.func286, Tryz.ntmps286
    go_wp2_with (first | (go_at_call 295; refine (hN _ (by assumption) _).mono ?_; rintro en w2 ⟨rfl, rfl⟩) | (go_at_call 284; refine (flag_n _ _).mono ?_; rintro en w2 ⟨rfl, rfl⟩))
    refine bodyPost_ret (v := .int .u64 ((flagN false : Nat) : Int)) (by simp [results, Tryz.results286, go_sem]) rfl ?_
    exact ⟨rfl, rfl⟩
set_option maxHeartbeats 4000000 in
theorem fltCmp_4 {F : Ieee.Format} {bi can : Nat} {f : Int} (h : NG F bi can f) (a b : Nat) (ha : a < 2 * F.signWeight) (hb : b < 2 * F.signWeight) (w : World) : Calls Tryz.prog 286 #[.int .i64 4, .int .i64 f, .int .u64 a, .int .u64 b] w (Pq w (.int .u64 ((flagN (cmpM F 4 a b) : Nat) : Int))) := by
  have hN := h.nan
  have hZ := h.zer
  have hK := h.key
  have hsw := h.nf.sw
  have hz0 : 0 < 2 * F.signWeight := by omega
  have hz0' : ((0 : Nat) : Int) = 0 := rfl
  have hkb : ∀ v, v < 2 * F.signWeight → keyN F v < 18446744073709551616 := fun v hv => by unfold keyN; split <;> omega
  have ha2 : a < 18446744073709551616 := by omega
  have hb2 : b < 18446744073709551616 := by omega
  clear h hsw
  unfold cmpM
  generalize nanB F = N at *
  generalize zerB F = Z at *
  generalize keyN F = KY at *
  cases hna : N a
  · rw [if_neg (by simp)]
    cases hnb : N b
    · rw [if_neg (by simp)]
      unfold cmpC
      have hK0 := hK 0 hz0
      have hK1 := hK a ha
      have hK2 := hK b hb
      have hk0 := hkb 0 hz0
      have hk1 := hkb a ha
      have hk2 := hkb b hb
      clear hkb
      cases hza : Z a <;> cases hzb : Z b
      · simp only [Bool.false_eq_true, if_false, if_true, show ¬ (4 = 0) by decide, show ¬ (4 = 1) by decide, show ¬ (4 = 2) by decide, show ¬ (4 = 3) by decide]
        go_enter Tryz.func286, Tryz.ntmps286
        go_wp2_with (first | (go_at_call 295; refine (hN _ (by assumption) _).mono ?_; rintro en w2 ⟨rfl, rfl⟩) | (go_at_call 296; refine (hZ _ (by assumption) _).mono ?_; rintro en w2 ⟨rfl, rfl⟩) | (go_at_call 297; refine (hK _ (by assumption) _).mono ?_; rintro en w2 ⟨rfl, rfl⟩) | (go_at_call 284; refine (flag_n _ _).mono ?_; rintro en w2 ⟨rfl, rfl⟩))
        refine bodyPost_ret (v := .int .u64 ((flagN (decide (((KY a : Nat) : Int) ≤ ((KY b : Nat) : Int))) : Nat) : Int)) (by simp [results, Tryz.results286, go_sem]) rfl ?_
        exact ⟨rfl, rfl⟩
      · simp only [Bool.false_eq_true, if_false, if_true, show ¬ (4 = 0) by decide, show ¬ (4 = 1) by decide, show ¬ (4 = 2) by decide, show ¬ (4 = 3) by decide]
        have hKz : ∀ i : Int, (i = 0 ∨ i = (a : Int)) → ∀ w, Calls Tryz.prog 297 #[.int .i64 f, .int .u64 i] w (Pq w (.int .u64 ((KY i.toNat : Nat) : Int))) := fun i hi w => by
          rcases hi with rfl | rfl
          · exact hK0 w
          · exact hK1 w
        go_enter Tryz.func286, Tryz.ntmps286
        go_wp2_with (first | (go_at_call 295; refine (hN _ (by assumption) _).mono ?_; rintro en w2 ⟨rfl, rfl⟩) | (go_at_call 296; refine (hZ _ (by assumption) _).mono ?_; rintro en w2 ⟨rfl, rfl⟩) | (go_at_call 297; refine (hKz _ (by first | exact .inl rfl | exact .inr rfl) _).mono ?_; rintro en w2 ⟨rfl, rfl⟩) | (go_at_call 284; refine (flag_n _ _).mono ?_; rintro en w2 ⟨rfl, rfl⟩))
        refine bodyPost_ret (v := .int .u64 ((flagN (decide (((KY a : Nat) : Int) ≤ ((KY 0 : Nat) : Int))) : Nat) : Int)) (by simp [results, Tryz.results286, go_sem]) rfl ?_
        exact ⟨rfl, rfl⟩
      · simp only [Bool.false_eq_true, if_false, if_true, show ¬ (4 = 0) by decide, show ¬ (4 = 1) by decide, show ¬ (4 = 2) by decide, show ¬ (4 = 3) by decide]
        have hKz : ∀ i : Int, (i = 0 ∨ i = (b : Int)) → ∀ w, Calls Tryz.prog 297 #[.int .i64 f, .int .u64 i] w (Pq w (.int .u64 ((KY i.toNat : Nat) : Int))) := fun i hi w => by
          rcases hi with rfl | rfl
          · exact hK0 w
          · exact hK2 w
        go_enter Tryz.func286, Tryz.ntmps286
        go_wp2_with (first | (go_at_call 295; refine (hN _ (by assumption) _).mono ?_; rintro en w2 ⟨rfl, rfl⟩) | (go_at_call 296; refine (hZ _ (by assumption) _).mono ?_; rintro en w2 ⟨rfl, rfl⟩) | (go_at_call 297; refine (hKz _ (by first | exact .inl rfl | exact .inr rfl) _).mono ?_; rintro en w2 ⟨rfl, rfl⟩) | (go_at_call 284; refine (flag_n _ _).mono ?_; rintro en w2 ⟨rfl, rfl⟩))
        refine bodyPost_ret (v := .int .u64 ((flagN (decide (((KY 0 : Nat) : Int) ≤ ((KY b : Nat) : Int))) : Nat) : Int)) (by simp [results, Tryz.results286, go_sem]) rfl ?_
        exact ⟨rfl, rfl⟩
      · simp only [Bool.false_eq_true, if_false, if_true, show ¬ (4 = 0) by decide, show ¬ (4 = 1) by decide, show ¬ (4 = 2) by decide, show ¬ (4 = 3) by decide]
        go_enter Tryz.func286, Tryz.ntmps286
        go_wp2_with (first | (go_at_call 295; refine (hN _ (by assumption) _).mono ?_; rintro en w2 ⟨rfl, rfl⟩) | (go_at_call 296; refine (hZ _ (by assumption) _).mono ?_; rintro en w2 ⟨rfl, rfl⟩) | (go_at_call 297; refine (hK0 _).mono ?_; rintro en w2 ⟨rfl, rfl⟩) | (go_at_call 284; refine (flag_n _ _).mono ?_; rintro en w2 ⟨rfl, rfl⟩))
        refine bodyPost_ret (v := .int .u64 ((flagN (decide (((KY 0 : Nat) : Int) ≤ ((KY 0 : Nat) : Int))) : Nat) : Int)) (by simp [results, Tryz.results286, go_sem]) rfl ?_
        exact ⟨rfl, rfl⟩
    · rw [if_pos rfl]
      go_enter Tryz.func286, Tryz.ntmps286
      go_wp2_with (first | (go_at_call 295; refine (hN _ (by assumption) _).mono ?_; rintro en w2 ⟨rfl, rfl⟩) | (go_at_call 284; refine (flag_n _ _).mono ?_; rintro en w2 ⟨rfl, rfl⟩))
      refine bodyPost_ret (v := .int .u64 ((flagN false : Nat) : Int)) (by simp [results, Tryz.results286, go_sem]) rfl ?_
      exact ⟨rfl, rfl⟩
  · rw [if_pos rfl]
    go_enter Tryz.func286, Tryz.ntmps286
    go_wp2_with (first | (go_at_call 295; refine (hN _ (by assumption) _).mono ?_; rintro en w2 ⟨rfl, rfl⟩) | (go_at_call 284; refine (flag_n _ _).mono ?_; rintro en w2 ⟨rfl, rfl⟩))
    refine bodyPost_ret (v := .int .u64 ((flagN false : Nat) : Int)) (by simp [results, Tryz.results286, go_sem]) rfl ?_
    exact ⟨rfl, rfl⟩
set_option maxHeartbeats 4000000 in
theorem fltCmp_5 {F : Ieee.Format} {bi can : Nat} {f : Int} (h : NG F bi can f) (a b : Nat) (ha : a < 2 * F.signWeight) (hb : b < 2 * F.signWeight) (w : World) : Calls Tryz.prog 286 #[.int .i64 5, .int .i64 f, .int .u64 a, .int .u64 b] w (Pq w (.int .u64 ((flagN (cmpM F 5 a b) : Nat) : Int))) := by
  have hN := h.nan
  have hZ := h.zer
  have hK := h.key
  have hsw := h.nf.sw
  have hz0 : 0 < 2 * F.signWeight := by omega
  have hz0' : ((0 : Nat) : Int) = 0 := rfl
  have hkb : ∀ v, v < 2 * F.signWeight → keyN F v < 18446744073709551616 := fun v hv => by unfold keyN; split <;> omega
  have ha2 : a < 18446744073709551616 := by omega
  have hb2 : b < 18446744073709551616 := by omega
  clear h hsw
  unfold cmpM
  generalize nanB F = N at *
  generalize zerB F = Z at *
  generalize keyN F = KY at *
  cases hna : N a
  · rw [if_neg (by simp)]
    cases hnb : N b
    · rw [if_neg (by simp)]
      unfold cmpC
      have hK0 := hK 0 hz0
      have hK1 := hK a ha
      have hK2 := hK b hb
      have hk0 := hkb 0 hz0
      have hk1 := hkb a ha
      have hk2 := hkb b hb
      clear hkb
      cases hza : Z a <;> cases hzb : Z b
      · simp only [Bool.false_eq_true, if_false, if_true, show ¬ (5 = 0) by decide, show ¬ (5 = 1) by decide, show ¬ (5 = 2) by decide, show ¬ (5 = 3) by decide, show ¬ (5 = 4) by decide]
        go_enter Tryz.func286, Tryz.ntmps286
        go_wp2_with (first | (go_at_call 295; refine (hN _ (by assumption) _).mono ?_; rintro en w2 ⟨rfl, rfl⟩) | (go_at_call 296; refine (hZ _ (by assumption) _).mono ?_; rintro en w2 ⟨rfl, rfl⟩) | (go_at_call 297; refine (hK _ (by assumption) _).mono ?_; rintro en w2 ⟨rfl, rfl⟩) | (go_at_call 284; refine (flag_n _ _).mono ?_; rintro en w2 ⟨rfl, rfl⟩))
        refine bodyPost_ret (v := .int .u64 ((flagN (decide (((KY b : Nat) : Int) ≤ ((KY a : Nat) : Int))) : Nat) : Int)) (by simp [results, Tryz.results286, go_sem]) rfl ?_
        exact ⟨rfl, rfl⟩
      · simp only [Bool.false_eq_true, if_false, if_true, show ¬ (5 = 0) by decide, show ¬ (5 = 1) by decide, show ¬ (5 = 2) by decide, show ¬ (5 = 3) by decide, show ¬ (5 = 4) by decide]
        have hKz : ∀ i : Int, (i = 0 ∨ i = (a : Int)) → ∀ w, Calls Tryz.prog 297 #[.int .i64 f, .int .u64 i] w (Pq w (.int .u64 ((KY i.toNat : Nat) : Int))) := fun i hi w => by
          rcases hi with rfl | rfl
          · exact hK0 w
          · exact hK1 w
        go_enter Tryz.func286, Tryz.ntmps286
        go_wp2_with (first | (go_at_call 295; refine (hN _ (by assumption) _).mono ?_; rintro en w2 ⟨rfl, rfl⟩) | (go_at_call 296; refine (hZ _ (by assumption) _).mono ?_; rintro en w2 ⟨rfl, rfl⟩) | (go_at_call 297; refine (hKz _ (by first | exact .inl rfl | exact .inr rfl) _).mono ?_; rintro en w2 ⟨rfl, rfl⟩) | (go_at_call 284; refine (flag_n _ _).mono ?_; rintro en w2 ⟨rfl, rfl⟩))
        refine bodyPost_ret (v := .int .u64 ((flagN (decide (((KY 0 : Nat) : Int) ≤ ((KY a : Nat) : Int))) : Nat) : Int)) (by simp [results, Tryz.results286, go_sem]) rfl ?_
        exact ⟨rfl, rfl⟩
      · simp only [Bool.false_eq_true, if_false, if_true, show ¬ (5 = 0) by decide, show ¬ (5 = 1) by decide, show ¬ (5 = 2) by decide, show ¬ (5 = 3) by decide, show ¬ (5 = 4) by decide]
        have hKz : ∀ i : Int, (i = 0 ∨ i = (b : Int)) → ∀ w, Calls Tryz.prog 297 #[.int .i64 f, .int .u64 i] w (Pq w (.int .u64 ((KY i.toNat : Nat) : Int))) := fun i hi w => by
          rcases hi with rfl | rfl
          · exact hK0 w
          · exact hK2 w
        go_enter Tryz.func286, Tryz.ntmps286
        go_wp2_with (first | (go_at_call 295; refine (hN _ (by assumption) _).mono ?_; rintro en w2 ⟨rfl, rfl⟩) | (go_at_call 296; refine (hZ _ (by assumption) _).mono ?_; rintro en w2 ⟨rfl, rfl⟩) | (go_at_call 297; refine (hKz _ (by first | exact .inl rfl | exact .inr rfl) _).mono ?_; rintro en w2 ⟨rfl, rfl⟩) | (go_at_call 284; refine (flag_n _ _).mono ?_; rintro en w2 ⟨rfl, rfl⟩))
        refine bodyPost_ret (v := .int .u64 ((flagN (decide (((KY b : Nat) : Int) ≤ ((KY 0 : Nat) : Int))) : Nat) : Int)) (by simp [results, Tryz.results286, go_sem]) rfl ?_
        exact ⟨rfl, rfl⟩
      · simp only [Bool.false_eq_true, if_false, if_true, show ¬ (5 = 0) by decide, show ¬ (5 = 1) by decide, show ¬ (5 = 2) by decide, show ¬ (5 = 3) by decide, show ¬ (5 = 4) by decide]
        go_enter Tryz.func286, Tryz.ntmps286
        go_wp2_with (first | (go_at_call 295; refine (hN _ (by assumption) _).mono ?_; rintro en w2 ⟨rfl, rfl⟩) | (go_at_call 296; refine (hZ _ (by assumption) _).mono ?_; rintro en w2 ⟨rfl, rfl⟩) | (go_at_call 297; refine (hK0 _).mono ?_; rintro en w2 ⟨rfl, rfl⟩) | (go_at_call 284; refine (flag_n _ _).mono ?_; rintro en w2 ⟨rfl, rfl⟩))
        refine bodyPost_ret (v := .int .u64 ((flagN (decide (((KY 0 : Nat) : Int) ≤ ((KY 0 : Nat) : Int))) : Nat) : Int)) (by simp [results, Tryz.results286, go_sem]) rfl ?_
        exact ⟨rfl, rfl⟩
    · rw [if_pos rfl]
      go_enter Tryz.func286, Tryz.ntmps286
      go_wp2_with (first | (go_at_call 295; refine (hN _ (by assumption) _).mono ?_; rintro en w2 ⟨rfl, rfl⟩) | (go_at_call 284; refine (flag_n _ _).mono ?_; rintro en w2 ⟨rfl, rfl⟩))
      refine bodyPost_ret (v := .int .u64 ((flagN false : Nat) : Int)) (by simp [results, Tryz.results286, go_sem]) rfl ?_
      exact ⟨rfl, rfl⟩
  · rw [if_pos rfl]
    go_enter Tryz.func286, Tryz.ntmps286
    go_wp2_with (first | (go_at_call 295; refine (hN _ (by assumption) _).mono ?_; rintro en w2 ⟨rfl, rfl⟩) | (go_at_call 284; refine (flag_n _ _).mono ?_; rintro en w2 ⟨rfl, rfl⟩))
    refine bodyPost_ret (v := .int .u64 ((flagN false : Nat) : Int)) (by simp [results, Tryz.results286, go_sem]) rfl ?_
    exact ⟨rfl, rfl⟩
end Go.Proofs.Qxb6500275aGreatDoor
