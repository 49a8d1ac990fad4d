import Derived.Test.Qxb6500275aGreatDoorNq5
set_option maxRecDepth 100000
set_option linter.unusedVariables false
set_option linter.unusedSimpArgs false
namespace Go.Proofs.Qxb6500275aGreatDoor
open Go Go.RowKit
theorem u64_eq8 {a b : Int} (h : a = b) : Ending.returned (Value.int .u64 a) = Ending.returned (Value.int .u64 b) := by rw [h]
set_option maxHeartbeats 8000000 in
theorem roundN_32 (neg st : Bool) (m : Nat) (e : Int) (M c : Nat) (hc : 65 ≤ c ∧ c ≤ 200000) (hM : 9223372036854775808 ≤ M ∧ M < 18446744073709551616) (hlift : ∀ w, Calls Tryz.prog 312 #[.int .u64 m, .int .i64 e, .int .i64 63] w (Pq w (.tuple #[.int .u64 M, .int .i64 (-149 - (c : Int))]))) (hm : m < 18446744073709551616) (w : World) : Calls Tryz.prog 313 #[.int .i64 32, .bool neg, .int .u64 m, .int .i64 e, .bool st] w (Pq w (.int .u64 ((if neg = true then 2147483648 else 0 : Nat) : Int))) := by
  have s2 : 24 - (-126 - (-149 - (c : Int) + 63)) = 64 - (c : Int) := by omega
  have s5 : (-149 - (c : Int) + 63) < -126 := by omega
  have s6 : 64 - (c : Int) < 0 := by omega
  go_enter Tryz.func313, Tryz.ntmps313
  cases neg
  · simp only [Bool.false_eq_true, if_false]
    go_wp2_with (first | (go_at_call 314; refine (prec_32 _).mono ?_; rintro en w2 ⟨rfl, rfl⟩) | (go_at_call 315; refine (bias_32 _).mono ?_; rintro en w2 ⟨rfl, rfl⟩) | (go_at_call 312; refine (hlift _).mono ?_; rintro en w2 ⟨rfl, rfl⟩) | (go_at_call 316; refine (sign_32_false _).mono ?_; rintro en w2 ⟨rfl, rfl⟩) | (go_at_call 317; refine (infinity_32_false _).mono ?_; rintro en w2 ⟨rfl, rfl⟩))
    refine bodyPost_ret (v := .int .u64 0) (by simp [results, Tryz.results313, go_sem]) rfl ?_
    exact ⟨u64_eq8 (by omega), rfl⟩
  · simp only [if_true]
    go_wp2_with (first | (go_at_call 314; refine (prec_32 _).mono ?_; rintro en w2 ⟨rfl, rfl⟩) | (go_at_call 315; refine (bias_32 _).mono ?_; rintro en w2 ⟨rfl, rfl⟩) | (go_at_call 312; refine (hlift _).mono ?_; rintro en w2 ⟨rfl, rfl⟩) | (go_at_call 316; refine (sign_32_true _).mono ?_; rintro en w2 ⟨rfl, rfl⟩) | (go_at_call 317; refine (infinity_32_true _).mono ?_; rintro en w2 ⟨rfl, rfl⟩))
    refine bodyPost_ret (v := .int .u64 2147483648) (by simp [results, Tryz.results313, go_sem]) rfl ?_
    exact ⟨u64_eq8 (by omega), rfl⟩
set_option maxHeartbeats 8000000 in
theorem roundZ_32 (neg st : Bool) (m : Nat) (e : Int) (M : Nat) (hM : 9223372036854775808 ≤ M ∧ M < 18446744073709551616) (hlift : ∀ w, Calls Tryz.prog 312 #[.int .u64 m, .int .i64 e, .int .i64 63] w (Pq w (.tuple #[.int .u64 M, .int .i64 (-213)]))) (hm : m < 18446744073709551616) (w : World) : Calls Tryz.prog 313 #[.int .i64 32, .bool neg, .int .u64 m, .int .i64 e, .bool st] w (Pq w (.int .u64 ((if neg = true then 2147483648 + upB 0 M 9223372036854775808 st else upB 0 M 9223372036854775808 st : Nat) : Int))) := by
  by_cases h1 : 9223372036854775808 < M
  · have hu : upB 0 M 9223372036854775808 st = 1 := by unfold upB; rw [if_pos (.inl h1)]
    rw [hu]
    have d1 : (9223372036854775808 : Int) < (M : Int) := by omega
    go_enter Tryz.func313, Tryz.ntmps313
    cases neg
    · simp only [Bool.false_eq_true, if_false]
      go_wp2_with (first | (go_at_call 314; refine (prec_32 _).mono ?_; rintro en w2 ⟨rfl, rfl⟩) | (go_at_call 315; refine (bias_32 _).mono ?_; rintro en w2 ⟨rfl, rfl⟩) | (go_at_call 312; refine (hlift _).mono ?_; rintro en w2 ⟨rfl, rfl⟩) | (go_at_call 316; refine (sign_32_false _).mono ?_; rintro en w2 ⟨rfl, rfl⟩) | (go_at_call 317; refine (infinity_32_false _).mono ?_; rintro en w2 ⟨rfl, rfl⟩))
      refine bodyPost_ret (v := .int .u64 1) (by simp [results, Tryz.results313, go_sem]) rfl ?_
      exact ⟨u64_eq8 (by omega), rfl⟩
    · simp only [if_true]
      go_wp2_with (first | (go_at_call 314; refine (prec_32 _).mono ?_; rintro en w2 ⟨rfl, rfl⟩) | (go_at_call 315; refine (bias_32 _).mono ?_; rintro en w2 ⟨rfl, rfl⟩) | (go_at_call 312; refine (hlift _).mono ?_; rintro en w2 ⟨rfl, rfl⟩) | (go_at_call 316; refine (sign_32_true _).mono ?_; rintro en w2 ⟨rfl, rfl⟩) | (go_at_call 317; refine (infinity_32_true _).mono ?_; rintro en w2 ⟨rfl, rfl⟩))
      refine bodyPost_ret (v := .int .u64 2147483649) (by simp [results, Tryz.results313, go_sem]) rfl ?_
      exact ⟨u64_eq8 (by omega), rfl⟩
  · have hMe : M = 9223372036854775808 := by omega
    subst hMe
    cases st
    · have hu : upB 0 9223372036854775808 9223372036854775808 false = 0 := by decide
      rw [hu]
      go_enter Tryz.func313, Tryz.ntmps313
      cases neg
      · simp only [Bool.false_eq_true, if_false]
        go_wp2_with (first | (go_at_call 314; refine (prec_32 _).mono ?_; rintro en w2 ⟨rfl, rfl⟩) | (go_at_call 315; refine (bias_32 _).mono ?_; rintro en w2 ⟨rfl, rfl⟩) | (go_at_call 312; refine (hlift _).mono ?_; rintro en w2 ⟨rfl, rfl⟩) | (go_at_call 316; refine (sign_32_false _).mono ?_; rintro en w2 ⟨rfl, rfl⟩) | (go_at_call 317; refine (infinity_32_false _).mono ?_; rintro en w2 ⟨rfl, rfl⟩))
        refine bodyPost_ret (v := .int .u64 0) (by simp [results, Tryz.results313, go_sem]) rfl ?_
        exact ⟨u64_eq8 (by omega), rfl⟩
      · simp only [if_true]
        go_wp2_with (first | (go_at_call 314; refine (prec_32 _).mono ?_; rintro en w2 ⟨rfl, rfl⟩) | (go_at_call 315; refine (bias_32 _).mono ?_; rintro en w2 ⟨rfl, rfl⟩) | (go_at_call 312; refine (hlift _).mono ?_; rintro en w2 ⟨rfl, rfl⟩) | (go_at_call 316; refine (sign_32_true _).mono ?_; rintro en w2 ⟨rfl, rfl⟩) | (go_at_call 317; refine (infinity_32_true _).mono ?_; rintro en w2 ⟨rfl, rfl⟩))
        refine bodyPost_ret (v := .int .u64 2147483648) (by simp [results, Tryz.results313, go_sem]) rfl ?_
        exact ⟨u64_eq8 (by omega), rfl⟩
    · have hu : upB 0 9223372036854775808 9223372036854775808 true = 1 := by decide
      rw [hu]
      go_enter Tryz.func313, Tryz.ntmps313
      cases neg
      · simp only [Bool.false_eq_true, if_false]
        go_wp2_with (first | (go_at_call 314; refine (prec_32 _).mono ?_; rintro en w2 ⟨rfl, rfl⟩) | (go_at_call 315; refine (bias_32 _).mono ?_; rintro en w2 ⟨rfl, rfl⟩) | (go_at_call 312; refine (hlift _).mono ?_; rintro en w2 ⟨rfl, rfl⟩) | (go_at_call 316; refine (sign_32_false _).mono ?_; rintro en w2 ⟨rfl, rfl⟩) | (go_at_call 317; refine (infinity_32_false _).mono ?_; rintro en w2 ⟨rfl, rfl⟩))
        refine bodyPost_ret (v := .int .u64 1) (by simp [results, Tryz.results313, go_sem]) rfl ?_
        exact ⟨u64_eq8 (by omega), rfl⟩
      · simp only [if_true]
        go_wp2_with (first | (go_at_call 314; refine (prec_32 _).mono ?_; rintro en w2 ⟨rfl, rfl⟩) | (go_at_call 315; refine (bias_32 _).mono ?_; rintro en w2 ⟨rfl, rfl⟩) | (go_at_call 312; refine (hlift _).mono ?_; rintro en w2 ⟨rfl, rfl⟩) | (go_at_call 316; refine (sign_32_true _).mono ?_; rintro en w2 ⟨rfl, rfl⟩) | (go_at_call 317; refine (infinity_32_true _).mono ?_; rintro en w2 ⟨rfl, rfl⟩))
        refine bodyPost_ret (v := .int .u64 2147483649) (by simp [results, Tryz.results313, go_sem]) rfl ?_
        exact ⟨u64_eq8 (by omega), rfl⟩
set_option maxHeartbeats 8000000 in
theorem roundN_64 (neg st : Bool) (m : Nat) (e : Int) (M c : Nat) (hc : 65 ≤ c ∧ c ≤ 200000) (hM : 9223372036854775808 ≤ M ∧ M < 18446744073709551616) (hlift : ∀ w, Calls Tryz.prog 312 #[.int .u64 m, .int .i64 e, .int .i64 63] w (Pq w (.tuple #[.int .u64 M, .int .i64 (-1074 - (c : Int))]))) (hm : m < 18446744073709551616) (w : World) : Calls Tryz.prog 313 #[.int .i64 64, .bool neg, .int .u64 m, .int .i64 e, .bool st] w (Pq w (.int .u64 ((if neg = true then 9223372036854775808 else 0 : Nat) : Int))) := by
  have s2 : 53 - (-1022 - (-1074 - (c : Int) + 63)) = 64 - (c : Int) := by omega
  have s5 : (-1074 - (c : Int) + 63) < -1022 := by omega
  have s6 : 64 - (c : Int) < 0 := by omega
  go_enter Tryz.func313, Tryz.ntmps313
  cases neg
  · simp only [Bool.false_eq_true, if_false]
    go_wp2_with (first | (go_at_call 314; refine (prec_64 _).mono ?_; rintro en w2 ⟨rfl, rfl⟩) | (go_at_call 315; refine (bias_64 _).mono ?_; rintro en w2 ⟨rfl, rfl⟩) | (go_at_call 312; refine (hlift _).mono ?_; rintro en w2 ⟨rfl, rfl⟩) | (go_at_call 316; refine (sign_64_false _).mono ?_; rintro en w2 ⟨rfl, rfl⟩) | (go_at_call 317; refine (infinity_64_false _).mono ?_; rintro en w2 ⟨rfl, rfl⟩))
    refine bodyPost_ret (v := .int .u64 0) (by simp [results, Tryz.results313, go_sem]) rfl ?_
    exact ⟨u64_eq8 (by omega), rfl⟩
  · simp only [if_true]
    go_wp2_with (first | (go_at_call 314; refine (prec_64 _).mono ?_; rintro en w2 ⟨rfl, rfl⟩) | (go_at_call 315; refine (bias_64 _).mono ?_; rintro en w2 ⟨rfl, rfl⟩) | (go_at_call 312; refine (hlift _).mono ?_; rintro en w2 ⟨rfl, rfl⟩) | (go_at_call 316; refine (sign_64_true _).mono ?_; rintro en w2 ⟨rfl, rfl⟩) | (go_at_call 317; refine (infinity_64_true _).mono ?_; rintro en w2 ⟨rfl, rfl⟩))
    refine bodyPost_ret (v := .int .u64 9223372036854775808) (by simp [results, Tryz.results313, go_sem]) rfl ?_
    exact ⟨u64_eq8 (by omega), rfl⟩
set_option maxHeartbeats 8000000 in
theorem roundZ_64 (neg st : Bool) (m : Nat) (e : Int) (M : Nat) (hM : 9223372036854775808 ≤ M ∧ M < 18446744073709551616) (hlift : ∀ w, Calls Tryz.prog 312 #[.int .u64 m, .int .i64 e, .int .i64 63] w (Pq w (.tuple #[.int .u64 M, .int .i64 (-1138)]))) (hm : m < 18446744073709551616) (w : World) : Calls Tryz.prog 313 #[.int .i64 64, .bool neg, .int .u64 m, .int .i64 e, .bool st] w (Pq w (.int .u64 ((if neg = true then 9223372036854775808 + upB 0 M 9223372036854775808 st else upB 0 M 9223372036854775808 st : Nat) : Int))) := by
  by_cases h1 : 9223372036854775808 < M
  · have hu : upB 0 M 9223372036854775808 st = 1 := by unfold upB; rw [if_pos (.inl h1)]
    rw [hu]
    have d1 : (9223372036854775808 : Int) < (M : Int) := by omega
    go_enter Tryz.func313, Tryz.ntmps313
    cases neg
    · simp only [Bool.false_eq_true, if_false]
      go_wp2_with (first | (go_at_call 314; refine (prec_64 _).mono ?_; rintro en w2 ⟨rfl, rfl⟩) | (go_at_call 315; refine (bias_64 _).mono ?_; rintro en w2 ⟨rfl, rfl⟩) | (go_at_call 312; refine (hlift _).mono ?_; rintro en w2 ⟨rfl, rfl⟩) | (go_at_call 316; refine (sign_64_false _).mono ?_; rintro en w2 ⟨rfl, rfl⟩) | (go_at_call 317; refine (infinity_64_false _).mono ?_; rintro en w2 ⟨rfl, rfl⟩))
      refine bodyPost_ret (v := .int .u64 1) (by simp [results, Tryz.results313, go_sem]) rfl ?_
      exact ⟨u64_eq8 (by omega), rfl⟩
    · simp only [if_true]
      go_wp2_with (first | (go_at_call 314; refine (prec_64 _).mono ?_; rintro en w2 ⟨rfl, rfl⟩) | (go_at_call 315; refine (bias_64 _).mono ?_; rintro en w2 ⟨rfl, rfl⟩) | (go_at_call 312; refine (hlift _).mono ?_; rintro en w2 ⟨rfl, rfl⟩) | (go_at_call 316; refine (sign_64_true _).mono ?_; rintro en w2 ⟨rfl, rfl⟩) | (go_at_call 317; refine (infinity_64_true _).mono ?_; rintro en w2 ⟨rfl, rfl⟩))
      refine bodyPost_ret (v := .int .u64 9223372036854775809) (by simp [results, Tryz.results313, go_sem]) rfl ?_
      exact ⟨u64_eq8 (by omega), rfl⟩
  · have hMe : M = 9223372036854775808 := by omega
    subst hMe
    cases st
    · have hu : upB 0 9223372036854775808 9223372036854775808 false = 0 := by decide
      rw [hu]
      go_enter Tryz.func313, Tryz.ntmps313
      cases neg
      · simp only [Bool.false_eq_true, if_false]
        go_wp2_with (first | (go_at_call 314; refine (prec_64 _).mono ?_; rintro en w2 ⟨rfl, rfl⟩) | (go_at_call 315; refine (bias_64 _).mono ?_; rintro en w2 ⟨rfl, rfl⟩) | (go_at_call 312; refine (hlift _).mono ?_; rintro en w2 ⟨rfl, rfl⟩) | (go_at_call 316; refine (sign_64_false _).mono ?_; rintro en w2 ⟨rfl, rfl⟩) | (go_at_call 317; refine (infinity_64_false _).mono ?_; rintro en w2 ⟨rfl, rfl⟩))
        refine bodyPost_ret (v := .int .u64 0) (by simp [results, Tryz.results313, go_sem]) rfl ?_
        exact ⟨u64_eq8 (by omega), rfl⟩
      · simp only [if_true]
        go_wp2_with (first | (go_at_call 314; refine (prec_64 _).mono ?_; rintro en w2 ⟨rfl, rfl⟩) | (go_at_call 315; refine (bias_64 _).mono ?_; rintro en w2 ⟨rfl, rfl⟩) | (go_at_call 312; refine (hlift _).mono ?_; rintro en w2 ⟨rfl, rfl⟩) | (go_at_call 316; refine (sign_64_true _).mono ?_; rintro en w2 ⟨rfl, rfl⟩) | (go_at_call 317; refine (infinity_64_true _).mono ?_; rintro en w2 ⟨rfl, rfl⟩))
        refine bodyPost_ret (v := .int .u64 9223372036854775808) (by simp [results, Tryz.results313, go_sem]) rfl ?_
        exact ⟨u64_eq8 (by omega), rfl⟩
    · have hu : upB 0 9223372036854775808 9223372036854775808 true = 1 := by decide
      rw [hu]
      go_enter Tryz.func313, Tryz.ntmps313
      cases neg
      · simp only [Bool.false_eq_true, if_false]
        go_wp2_with (first | (go_at_call 314; refine (prec_64 _).mono ?_; rintro en w2 ⟨rfl, rfl⟩) | (go_at_call 315; refine (bias_64 _).mono ?_; rintro en w2 ⟨rfl, rfl⟩) | (go_at_call 312; refine (hlift _).mono ?_; rintro en w2 ⟨rfl, rfl⟩) | (go_at_call 316; refine (sign_64_false _).mono ?_; rintro en w2 ⟨rfl, rfl⟩) | (go_at_call 317; refine (infinity_64_false _).mono ?_; rintro en w2 ⟨rfl, rfl⟩))
        refine bodyPost_ret (v := .int .u64 1) (by simp [results, Tryz.results313, go_sem]) rfl ?_
        exact ⟨u64_eq8 (by omega), rfl⟩
      · simp only [if_true]
        go_wp2_with (first | (go_at_call 314; refine (prec_64 _).mono ?_; rintro en w2 ⟨rfl, rfl⟩) | (go_at_call 315; refine (bias_64 _).mono ?_; rintro en w2 ⟨rfl, rfl⟩) | (go_at_call 312; refine (hlift _).mono ?_; rintro en w2 ⟨rfl, rfl⟩) | (go_at_call 316; refine (sign_64_true _).mono ?_; rintro en w2 ⟨rfl, rfl⟩) | (go_at_call 317; refine (infinity_64_true _).mono ?_; rintro en w2 ⟨rfl, rfl⟩))
        refine bodyPost_ret (v := .int .u64 9223372036854775809) (by simp [results, Tryz.results313, go_sem]) rfl ?_
        exact ⟨u64_eq8 (by omega), rfl⟩
end Go.Proofs.Qxb6500275aGreatDoor
