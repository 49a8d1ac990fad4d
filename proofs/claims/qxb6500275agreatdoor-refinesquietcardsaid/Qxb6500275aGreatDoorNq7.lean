import Derived.Test.Qxb6500275aGreatDoorNq5
set_option maxRecDepth 100000
set_option linter.unusedVariables false
set_option linter.unusedSimpArgs false
namespace Go.Proofs.Qxb6500275aGreatDoor
open Go Go.RowKit
theorem u64_eq64 {a b : Int} (h : a = b) : Ending.returned (Value.int .u64 a) = Ending.returned (Value.int .u64 b) := by rw [h]
set_option maxHeartbeats 16000000 in
theorem roundB_64 (neg st : Bool) (m : Nat) (e : Int) (M x q r : Nat) (hx9 : x ≤ 100000) (hM : 9223372036854775808 ≤ M ∧ M < 18446744073709551616) (hlift : ∀ w, Calls Tryz.prog 312 #[.int .u64 m, .int .i64 e, .int .i64 63] w (Pq w (.tuple #[.int .u64 M, .int .i64 ((x : Int) - 1085)]))) (hm : m < 18446744073709551616)
    (hq : (M : Int) / 2048 = (q : Int)) (hqr : M = q * 2048 + r) (hr : r < 2048) (h : Nat) (hh : h = 1024) (w : World) : Calls Tryz.prog 313 #[.int .i64 64, .bool neg, .int .u64 m, .int .i64 e, .bool st] w (Pq w (.int .u64 ((if neg = true then 9223372036854775808 + (if upB q r h st = 9007199254740992 then (if 2046 < x + 2 then 9218868437227405312 else (x + 1) * 4503599627370496 + 4503599627370496) else if 2046 < x + 1 then 9218868437227405312 else x * 4503599627370496 + upB q r h st) else (if upB q r h st = 9007199254740992 then (if 2046 < x + 2 then 9218868437227405312 else (x + 1) * 4503599627370496 + 4503599627370496) else if 2046 < x + 1 then 9218868437227405312 else x * 4503599627370496 + upB q r h st) : Nat) : Int))) := by
  have s1 : (x : Int) - 1085 + 63 = (x : Int) - 1022 := by omega
  have s2 : ¬ (x : Int) - 1022 < -1022 := by omega
  have s3 : decide ((x : Int) - 1022 < -1022) = false := decide_eq_false s2
  have s6 : (x : Int) - 1022 + 1023 - 1 = (x : Int) := by omega
  have s7 : (x : Int) - 1022 + 1 + 1023 - 1 = (x : Int) + 1 := by omega
  have hqb : 4503599627370496 ≤ q ∧ q < 9007199254740992 := by omega
  have hmr : (M : Int) - (q : Int) * 2048 = r := by omega
  subst hh
  clear hqr
  rcases five_way q r 1024 st with hd | ⟨hd, hs | ⟨hs, hs2⟩ | ⟨hs, hs2⟩⟩ | hd
  · have hu : upB q r 1024 st = q + 1 := by unfold upB; rw [if_pos (.inl hd)]
    rw [hu]
    have d1 : (1024 : Int) < (r : Int) := by omega
    by_cases hq1 : q + 1 = 9007199254740992
    · have hqe : q = 9007199254740991 := by omega
      subst hqe
      rw [if_pos hq1]
      by_cases hx : 2046 < x + 2
      · rw [if_pos hx]
        have g1 : (1023 : Int) < (x : Int) - 1022 + 1 := by omega
        go_enter Tryz.func313, Tryz.ntmps313
        cases neg
        · simp only [Bool.false_eq_true, if_false]
          go_wp2_with (first | (go_at_call 314; refine (prec_64 _).mono ?_; rintro en w2 ⟨rfl, rfl⟩) | (go_at_call 315; refine (bias_64 _).mono ?_; rintro en w2 ⟨rfl, rfl⟩) | (go_at_call 312; refine (hlift _).mono ?_; rintro en w2 ⟨rfl, rfl⟩) | (go_at_call 316; refine (sign_64_false _).mono ?_; rintro en w2 ⟨rfl, rfl⟩) | (go_at_call 317; refine (infinity_64_false _).mono ?_; rintro en w2 ⟨rfl, rfl⟩))
          refine bodyPost_ret (v := .int .u64 9218868437227405312) (by simp [results, Tryz.results313, go_sem]) rfl ?_
          exact ⟨u64_eq64 (by omega), rfl⟩
        · simp only [if_true]
          go_wp2_with (first | (go_at_call 314; refine (prec_64 _).mono ?_; rintro en w2 ⟨rfl, rfl⟩) | (go_at_call 315; refine (bias_64 _).mono ?_; rintro en w2 ⟨rfl, rfl⟩) | (go_at_call 312; refine (hlift _).mono ?_; rintro en w2 ⟨rfl, rfl⟩) | (go_at_call 316; refine (sign_64_true _).mono ?_; rintro en w2 ⟨rfl, rfl⟩) | (go_at_call 317; refine (infinity_64_true _).mono ?_; rintro en w2 ⟨rfl, rfl⟩))
          refine bodyPost_ret (v := .int .u64 18442240474082181120) (by simp [results, Tryz.results313, go_sem]) rfl ?_
          exact ⟨u64_eq64 (by omega), rfl⟩
      · rw [if_neg hx]
        have g1 : ¬ (1023 : Int) < (x : Int) - 1022 + 1 := by omega
        have g2 : decide ((1023 : Int) < (x : Int) - 1022 + 1) = false := decide_eq_false g1
        go_enter Tryz.func313, Tryz.ntmps313
        cases neg
        · simp only [Bool.false_eq_true, if_false]
          go_wp2_with (first | (go_at_call 314; refine (prec_64 _).mono ?_; rintro en w2 ⟨rfl, rfl⟩) | (go_at_call 315; refine (bias_64 _).mono ?_; rintro en w2 ⟨rfl, rfl⟩) | (go_at_call 312; refine (hlift _).mono ?_; rintro en w2 ⟨rfl, rfl⟩) | (go_at_call 316; refine (sign_64_false _).mono ?_; rintro en w2 ⟨rfl, rfl⟩) | (go_at_call 317; refine (infinity_64_false _).mono ?_; rintro en w2 ⟨rfl, rfl⟩))
          refine bodyPost_ret (v := .int .u64 (((x : Int) + 1) * 4503599627370496 + 4503599627370496)) (by simp [results, Tryz.results313, go_sem]) rfl ?_
          exact ⟨u64_eq64 (by omega), rfl⟩
        · simp only [if_true]
          go_wp2_with (first | (go_at_call 314; refine (prec_64 _).mono ?_; rintro en w2 ⟨rfl, rfl⟩) | (go_at_call 315; refine (bias_64 _).mono ?_; rintro en w2 ⟨rfl, rfl⟩) | (go_at_call 312; refine (hlift _).mono ?_; rintro en w2 ⟨rfl, rfl⟩) | (go_at_call 316; refine (sign_64_true _).mono ?_; rintro en w2 ⟨rfl, rfl⟩) | (go_at_call 317; refine (infinity_64_true _).mono ?_; rintro en w2 ⟨rfl, rfl⟩))
          refine bodyPost_ret (v := .int .u64 (9223372036854775808 + ((x : Int) + 1) * 4503599627370496 + 4503599627370496)) (by simp [results, Tryz.results313, go_sem]) rfl ?_
          exact ⟨u64_eq64 (by omega), rfl⟩
    · have n1 : (((q : Int) + 1) == 9007199254740992) = false := by rw [beq_eq_false_iff_ne]; omega
      rw [if_neg (show ¬ (q + 1) = 9007199254740992 by omega)]
      by_cases hx : 2046 < x + 1
      · rw [if_pos hx]
        have g1 : (1023 : Int) < (x : Int) - 1022 := by omega
        go_enter Tryz.func313, Tryz.ntmps313
        cases neg
        · simp only [Bool.false_eq_true, if_false]
          go_wp2_with (first | (go_at_call 314; refine (prec_64 _).mono ?_; rintro en w2 ⟨rfl, rfl⟩) | (go_at_call 315; refine (bias_64 _).mono ?_; rintro en w2 ⟨rfl, rfl⟩) | (go_at_call 312; refine (hlift _).mono ?_; rintro en w2 ⟨rfl, rfl⟩) | (go_at_call 316; refine (sign_64_false _).mono ?_; rintro en w2 ⟨rfl, rfl⟩) | (go_at_call 317; refine (infinity_64_false _).mono ?_; rintro en w2 ⟨rfl, rfl⟩))
          refine bodyPost_ret (v := .int .u64 9218868437227405312) (by simp [results, Tryz.results313, go_sem]) rfl ?_
          exact ⟨u64_eq64 (by omega), rfl⟩
        · simp only [if_true]
          go_wp2_with (first | (go_at_call 314; refine (prec_64 _).mono ?_; rintro en w2 ⟨rfl, rfl⟩) | (go_at_call 315; refine (bias_64 _).mono ?_; rintro en w2 ⟨rfl, rfl⟩) | (go_at_call 312; refine (hlift _).mono ?_; rintro en w2 ⟨rfl, rfl⟩) | (go_at_call 316; refine (sign_64_true _).mono ?_; rintro en w2 ⟨rfl, rfl⟩) | (go_at_call 317; refine (infinity_64_true _).mono ?_; rintro en w2 ⟨rfl, rfl⟩))
          refine bodyPost_ret (v := .int .u64 18442240474082181120) (by simp [results, Tryz.results313, go_sem]) rfl ?_
          exact ⟨u64_eq64 (by omega), rfl⟩
      · rw [if_neg hx]
        have g1 : ¬ (1023 : Int) < (x : Int) - 1022 := by omega
        have g2 : decide ((1023 : Int) < (x : Int) - 1022) = false := decide_eq_false g1
        go_enter Tryz.func313, Tryz.ntmps313
        cases neg
        · simp only [Bool.false_eq_true, if_false]
          go_wp2_with (first | (go_at_call 314; refine (prec_64 _).mono ?_; rintro en w2 ⟨rfl, rfl⟩) | (go_at_call 315; refine (bias_64 _).mono ?_; rintro en w2 ⟨rfl, rfl⟩) | (go_at_call 312; refine (hlift _).mono ?_; rintro en w2 ⟨rfl, rfl⟩) | (go_at_call 316; refine (sign_64_false _).mono ?_; rintro en w2 ⟨rfl, rfl⟩) | (go_at_call 317; refine (infinity_64_false _).mono ?_; rintro en w2 ⟨rfl, rfl⟩))
          refine bodyPost_ret (v := .int .u64 ((x : Int) * 4503599627370496 + ((q : Int) + 1))) (by simp [results, Tryz.results313, go_sem]) rfl ?_
          exact ⟨u64_eq64 (by omega), rfl⟩
        · simp only [if_true]
          go_wp2_with (first | (go_at_call 314; refine (prec_64 _).mono ?_; rintro en w2 ⟨rfl, rfl⟩) | (go_at_call 315; refine (bias_64 _).mono ?_; rintro en w2 ⟨rfl, rfl⟩) | (go_at_call 312; refine (hlift _).mono ?_; rintro en w2 ⟨rfl, rfl⟩) | (go_at_call 316; refine (sign_64_true _).mono ?_; rintro en w2 ⟨rfl, rfl⟩) | (go_at_call 317; refine (infinity_64_true _).mono ?_; rintro en w2 ⟨rfl, rfl⟩))
          refine bodyPost_ret (v := .int .u64 (9223372036854775808 + (x : Int) * 4503599627370496 + ((q : Int) + 1))) (by simp [results, Tryz.results313, go_sem]) rfl ?_
          exact ⟨u64_eq64 (by omega), rfl⟩
  · have hu : upB q r 1024 st = q + 1 := by unfold upB; rw [if_pos (.inr ⟨hd, .inl hs⟩)]
    rw [hu]
    subst hd hs
    by_cases hq1 : q + 1 = 9007199254740992
    · have hqe : q = 9007199254740991 := by omega
      subst hqe
      rw [if_pos hq1]
      by_cases hx : 2046 < x + 2
      · rw [if_pos hx]
        have g1 : (1023 : Int) < (x : Int) - 1022 + 1 := by omega
        go_enter Tryz.func313, Tryz.ntmps313
        cases neg
        · simp only [Bool.false_eq_true, if_false]
          go_wp2_with (first | (go_at_call 314; refine (prec_64 _).mono ?_; rintro en w2 ⟨rfl, rfl⟩) | (go_at_call 315; refine (bias_64 _).mono ?_; rintro en w2 ⟨rfl, rfl⟩) | (go_at_call 312; refine (hlift _).mono ?_; rintro en w2 ⟨rfl, rfl⟩) | (go_at_call 316; refine (sign_64_false _).mono ?_; rintro en w2 ⟨rfl, rfl⟩) | (go_at_call 317; refine (infinity_64_false _).mono ?_; rintro en w2 ⟨rfl, rfl⟩))
          refine bodyPost_ret (v := .int .u64 9218868437227405312) (by simp [results, Tryz.results313, go_sem]) rfl ?_
          exact ⟨u64_eq64 (by omega), rfl⟩
        · simp only [if_true]
          go_wp2_with (first | (go_at_call 314; refine (prec_64 _).mono ?_; rintro en w2 ⟨rfl, rfl⟩) | (go_at_call 315; refine (bias_64 _).mono ?_; rintro en w2 ⟨rfl, rfl⟩) | (go_at_call 312; refine (hlift _).mono ?_; rintro en w2 ⟨rfl, rfl⟩) | (go_at_call 316; refine (sign_64_true _).mono ?_; rintro en w2 ⟨rfl, rfl⟩) | (go_at_call 317; refine (infinity_64_true _).mono ?_; rintro en w2 ⟨rfl, rfl⟩))
          refine bodyPost_ret (v := .int .u64 18442240474082181120) (by simp [results, Tryz.results313, go_sem]) rfl ?_
          exact ⟨u64_eq64 (by omega), rfl⟩
      · rw [if_neg hx]
        have g1 : ¬ (1023 : Int) < (x : Int) - 1022 + 1 := by omega
        have g2 : decide ((1023 : Int) < (x : Int) - 1022 + 1) = false := decide_eq_false g1
        go_enter Tryz.func313, Tryz.ntmps313
        cases neg
        · simp only [Bool.false_eq_true, if_false]
          go_wp2_with (first | (go_at_call 314; refine (prec_64 _).mono ?_; rintro en w2 ⟨rfl, rfl⟩) | (go_at_call 315; refine (bias_64 _).mono ?_; rintro en w2 ⟨rfl, rfl⟩) | (go_at_call 312; refine (hlift _).mono ?_; rintro en w2 ⟨rfl, rfl⟩) | (go_at_call 316; refine (sign_64_false _).mono ?_; rintro en w2 ⟨rfl, rfl⟩) | (go_at_call 317; refine (infinity_64_false _).mono ?_; rintro en w2 ⟨rfl, rfl⟩))
          refine bodyPost_ret (v := .int .u64 (((x : Int) + 1) * 4503599627370496 + 4503599627370496)) (by simp [results, Tryz.results313, go_sem]) rfl ?_
          exact ⟨u64_eq64 (by omega), rfl⟩
        · simp only [if_true]
          go_wp2_with (first | (go_at_call 314; refine (prec_64 _).mono ?_; rintro en w2 ⟨rfl, rfl⟩) | (go_at_call 315; refine (bias_64 _).mono ?_; rintro en w2 ⟨rfl, rfl⟩) | (go_at_call 312; refine (hlift _).mono ?_; rintro en w2 ⟨rfl, rfl⟩) | (go_at_call 316; refine (sign_64_true _).mono ?_; rintro en w2 ⟨rfl, rfl⟩) | (go_at_call 317; refine (infinity_64_true _).mono ?_; rintro en w2 ⟨rfl, rfl⟩))
          refine bodyPost_ret (v := .int .u64 (9223372036854775808 + ((x : Int) + 1) * 4503599627370496 + 4503599627370496)) (by simp [results, Tryz.results313, go_sem]) rfl ?_
          exact ⟨u64_eq64 (by omega), rfl⟩
    · have n1 : (((q : Int) + 1) == 9007199254740992) = false := by rw [beq_eq_false_iff_ne]; omega
      rw [if_neg (show ¬ (q + 1) = 9007199254740992 by omega)]
      by_cases hx : 2046 < x + 1
      · rw [if_pos hx]
        have g1 : (1023 : Int) < (x : Int) - 1022 := by omega
        go_enter Tryz.func313, Tryz.ntmps313
        cases neg
        · simp only [Bool.false_eq_true, if_false]
          go_wp2_with (first | (go_at_call 314; refine (prec_64 _).mono ?_; rintro en w2 ⟨rfl, rfl⟩) | (go_at_call 315; refine (bias_64 _).mono ?_; rintro en w2 ⟨rfl, rfl⟩) | (go_at_call 312; refine (hlift _).mono ?_; rintro en w2 ⟨rfl, rfl⟩) | (go_at_call 316; refine (sign_64_false _).mono ?_; rintro en w2 ⟨rfl, rfl⟩) | (go_at_call 317; refine (infinity_64_false _).mono ?_; rintro en w2 ⟨rfl, rfl⟩))
          refine bodyPost_ret (v := .int .u64 9218868437227405312) (by simp [results, Tryz.results313, go_sem]) rfl ?_
          exact ⟨u64_eq64 (by omega), rfl⟩
        · simp only [if_true]
          go_wp2_with (first | (go_at_call 314; refine (prec_64 _).mono ?_; rintro en w2 ⟨rfl, rfl⟩) | (go_at_call 315; refine (bias_64 _).mono ?_; rintro en w2 ⟨rfl, rfl⟩) | (go_at_call 312; refine (hlift _).mono ?_; rintro en w2 ⟨rfl, rfl⟩) | (go_at_call 316; refine (sign_64_true _).mono ?_; rintro en w2 ⟨rfl, rfl⟩) | (go_at_call 317; refine (infinity_64_true _).mono ?_; rintro en w2 ⟨rfl, rfl⟩))
          refine bodyPost_ret (v := .int .u64 18442240474082181120) (by simp [results, Tryz.results313, go_sem]) rfl ?_
          exact ⟨u64_eq64 (by omega), rfl⟩
      · rw [if_neg hx]
        have g1 : ¬ (1023 : Int) < (x : Int) - 1022 := by omega
        have g2 : decide ((1023 : Int) < (x : Int) - 1022) = false := decide_eq_false g1
        go_enter Tryz.func313, Tryz.ntmps313
        cases neg
        · simp only [Bool.false_eq_true, if_false]
          go_wp2_with (first | (go_at_call 314; refine (prec_64 _).mono ?_; rintro en w2 ⟨rfl, rfl⟩) | (go_at_call 315; refine (bias_64 _).mono ?_; rintro en w2 ⟨rfl, rfl⟩) | (go_at_call 312; refine (hlift _).mono ?_; rintro en w2 ⟨rfl, rfl⟩) | (go_at_call 316; refine (sign_64_false _).mono ?_; rintro en w2 ⟨rfl, rfl⟩) | (go_at_call 317; refine (infinity_64_false _).mono ?_; rintro en w2 ⟨rfl, rfl⟩))
          refine bodyPost_ret (v := .int .u64 ((x : Int) * 4503599627370496 + ((q : Int) + 1))) (by simp [results, Tryz.results313, go_sem]) rfl ?_
          exact ⟨u64_eq64 (by omega), rfl⟩
        · simp only [if_true]
          go_wp2_with (first | (go_at_call 314; refine (prec_64 _).mono ?_; rintro en w2 ⟨rfl, rfl⟩) | (go_at_call 315; refine (bias_64 _).mono ?_; rintro en w2 ⟨rfl, rfl⟩) | (go_at_call 312; refine (hlift _).mono ?_; rintro en w2 ⟨rfl, rfl⟩) | (go_at_call 316; refine (sign_64_true _).mono ?_; rintro en w2 ⟨rfl, rfl⟩) | (go_at_call 317; refine (infinity_64_true _).mono ?_; rintro en w2 ⟨rfl, rfl⟩))
          refine bodyPost_ret (v := .int .u64 (9223372036854775808 + (x : Int) * 4503599627370496 + ((q : Int) + 1))) (by simp [results, Tryz.results313, go_sem]) rfl ?_
          exact ⟨u64_eq64 (by omega), rfl⟩
  · have hu : upB q r 1024 st = q + 1 := by unfold upB; rw [if_pos (.inr ⟨hd, .inr hs2⟩)]
    rw [hu]
    subst hd hs
    have d3 : ((q : Int) % 2 == 1) = true := by rw [beq_iff_eq]; omega
    by_cases hq1 : q + 1 = 9007199254740992
    · have hqe : q = 9007199254740991 := by omega
      subst hqe
      rw [if_pos hq1]
      by_cases hx : 2046 < x + 2
      · rw [if_pos hx]
        have g1 : (1023 : Int) < (x : Int) - 1022 + 1 := by omega
        go_enter Tryz.func313, Tryz.ntmps313
        cases neg
        · simp only [Bool.false_eq_true, if_false]
          go_wp2_with (first | (go_at_call 314; refine (prec_64 _).mono ?_; rintro en w2 ⟨rfl, rfl⟩) | (go_at_call 315; refine (bias_64 _).mono ?_; rintro en w2 ⟨rfl, rfl⟩) | (go_at_call 312; refine (hlift _).mono ?_; rintro en w2 ⟨rfl, rfl⟩) | (go_at_call 316; refine (sign_64_false _).mono ?_; rintro en w2 ⟨rfl, rfl⟩) | (go_at_call 317; refine (infinity_64_false _).mono ?_; rintro en w2 ⟨rfl, rfl⟩))
          refine bodyPost_ret (v := .int .u64 9218868437227405312) (by simp [results, Tryz.results313, go_sem]) rfl ?_
          exact ⟨u64_eq64 (by omega), rfl⟩
        · simp only [if_true]
          go_wp2_with (first | (go_at_call 314; refine (prec_64 _).mono ?_; rintro en w2 ⟨rfl, rfl⟩) | (go_at_call 315; refine (bias_64 _).mono ?_; rintro en w2 ⟨rfl, rfl⟩) | (go_at_call 312; refine (hlift _).mono ?_; rintro en w2 ⟨rfl, rfl⟩) | (go_at_call 316; refine (sign_64_true _).mono ?_; rintro en w2 ⟨rfl, rfl⟩) | (go_at_call 317; refine (infinity_64_true _).mono ?_; rintro en w2 ⟨rfl, rfl⟩))
          refine bodyPost_ret (v := .int .u64 18442240474082181120) (by simp [results, Tryz.results313, go_sem]) rfl ?_
          exact ⟨u64_eq64 (by omega), rfl⟩
      · rw [if_neg hx]
        have g1 : ¬ (1023 : Int) < (x : Int) - 1022 + 1 := by omega
        have g2 : decide ((1023 : Int) < (x : Int) - 1022 + 1) = false := decide_eq_false g1
        go_enter Tryz.func313, Tryz.ntmps313
        cases neg
        · simp only [Bool.false_eq_true, if_false]
          go_wp2_with (first | (go_at_call 314; refine (prec_64 _).mono ?_; rintro en w2 ⟨rfl, rfl⟩) | (go_at_call 315; refine (bias_64 _).mono ?_; rintro en w2 ⟨rfl, rfl⟩) | (go_at_call 312; refine (hlift _).mono ?_; rintro en w2 ⟨rfl, rfl⟩) | (go_at_call 316; refine (sign_64_false _).mono ?_; rintro en w2 ⟨rfl, rfl⟩) | (go_at_call 317; refine (infinity_64_false _).mono ?_; rintro en w2 ⟨rfl, rfl⟩))
          refine bodyPost_ret (v := .int .u64 (((x : Int) + 1) * 4503599627370496 + 4503599627370496)) (by simp [results, Tryz.results313, go_sem]) rfl ?_
          exact ⟨u64_eq64 (by omega), rfl⟩
        · simp only [if_true]
          go_wp2_with (first | (go_at_call 314; refine (prec_64 _).mono ?_; rintro en w2 ⟨rfl, rfl⟩) | (go_at_call 315; refine (bias_64 _).mono ?_; rintro en w2 ⟨rfl, rfl⟩) | (go_at_call 312; refine (hlift _).mono ?_; rintro en w2 ⟨rfl, rfl⟩) | (go_at_call 316; refine (sign_64_true _).mono ?_; rintro en w2 ⟨rfl, rfl⟩) | (go_at_call 317; refine (infinity_64_true _).mono ?_; rintro en w2 ⟨rfl, rfl⟩))
          refine bodyPost_ret (v := .int .u64 (9223372036854775808 + ((x : Int) + 1) * 4503599627370496 + 4503599627370496)) (by simp [results, Tryz.results313, go_sem]) rfl ?_
          exact ⟨u64_eq64 (by omega), rfl⟩
    · have n1 : (((q : Int) + 1) == 9007199254740992) = false := by rw [beq_eq_false_iff_ne]; omega
      rw [if_neg (show ¬ (q + 1) = 9007199254740992 by omega)]
      by_cases hx : 2046 < x + 1
      · rw [if_pos hx]
        have g1 : (1023 : Int) < (x : Int) - 1022 := by omega
        go_enter Tryz.func313, Tryz.ntmps313
        cases neg
        · simp only [Bool.false_eq_true, if_false]
          go_wp2_with (first | (go_at_call 314; refine (prec_64 _).mono ?_; rintro en w2 ⟨rfl, rfl⟩) | (go_at_call 315; refine (bias_64 _).mono ?_; rintro en w2 ⟨rfl, rfl⟩) | (go_at_call 312; refine (hlift _).mono ?_; rintro en w2 ⟨rfl, rfl⟩) | (go_at_call 316; refine (sign_64_false _).mono ?_; rintro en w2 ⟨rfl, rfl⟩) | (go_at_call 317; refine (infinity_64_false _).mono ?_; rintro en w2 ⟨rfl, rfl⟩))
          refine bodyPost_ret (v := .int .u64 9218868437227405312) (by simp [results, Tryz.results313, go_sem]) rfl ?_
          exact ⟨u64_eq64 (by omega), rfl⟩
        · simp only [if_true]
          go_wp2_with (first | (go_at_call 314; refine (prec_64 _).mono ?_; rintro en w2 ⟨rfl, rfl⟩) | (go_at_call 315; refine (bias_64 _).mono ?_; rintro en w2 ⟨rfl, rfl⟩) | (go_at_call 312; refine (hlift _).mono ?_; rintro en w2 ⟨rfl, rfl⟩) | (go_at_call 316; refine (sign_64_true _).mono ?_; rintro en w2 ⟨rfl, rfl⟩) | (go_at_call 317; refine (infinity_64_true _).mono ?_; rintro en w2 ⟨rfl, rfl⟩))
          refine bodyPost_ret (v := .int .u64 18442240474082181120) (by simp [results, Tryz.results313, go_sem]) rfl ?_
          exact ⟨u64_eq64 (by omega), rfl⟩
      · rw [if_neg hx]
        have g1 : ¬ (1023 : Int) < (x : Int) - 1022 := by omega
        have g2 : decide ((1023 : Int) < (x : Int) - 1022) = false := decide_eq_false g1
        go_enter Tryz.func313, Tryz.ntmps313
        cases neg
        · simp only [Bool.false_eq_true, if_false]
          go_wp2_with (first | (go_at_call 314; refine (prec_64 _).mono ?_; rintro en w2 ⟨rfl, rfl⟩) | (go_at_call 315; refine (bias_64 _).mono ?_; rintro en w2 ⟨rfl, rfl⟩) | (go_at_call 312; refine (hlift _).mono ?_; rintro en w2 ⟨rfl, rfl⟩) | (go_at_call 316; refine (sign_64_false _).mono ?_; rintro en w2 ⟨rfl, rfl⟩) | (go_at_call 317; refine (infinity_64_false _).mono ?_; rintro en w2 ⟨rfl, rfl⟩))
          refine bodyPost_ret (v := .int .u64 ((x : Int) * 4503599627370496 + ((q : Int) + 1))) (by simp [results, Tryz.results313, go_sem]) rfl ?_
          exact ⟨u64_eq64 (by omega), rfl⟩
        · simp only [if_true]
          go_wp2_with (first | (go_at_call 314; refine (prec_64 _).mono ?_; rintro en w2 ⟨rfl, rfl⟩) | (go_at_call 315; refine (bias_64 _).mono ?_; rintro en w2 ⟨rfl, rfl⟩) | (go_at_call 312; refine (hlift _).mono ?_; rintro en w2 ⟨rfl, rfl⟩) | (go_at_call 316; refine (sign_64_true _).mono ?_; rintro en w2 ⟨rfl, rfl⟩) | (go_at_call 317; refine (infinity_64_true _).mono ?_; rintro en w2 ⟨rfl, rfl⟩))
          refine bodyPost_ret (v := .int .u64 (9223372036854775808 + (x : Int) * 4503599627370496 + ((q : Int) + 1))) (by simp [results, Tryz.results313, go_sem]) rfl ?_
          exact ⟨u64_eq64 (by omega), rfl⟩
  · have hu : upB q r 1024 st = q := by unfold upB; rw [if_neg (by rw [hs]; simp; omega)]
    rw [hu]
    subst hd hs
    have d3 : ((q : Int) % 2 == 1) = false := by rw [beq_eq_false_iff_ne]; omega
    have n1 : ((q : Int) == 9007199254740992) = false := by rw [beq_eq_false_iff_ne]; omega
    rw [if_neg (show ¬ q = 9007199254740992 by omega)]
    by_cases hx : 2046 < x + 1
    · rw [if_pos hx]
      have g1 : (1023 : Int) < (x : Int) - 1022 := by omega
      go_enter Tryz.func313, Tryz.ntmps313
      cases neg
      · simp only [Bool.false_eq_true, if_false]
        go_wp2_with (first | (go_at_call 314; refine (prec_64 _).mono ?_; rintro en w2 ⟨rfl, rfl⟩) | (go_at_call 315; refine (bias_64 _).mono ?_; rintro en w2 ⟨rfl, rfl⟩) | (go_at_call 312; refine (hlift _).mono ?_; rintro en w2 ⟨rfl, rfl⟩) | (go_at_call 316; refine (sign_64_false _).mono ?_; rintro en w2 ⟨rfl, rfl⟩) | (go_at_call 317; refine (infinity_64_false _).mono ?_; rintro en w2 ⟨rfl, rfl⟩))
        refine bodyPost_ret (v := .int .u64 9218868437227405312) (by simp [results, Tryz.results313, go_sem]) rfl ?_
        exact ⟨u64_eq64 (by omega), rfl⟩
      · simp only [if_true]
        go_wp2_with (first | (go_at_call 314; refine (prec_64 _).mono ?_; rintro en w2 ⟨rfl, rfl⟩) | (go_at_call 315; refine (bias_64 _).mono ?_; rintro en w2 ⟨rfl, rfl⟩) | (go_at_call 312; refine (hlift _).mono ?_; rintro en w2 ⟨rfl, rfl⟩) | (go_at_call 316; refine (sign_64_true _).mono ?_; rintro en w2 ⟨rfl, rfl⟩) | (go_at_call 317; refine (infinity_64_true _).mono ?_; rintro en w2 ⟨rfl, rfl⟩))
        refine bodyPost_ret (v := .int .u64 18442240474082181120) (by simp [results, Tryz.results313, go_sem]) rfl ?_
        exact ⟨u64_eq64 (by omega), rfl⟩
    · rw [if_neg hx]
      have g1 : ¬ (1023 : Int) < (x : Int) - 1022 := by omega
      have g2 : decide ((1023 : Int) < (x : Int) - 1022) = false := decide_eq_false g1
      go_enter Tryz.func313, Tryz.ntmps313
      cases neg
      · simp only [Bool.false_eq_true, if_false]
        go_wp2_with (first | (go_at_call 314; refine (prec_64 _).mono ?_; rintro en w2 ⟨rfl, rfl⟩) | (go_at_call 315; refine (bias_64 _).mono ?_; rintro en w2 ⟨rfl, rfl⟩) | (go_at_call 312; refine (hlift _).mono ?_; rintro en w2 ⟨rfl, rfl⟩) | (go_at_call 316; refine (sign_64_false _).mono ?_; rintro en w2 ⟨rfl, rfl⟩) | (go_at_call 317; refine (infinity_64_false _).mono ?_; rintro en w2 ⟨rfl, rfl⟩))
        refine bodyPost_ret (v := .int .u64 ((x : Int) * 4503599627370496 + (q : Int))) (by simp [results, Tryz.results313, go_sem]) rfl ?_
        exact ⟨u64_eq64 (by omega), rfl⟩
      · simp only [if_true]
        go_wp2_with (first | (go_at_call 314; refine (prec_64 _).mono ?_; rintro en w2 ⟨rfl, rfl⟩) | (go_at_call 315; refine (bias_64 _).mono ?_; rintro en w2 ⟨rfl, rfl⟩) | (go_at_call 312; refine (hlift _).mono ?_; rintro en w2 ⟨rfl, rfl⟩) | (go_at_call 316; refine (sign_64_true _).mono ?_; rintro en w2 ⟨rfl, rfl⟩) | (go_at_call 317; refine (infinity_64_true _).mono ?_; rintro en w2 ⟨rfl, rfl⟩))
        refine bodyPost_ret (v := .int .u64 (9223372036854775808 + (x : Int) * 4503599627370496 + (q : Int))) (by simp [results, Tryz.results313, go_sem]) rfl ?_
        exact ⟨u64_eq64 (by omega), rfl⟩
  · have hu : upB q r 1024 st = q := by unfold upB; rw [if_neg (by omega)]
    rw [hu]
    have d1 : ¬ (1024 : Int) < (r : Int) := by omega
    have d1b : decide ((1024 : Int) < (r : Int)) = false := decide_eq_false d1
    have d2 : ((r : Int) == (1024 : Int)) = false := by rw [beq_eq_false_iff_ne]; omega
    have n1 : ((q : Int) == 9007199254740992) = false := by rw [beq_eq_false_iff_ne]; omega
    rw [if_neg (show ¬ q = 9007199254740992 by omega)]
    by_cases hx : 2046 < x + 1
    · rw [if_pos hx]
      have g1 : (1023 : Int) < (x : Int) - 1022 := by omega
      go_enter Tryz.func313, Tryz.ntmps313
      cases neg
      · simp only [Bool.false_eq_true, if_false]
        go_wp2_with (first | (go_at_call 314; refine (prec_64 _).mono ?_; rintro en w2 ⟨rfl, rfl⟩) | (go_at_call 315; refine (bias_64 _).mono ?_; rintro en w2 ⟨rfl, rfl⟩) | (go_at_call 312; refine (hlift _).mono ?_; rintro en w2 ⟨rfl, rfl⟩) | (go_at_call 316; refine (sign_64_false _).mono ?_; rintro en w2 ⟨rfl, rfl⟩) | (go_at_call 317; refine (infinity_64_false _).mono ?_; rintro en w2 ⟨rfl, rfl⟩))
        refine bodyPost_ret (v := .int .u64 9218868437227405312) (by simp [results, Tryz.results313, go_sem]) rfl ?_
        exact ⟨u64_eq64 (by omega), rfl⟩
      · simp only [if_true]
        go_wp2_with (first | (go_at_call 314; refine (prec_64 _).mono ?_; rintro en w2 ⟨rfl, rfl⟩) | (go_at_call 315; refine (bias_64 _).mono ?_; rintro en w2 ⟨rfl, rfl⟩) | (go_at_call 312; refine (hlift _).mono ?_; rintro en w2 ⟨rfl, rfl⟩) | (go_at_call 316; refine (sign_64_true _).mono ?_; rintro en w2 ⟨rfl, rfl⟩) | (go_at_call 317; refine (infinity_64_true _).mono ?_; rintro en w2 ⟨rfl, rfl⟩))
        refine bodyPost_ret (v := .int .u64 18442240474082181120) (by simp [results, Tryz.results313, go_sem]) rfl ?_
        exact ⟨u64_eq64 (by omega), rfl⟩
    · rw [if_neg hx]
      have g1 : ¬ (1023 : Int) < (x : Int) - 1022 := by omega
      have g2 : decide ((1023 : Int) < (x : Int) - 1022) = false := decide_eq_false g1
      go_enter Tryz.func313, Tryz.ntmps313
      cases neg
      · simp only [Bool.false_eq_true, if_false]
        go_wp2_with (first | (go_at_call 314; refine (prec_64 _).mono ?_; rintro en w2 ⟨rfl, rfl⟩) | (go_at_call 315; refine (bias_64 _).mono ?_; rintro en w2 ⟨rfl, rfl⟩) | (go_at_call 312; refine (hlift _).mono ?_; rintro en w2 ⟨rfl, rfl⟩) | (go_at_call 316; refine (sign_64_false _).mono ?_; rintro en w2 ⟨rfl, rfl⟩) | (go_at_call 317; refine (infinity_64_false _).mono ?_; rintro en w2 ⟨rfl, rfl⟩))
        refine bodyPost_ret (v := .int .u64 ((x : Int) * 4503599627370496 + (q : Int))) (by simp [results, Tryz.results313, go_sem]) rfl ?_
        exact ⟨u64_eq64 (by omega), rfl⟩
      · simp only [if_true]
        go_wp2_with (first | (go_at_call 314; refine (prec_64 _).mono ?_; rintro en w2 ⟨rfl, rfl⟩) | (go_at_call 315; refine (bias_64 _).mono ?_; rintro en w2 ⟨rfl, rfl⟩) | (go_at_call 312; refine (hlift _).mono ?_; rintro en w2 ⟨rfl, rfl⟩) | (go_at_call 316; refine (sign_64_true _).mono ?_; rintro en w2 ⟨rfl, rfl⟩) | (go_at_call 317; refine (infinity_64_true _).mono ?_; rintro en w2 ⟨rfl, rfl⟩))
        refine bodyPost_ret (v := .int .u64 (9223372036854775808 + (x : Int) * 4503599627370496 + (q : Int))) (by simp [results, Tryz.results313, go_sem]) rfl ?_
        exact ⟨u64_eq64 (by omega), rfl⟩
end Go.Proofs.Qxb6500275aGreatDoor
