import Derived.Test.Qxb6500275aGreatDoorNq5
set_option maxRecDepth 100000
set_option linter.unusedVariables false
set_option linter.unusedSimpArgs false
namespace Go.Proofs.Qxb6500275aGreatDoor
open Go Go.RowKit
theorem u64_eq32 {a b : Int} (h : a = b) : Ending.returned (Value.int .u64 a) = Ending.returned (Value.int .u64 b) := by rw [h]
set_option maxHeartbeats 16000000 in
theorem roundB_32 (neg st : Bool) (m : Nat) (e : Int) (M x q r : Nat) (hx9 : x ≤ 100000) (hM : 9223372036854775808 ≤ M ∧ M < 18446744073709551616) (hlift : ∀ w, Calls Tryz.prog 312 #[.int .u64 m, .int .i64 e, .int .i64 63] w (Pq w (.tuple #[.int .u64 M, .int .i64 ((x : Int) - 189)]))) (hm : m < 18446744073709551616)
    (hq : (M : Int) / 1099511627776 = (q : Int)) (hqr : M = q * 1099511627776 + r) (hr : r < 1099511627776) (h : Nat) (hh : h = 549755813888) (w : World) : Calls Tryz.prog 313 #[.int .i64 32, .bool neg, .int .u64 m, .int .i64 e, .bool st] w (Pq w (.int .u64 ((if neg = true then 2147483648 + (if upB q r h st = 16777216 then (if 254 < x + 2 then 2139095040 else (x + 1) * 8388608 + 8388608) else if 254 < x + 1 then 2139095040 else x * 8388608 + upB q r h st) else (if upB q r h st = 16777216 then (if 254 < x + 2 then 2139095040 else (x + 1) * 8388608 + 8388608) else if 254 < x + 1 then 2139095040 else x * 8388608 + upB q r h st) : Nat) : Int))) := by
  have s1 : (x : Int) - 189 + 63 = (x : Int) - 126 := by omega
  have s2 : ¬ (x : Int) - 126 < -126 := by omega
  have s3 : decide ((x : Int) - 126 < -126) = false := decide_eq_false s2
  have s6 : (x : Int) - 126 + 127 - 1 = (x : Int) := by omega
  have s7 : (x : Int) - 126 + 1 + 127 - 1 = (x : Int) + 1 := by omega
  have hqb : 8388608 ≤ q ∧ q < 16777216 := by omega
  have hmr : (M : Int) - (q : Int) * 1099511627776 = r := by omega
  subst hh
  clear hqr
  rcases five_way q r 549755813888 st with hd | ⟨hd, hs | ⟨hs, hs2⟩ | ⟨hs, hs2⟩⟩ | hd
  · have hu : upB q r 549755813888 st = q + 1 := by unfold upB; rw [if_pos (.inl hd)]
    rw [hu]
    have d1 : (549755813888 : Int) < (r : Int) := by omega
    by_cases hq1 : q + 1 = 16777216
    · have hqe : q = 16777215 := by omega
      subst hqe
      rw [if_pos hq1]
      by_cases hx : 254 < x + 2
      · rw [if_pos hx]
        have g1 : (127 : Int) < (x : Int) - 126 + 1 := by omega
        go_enter Tryz.func313, Tryz.ntmps313
        cases neg
        · simp only [Bool.false_eq_true, if_false]
          go_wp2_with (first | (go_at_call 314; refine (prec_32 _).mono ?_; rintro en w2 ⟨rfl, rfl⟩) | (go_at_call 315; refine (bias_32 _).mono ?_; rintro en w2 ⟨rfl, rfl⟩) | (go_at_call 312; refine (hlift _).mono ?_; rintro en w2 ⟨rfl, rfl⟩) | (go_at_call 316; refine (sign_32_false _).mono ?_; rintro en w2 ⟨rfl, rfl⟩) | (go_at_call 317; refine (infinity_32_false _).mono ?_; rintro en w2 ⟨rfl, rfl⟩))
          refine bodyPost_ret (v := .int .u64 2139095040) (by simp [results, Tryz.results313, go_sem]) rfl ?_
          exact ⟨u64_eq32 (by omega), rfl⟩
        · simp only [if_true]
          go_wp2_with (first | (go_at_call 314; refine (prec_32 _).mono ?_; rintro en w2 ⟨rfl, rfl⟩) | (go_at_call 315; refine (bias_32 _).mono ?_; rintro en w2 ⟨rfl, rfl⟩) | (go_at_call 312; refine (hlift _).mono ?_; rintro en w2 ⟨rfl, rfl⟩) | (go_at_call 316; refine (sign_32_true _).mono ?_; rintro en w2 ⟨rfl, rfl⟩) | (go_at_call 317; refine (infinity_32_true _).mono ?_; rintro en w2 ⟨rfl, rfl⟩))
          refine bodyPost_ret (v := .int .u64 4286578688) (by simp [results, Tryz.results313, go_sem]) rfl ?_
          exact ⟨u64_eq32 (by omega), rfl⟩
      · rw [if_neg hx]
        have g1 : ¬ (127 : Int) < (x : Int) - 126 + 1 := by omega
        have g2 : decide ((127 : Int) < (x : Int) - 126 + 1) = false := decide_eq_false g1
        go_enter Tryz.func313, Tryz.ntmps313
        cases neg
        · simp only [Bool.false_eq_true, if_false]
          go_wp2_with (first | (go_at_call 314; refine (prec_32 _).mono ?_; rintro en w2 ⟨rfl, rfl⟩) | (go_at_call 315; refine (bias_32 _).mono ?_; rintro en w2 ⟨rfl, rfl⟩) | (go_at_call 312; refine (hlift _).mono ?_; rintro en w2 ⟨rfl, rfl⟩) | (go_at_call 316; refine (sign_32_false _).mono ?_; rintro en w2 ⟨rfl, rfl⟩) | (go_at_call 317; refine (infinity_32_false _).mono ?_; rintro en w2 ⟨rfl, rfl⟩))
          refine bodyPost_ret (v := .int .u64 (((x : Int) + 1) * 8388608 + 8388608)) (by simp [results, Tryz.results313, go_sem]) rfl ?_
          exact ⟨u64_eq32 (by omega), rfl⟩
        · simp only [if_true]
          go_wp2_with (first | (go_at_call 314; refine (prec_32 _).mono ?_; rintro en w2 ⟨rfl, rfl⟩) | (go_at_call 315; refine (bias_32 _).mono ?_; rintro en w2 ⟨rfl, rfl⟩) | (go_at_call 312; refine (hlift _).mono ?_; rintro en w2 ⟨rfl, rfl⟩) | (go_at_call 316; refine (sign_32_true _).mono ?_; rintro en w2 ⟨rfl, rfl⟩) | (go_at_call 317; refine (infinity_32_true _).mono ?_; rintro en w2 ⟨rfl, rfl⟩))
          refine bodyPost_ret (v := .int .u64 (2147483648 + ((x : Int) + 1) * 8388608 + 8388608)) (by simp [results, Tryz.results313, go_sem]) rfl ?_
          exact ⟨u64_eq32 (by omega), rfl⟩
    · have n1 : (((q : Int) + 1) == 16777216) = false := by rw [beq_eq_false_iff_ne]; omega
      rw [if_neg (show ¬ (q + 1) = 16777216 by omega)]
      by_cases hx : 254 < x + 1
      · rw [if_pos hx]
        have g1 : (127 : Int) < (x : Int) - 126 := by omega
        go_enter Tryz.func313, Tryz.ntmps313
        cases neg
        · simp only [Bool.false_eq_true, if_false]
          go_wp2_with (first | (go_at_call 314; refine (prec_32 _).mono ?_; rintro en w2 ⟨rfl, rfl⟩) | (go_at_call 315; refine (bias_32 _).mono ?_; rintro en w2 ⟨rfl, rfl⟩) | (go_at_call 312; refine (hlift _).mono ?_; rintro en w2 ⟨rfl, rfl⟩) | (go_at_call 316; refine (sign_32_false _).mono ?_; rintro en w2 ⟨rfl, rfl⟩) | (go_at_call 317; refine (infinity_32_false _).mono ?_; rintro en w2 ⟨rfl, rfl⟩))
          refine bodyPost_ret (v := .int .u64 2139095040) (by simp [results, Tryz.results313, go_sem]) rfl ?_
          exact ⟨u64_eq32 (by omega), rfl⟩
        · simp only [if_true]
          go_wp2_with (first | (go_at_call 314; refine (prec_32 _).mono ?_; rintro en w2 ⟨rfl, rfl⟩) | (go_at_call 315; refine (bias_32 _).mono ?_; rintro en w2 ⟨rfl, rfl⟩) | (go_at_call 312; refine (hlift _).mono ?_; rintro en w2 ⟨rfl, rfl⟩) | (go_at_call 316; refine (sign_32_true _).mono ?_; rintro en w2 ⟨rfl, rfl⟩) | (go_at_call 317; refine (infinity_32_true _).mono ?_; rintro en w2 ⟨rfl, rfl⟩))
          refine bodyPost_ret (v := .int .u64 4286578688) (by simp [results, Tryz.results313, go_sem]) rfl ?_
          exact ⟨u64_eq32 (by omega), rfl⟩
      · rw [if_neg hx]
        have g1 : ¬ (127 : Int) < (x : Int) - 126 := by omega
        have g2 : decide ((127 : Int) < (x : Int) - 126) = false := decide_eq_false g1
        go_enter Tryz.func313, Tryz.ntmps313
        cases neg
        · simp only [Bool.false_eq_true, if_false]
          go_wp2_with (first | (go_at_call 314; refine (prec_32 _).mono ?_; rintro en w2 ⟨rfl, rfl⟩) | (go_at_call 315; refine (bias_32 _).mono ?_; rintro en w2 ⟨rfl, rfl⟩) | (go_at_call 312; refine (hlift _).mono ?_; rintro en w2 ⟨rfl, rfl⟩) | (go_at_call 316; refine (sign_32_false _).mono ?_; rintro en w2 ⟨rfl, rfl⟩) | (go_at_call 317; refine (infinity_32_false _).mono ?_; rintro en w2 ⟨rfl, rfl⟩))
          refine bodyPost_ret (v := .int .u64 ((x : Int) * 8388608 + ((q : Int) + 1))) (by simp [results, Tryz.results313, go_sem]) rfl ?_
          exact ⟨u64_eq32 (by omega), rfl⟩
        · simp only [if_true]
          go_wp2_with (first | (go_at_call 314; refine (prec_32 _).mono ?_; rintro en w2 ⟨rfl, rfl⟩) | (go_at_call 315; refine (bias_32 _).mono ?_; rintro en w2 ⟨rfl, rfl⟩) | (go_at_call 312; refine (hlift _).mono ?_; rintro en w2 ⟨rfl, rfl⟩) | (go_at_call 316; refine (sign_32_true _).mono ?_; rintro en w2 ⟨rfl, rfl⟩) | (go_at_call 317; refine (infinity_32_true _).mono ?_; rintro en w2 ⟨rfl, rfl⟩))
          refine bodyPost_ret (v := .int .u64 (2147483648 + (x : Int) * 8388608 + ((q : Int) + 1))) (by simp [results, Tryz.results313, go_sem]) rfl ?_
          exact ⟨u64_eq32 (by omega), rfl⟩
  · have hu : upB q r 549755813888 st = q + 1 := by unfold upB; rw [if_pos (.inr ⟨hd, .inl hs⟩)]
    rw [hu]
    subst hd hs
    by_cases hq1 : q + 1 = 16777216
    · have hqe : q = 16777215 := by omega
      subst hqe
      rw [if_pos hq1]
      by_cases hx : 254 < x + 2
      · rw [if_pos hx]
        have g1 : (127 : Int) < (x : Int) - 126 + 1 := by omega
        go_enter Tryz.func313, Tryz.ntmps313
        cases neg
        · simp only [Bool.false_eq_true, if_false]
          go_wp2_with (first | (go_at_call 314; refine (prec_32 _).mono ?_; rintro en w2 ⟨rfl, rfl⟩) | (go_at_call 315; refine (bias_32 _).mono ?_; rintro en w2 ⟨rfl, rfl⟩) | (go_at_call 312; refine (hlift _).mono ?_; rintro en w2 ⟨rfl, rfl⟩) | (go_at_call 316; refine (sign_32_false _).mono ?_; rintro en w2 ⟨rfl, rfl⟩) | (go_at_call 317; refine (infinity_32_false _).mono ?_; rintro en w2 ⟨rfl, rfl⟩))
          refine bodyPost_ret (v := .int .u64 2139095040) (by simp [results, Tryz.results313, go_sem]) rfl ?_
          exact ⟨u64_eq32 (by omega), rfl⟩
        · simp only [if_true]
          go_wp2_with (first | (go_at_call 314; refine (prec_32 _).mono ?_; rintro en w2 ⟨rfl, rfl⟩) | (go_at_call 315; refine (bias_32 _).mono ?_; rintro en w2 ⟨rfl, rfl⟩) | (go_at_call 312; refine (hlift _).mono ?_; rintro en w2 ⟨rfl, rfl⟩) | (go_at_call 316; refine (sign_32_true _).mono ?_; rintro en w2 ⟨rfl, rfl⟩) | (go_at_call 317; refine (infinity_32_true _).mono ?_; rintro en w2 ⟨rfl, rfl⟩))
          refine bodyPost_ret (v := .int .u64 4286578688) (by simp [results, Tryz.results313, go_sem]) rfl ?_
          exact ⟨u64_eq32 (by omega), rfl⟩
      · rw [if_neg hx]
        have g1 : ¬ (127 : Int) < (x : Int) - 126 + 1 := by omega
        have g2 : decide ((127 : Int) < (x : Int) - 126 + 1) = false := decide_eq_false g1
        go_enter Tryz.func313, Tryz.ntmps313
        cases neg
        · simp only [Bool.false_eq_true, if_false]
          go_wp2_with (first | (go_at_call 314; refine (prec_32 _).mono ?_; rintro en w2 ⟨rfl, rfl⟩) | (go_at_call 315; refine (bias_32 _).mono ?_; rintro en w2 ⟨rfl, rfl⟩) | (go_at_call 312; refine (hlift _).mono ?_; rintro en w2 ⟨rfl, rfl⟩) | (go_at_call 316; refine (sign_32_false _).mono ?_; rintro en w2 ⟨rfl, rfl⟩) | (go_at_call 317; refine (infinity_32_false _).mono ?_; rintro en w2 ⟨rfl, rfl⟩))
          refine bodyPost_ret (v := .int .u64 (((x : Int) + 1) * 8388608 + 8388608)) (by simp [results, Tryz.results313, go_sem]) rfl ?_
          exact ⟨u64_eq32 (by omega), rfl⟩
        · simp only [if_true]
          go_wp2_with (first | (go_at_call 314; refine (prec_32 _).mono ?_; rintro en w2 ⟨rfl, rfl⟩) | (go_at_call 315; refine (bias_32 _).mono ?_; rintro en w2 ⟨rfl, rfl⟩) | (go_at_call 312; refine (hlift _).mono ?_; rintro en w2 ⟨rfl, rfl⟩) | (go_at_call 316; refine (sign_32_true _).mono ?_; rintro en w2 ⟨rfl, rfl⟩) | (go_at_call 317; refine (infinity_32_true _).mono ?_; rintro en w2 ⟨rfl, rfl⟩))
          refine bodyPost_ret (v := .int .u64 (2147483648 + ((x : Int) + 1) * 8388608 + 8388608)) (by simp [results, Tryz.results313, go_sem]) rfl ?_
          exact ⟨u64_eq32 (by omega), rfl⟩
    · have n1 : (((q : Int) + 1) == 16777216) = false := by rw [beq_eq_false_iff_ne]; omega
      rw [if_neg (show ¬ (q + 1) = 16777216 by omega)]
      by_cases hx : 254 < x + 1
      · rw [if_pos hx]
        have g1 : (127 : Int) < (x : Int) - 126 := by omega
        go_enter Tryz.func313, Tryz.ntmps313
        cases neg
        · simp only [Bool.false_eq_true, if_false]
          go_wp2_with (first | (go_at_call 314; refine (prec_32 _).mono ?_; rintro en w2 ⟨rfl, rfl⟩) | (go_at_call 315; refine (bias_32 _).mono ?_; rintro en w2 ⟨rfl, rfl⟩) | (go_at_call 312; refine (hlift _).mono ?_; rintro en w2 ⟨rfl, rfl⟩) | (go_at_call 316; refine (sign_32_false _).mono ?_; rintro en w2 ⟨rfl, rfl⟩) | (go_at_call 317; refine (infinity_32_false _).mono ?_; rintro en w2 ⟨rfl, rfl⟩))
          refine bodyPost_ret (v := .int .u64 2139095040) (by simp [results, Tryz.results313, go_sem]) rfl ?_
          exact ⟨u64_eq32 (by omega), rfl⟩
        · simp only [if_true]
          go_wp2_with (first | (go_at_call 314; refine (prec_32 _).mono ?_; rintro en w2 ⟨rfl, rfl⟩) | (go_at_call 315; refine (bias_32 _).mono ?_; rintro en w2 ⟨rfl, rfl⟩) | (go_at_call 312; refine (hlift _).mono ?_; rintro en w2 ⟨rfl, rfl⟩) | (go_at_call 316; refine (sign_32_true _).mono ?_; rintro en w2 ⟨rfl, rfl⟩) | (go_at_call 317; refine (infinity_32_true _).mono ?_; rintro en w2 ⟨rfl, rfl⟩))
          refine bodyPost_ret (v := .int .u64 4286578688) (by simp [results, Tryz.results313, go_sem]) rfl ?_
          exact ⟨u64_eq32 (by omega), rfl⟩
      · rw [if_neg hx]
        have g1 : ¬ (127 : Int) < (x : Int) - 126 := by omega
        have g2 : decide ((127 : Int) < (x : Int) - 126) = false := decide_eq_false g1
        go_enter Tryz.func313, Tryz.ntmps313
        cases neg
        · simp only [Bool.false_eq_true, if_false]
          go_wp2_with (first | (go_at_call 314; refine (prec_32 _).mono ?_; rintro en w2 ⟨rfl, rfl⟩) | (go_at_call 315; refine (bias_32 _).mono ?_; rintro en w2 ⟨rfl, rfl⟩) | (go_at_call 312; refine (hlift _).mono ?_; rintro en w2 ⟨rfl, rfl⟩) | (go_at_call 316; refine (sign_32_false _).mono ?_; rintro en w2 ⟨rfl, rfl⟩) | (go_at_call 317; refine (infinity_32_false _).mono ?_; rintro en w2 ⟨rfl, rfl⟩))
          refine bodyPost_ret (v := .int .u64 ((x : Int) * 8388608 + ((q : Int) + 1))) (by simp [results, Tryz.results313, go_sem]) rfl ?_
          exact ⟨u64_eq32 (by omega), rfl⟩
        · simp only [if_true]
          go_wp2_with (first | (go_at_call 314; refine (prec_32 _).mono ?_; rintro en w2 ⟨rfl, rfl⟩) | (go_at_call 315; refine (bias_32 _).mono ?_; rintro en w2 ⟨rfl, rfl⟩) | (go_at_call 312; refine (hlift _).mono ?_; rintro en w2 ⟨rfl, rfl⟩) | (go_at_call 316; refine (sign_32_true _).mono ?_; rintro en w2 ⟨rfl, rfl⟩) | (go_at_call 317; refine (infinity_32_true _).mono ?_; rintro en w2 ⟨rfl, rfl⟩))
          refine bodyPost_ret (v := .int .u64 (2147483648 + (x : Int) * 8388608 + ((q : Int) + 1))) (by simp [results, Tryz.results313, go_sem]) rfl ?_
          exact ⟨u64_eq32 (by omega), rfl⟩
  · have hu : upB q r 549755813888 st = q + 1 := by unfold upB; rw [if_pos (.inr ⟨hd, .inr hs2⟩)]
    rw [hu]
    subst hd hs
    have d3 : ((q : Int) % 2 == 1) = true := by rw [beq_iff_eq]; omega
    by_cases hq1 : q + 1 = 16777216
    · have hqe : q = 16777215 := by omega
      subst hqe
      rw [if_pos hq1]
      by_cases hx : 254 < x + 2
      · rw [if_pos hx]
        have g1 : (127 : Int) < (x : Int) - 126 + 1 := by omega
        go_enter Tryz.func313, Tryz.ntmps313
        cases neg
        · simp only [Bool.false_eq_true, if_false]
          go_wp2_with (first | (go_at_call 314; refine (prec_32 _).mono ?_; rintro en w2 ⟨rfl, rfl⟩) | (go_at_call 315; refine (bias_32 _).mono ?_; rintro en w2 ⟨rfl, rfl⟩) | (go_at_call 312; refine (hlift _).mono ?_; rintro en w2 ⟨rfl, rfl⟩) | (go_at_call 316; refine (sign_32_false _).mono ?_; rintro en w2 ⟨rfl, rfl⟩) | (go_at_call 317; refine (infinity_32_false _).mono ?_; rintro en w2 ⟨rfl, rfl⟩))
          refine bodyPost_ret (v := .int .u64 2139095040) (by simp [results, Tryz.results313, go_sem]) rfl ?_
          exact ⟨u64_eq32 (by omega), rfl⟩
        · simp only [if_true]
          go_wp2_with (first | (go_at_call 314; refine (prec_32 _).mono ?_; rintro en w2 ⟨rfl, rfl⟩) | (go_at_call 315; refine (bias_32 _).mono ?_; rintro en w2 ⟨rfl, rfl⟩) | (go_at_call 312; refine (hlift _).mono ?_; rintro en w2 ⟨rfl, rfl⟩) | (go_at_call 316; refine (sign_32_true _).mono ?_; rintro en w2 ⟨rfl, rfl⟩) | (go_at_call 317; refine (infinity_32_true _).mono ?_; rintro en w2 ⟨rfl, rfl⟩))
          refine bodyPost_ret (v := .int .u64 4286578688) (by simp [results, Tryz.results313, go_sem]) rfl ?_
          exact ⟨u64_eq32 (by omega), rfl⟩
      · rw [if_neg hx]
        have g1 : ¬ (127 : Int) < (x : Int) - 126 + 1 := by omega
        have g2 : decide ((127 : Int) < (x : Int) - 126 + 1) = false := decide_eq_false g1
        go_enter Tryz.func313, Tryz.ntmps313
        cases neg
        · simp only [Bool.false_eq_true, if_false]
          go_wp2_with (first | (go_at_call 314; refine (prec_32 _).mono ?_; rintro en w2 ⟨rfl, rfl⟩) | (go_at_call 315; refine (bias_32 _).mono ?_; rintro en w2 ⟨rfl, rfl⟩) | (go_at_call 312; refine (hlift _).mono ?_; rintro en w2 ⟨rfl, rfl⟩) | (go_at_call 316; refine (sign_32_false _).mono ?_; rintro en w2 ⟨rfl, rfl⟩) | (go_at_call 317; refine (infinity_32_false _).mono ?_; rintro en w2 ⟨rfl, rfl⟩))
          refine bodyPost_ret (v := .int .u64 (((x : Int) + 1) * 8388608 + 8388608)) (by simp [results, Tryz.results313, go_sem]) rfl ?_
          exact ⟨u64_eq32 (by omega), rfl⟩
        · simp only [if_true]
          go_wp2_with (first | (go_at_call 314; refine (prec_32 _).mono ?_; rintro en w2 ⟨rfl, rfl⟩) | (go_at_call 315; refine (bias_32 _).mono ?_; rintro en w2 ⟨rfl, rfl⟩) | (go_at_call 312; refine (hlift _).mono ?_; rintro en w2 ⟨rfl, rfl⟩) | (go_at_call 316; refine (sign_32_true _).mono ?_; rintro en w2 ⟨rfl, rfl⟩) | (go_at_call 317; refine (infinity_32_true _).mono ?_; rintro en w2 ⟨rfl, rfl⟩))
          refine bodyPost_ret (v := .int .u64 (2147483648 + ((x : Int) + 1) * 8388608 + 8388608)) (by simp [results, Tryz.results313, go_sem]) rfl ?_
          exact ⟨u64_eq32 (by omega), rfl⟩
    · have n1 : (((q : Int) + 1) == 16777216) = false := by rw [beq_eq_false_iff_ne]; omega
      rw [if_neg (show ¬ (q + 1) = 16777216 by omega)]
      by_cases hx : 254 < x + 1
      · rw [if_pos hx]
        have g1 : (127 : Int) < (x : Int) - 126 := by omega
        go_enter Tryz.func313, Tryz.ntmps313
        cases neg
        · simp only [Bool.false_eq_true, if_false]
          go_wp2_with (first | (go_at_call 314; refine (prec_32 _).mono ?_; rintro en w2 ⟨rfl, rfl⟩) | (go_at_call 315; refine (bias_32 _).mono ?_; rintro en w2 ⟨rfl, rfl⟩) | (go_at_call 312; refine (hlift _).mono ?_; rintro en w2 ⟨rfl, rfl⟩) | (go_at_call 316; refine (sign_32_false _).mono ?_; rintro en w2 ⟨rfl, rfl⟩) | (go_at_call 317; refine (infinity_32_false _).mono ?_; rintro en w2 ⟨rfl, rfl⟩))
          refine bodyPost_ret (v := .int .u64 2139095040) (by simp [results, Tryz.results313, go_sem]) rfl ?_
          exact ⟨u64_eq32 (by omega), rfl⟩
        · simp only [if_true]
          go_wp2_with (first | (go_at_call 314; refine (prec_32 _).mono ?_; rintro en w2 ⟨rfl, rfl⟩) | (go_at_call 315; refine (bias_32 _).mono ?_; rintro en w2 ⟨rfl, rfl⟩) | (go_at_call 312; refine (hlift _).mono ?_; rintro en w2 ⟨rfl, rfl⟩) | (go_at_call 316; refine (sign_32_true _).mono ?_; rintro en w2 ⟨rfl, rfl⟩) | (go_at_call 317; refine (infinity_32_true _).mono ?_; rintro en w2 ⟨rfl, rfl⟩))
          refine bodyPost_ret (v := .int .u64 4286578688) (by simp [results, Tryz.results313, go_sem]) rfl ?_
          exact ⟨u64_eq32 (by omega), rfl⟩
      · rw [if_neg hx]
        have g1 : ¬ (127 : Int) < (x : Int) - 126 := by omega
        have g2 : decide ((127 : Int) < (x : Int) - 126) = false := decide_eq_false g1
        go_enter Tryz.func313, Tryz.ntmps313
        cases neg
        · simp only [Bool.false_eq_true, if_false]
          go_wp2_with (first | (go_at_call 314; refine (prec_32 _).mono ?_; rintro en w2 ⟨rfl, rfl⟩) | (go_at_call 315; refine (bias_32 _).mono ?_; rintro en w2 ⟨rfl, rfl⟩) | (go_at_call 312; refine (hlift _).mono ?_; rintro en w2 ⟨rfl, rfl⟩) | (go_at_call 316; refine (sign_32_false _).mono ?_; rintro en w2 ⟨rfl, rfl⟩) | (go_at_call 317; refine (infinity_32_false _).mono ?_; rintro en w2 ⟨rfl, rfl⟩))
          refine bodyPost_ret (v := .int .u64 ((x : Int) * 8388608 + ((q : Int) + 1))) (by simp [results, Tryz.results313, go_sem]) rfl ?_
          exact ⟨u64_eq32 (by omega), rfl⟩
        · simp only [if_true]
          go_wp2_with (first | (go_at_call 314; refine (prec_32 _).mono ?_; rintro en w2 ⟨rfl, rfl⟩) | (go_at_call 315; refine (bias_32 _).mono ?_; rintro en w2 ⟨rfl, rfl⟩) | (go_at_call 312; refine (hlift _).mono ?_; rintro en w2 ⟨rfl, rfl⟩) | (go_at_call 316; refine (sign_32_true _).mono ?_; rintro en w2 ⟨rfl, rfl⟩) | (go_at_call 317; refine (infinity_32_true _).mono ?_; rintro en w2 ⟨rfl, rfl⟩))
          refine bodyPost_ret (v := .int .u64 (2147483648 + (x : Int) * 8388608 + ((q : Int) + 1))) (by simp [results, Tryz.results313, go_sem]) rfl ?_
          exact ⟨u64_eq32 (by omega), rfl⟩
  · have hu : upB q r 549755813888 st = q := by unfold upB; rw [if_neg (by rw [hs]; simp; omega)]
    rw [hu]
    subst hd hs
    have d3 : ((q : Int) % 2 == 1) = false := by rw [beq_eq_false_iff_ne]; omega
    have n1 : ((q : Int) == 16777216) = false := by rw [beq_eq_false_iff_ne]; omega
    rw [if_neg (show ¬ q = 16777216 by omega)]
    by_cases hx : 254 < x + 1
    · rw [if_pos hx]
      have g1 : (127 : Int) < (x : Int) - 126 := by omega
      go_enter Tryz.func313, Tryz.ntmps313
      cases neg
      · simp only [Bool.false_eq_true, if_false]
        go_wp2_with (first | (go_at_call 314; refine (prec_32 _).mono ?_; rintro en w2 ⟨rfl, rfl⟩) | (go_at_call 315; refine (bias_32 _).mono ?_; rintro en w2 ⟨rfl, rfl⟩) | (go_at_call 312; refine (hlift _).mono ?_; rintro en w2 ⟨rfl, rfl⟩) | (go_at_call 316; refine (sign_32_false _).mono ?_; rintro en w2 ⟨rfl, rfl⟩) | (go_at_call 317; refine (infinity_32_false _).mono ?_; rintro en w2 ⟨rfl, rfl⟩))
        refine bodyPost_ret (v := .int .u64 2139095040) (by simp [results, Tryz.results313, go_sem]) rfl ?_
        exact ⟨u64_eq32 (by omega), rfl⟩
      · simp only [if_true]
        go_wp2_with (first | (go_at_call 314; refine (prec_32 _).mono ?_; rintro en w2 ⟨rfl, rfl⟩) | (go_at_call 315; refine (bias_32 _).mono ?_; rintro en w2 ⟨rfl, rfl⟩) | (go_at_call 312; refine (hlift _).mono ?_; rintro en w2 ⟨rfl, rfl⟩) | (go_at_call 316; refine (sign_32_true _).mono ?_; rintro en w2 ⟨rfl, rfl⟩) | (go_at_call 317; refine (infinity_32_true _).mono ?_; rintro en w2 ⟨rfl, rfl⟩))
        refine bodyPost_ret (v := .int .u64 4286578688) (by simp [results, Tryz.results313, go_sem]) rfl ?_
        exact ⟨u64_eq32 (by omega), rfl⟩
    · rw [if_neg hx]
      have g1 : ¬ (127 : Int) < (x : Int) - 126 := by omega
      have g2 : decide ((127 : Int) < (x : Int) - 126) = false := decide_eq_false g1
      go_enter Tryz.func313, Tryz.ntmps313
      cases neg
      · simp only [Bool.false_eq_true, if_false]
        go_wp2_with (first | (go_at_call 314; refine (prec_32 _).mono ?_; rintro en w2 ⟨rfl, rfl⟩) | (go_at_call 315; refine (bias_32 _).mono ?_; rintro en w2 ⟨rfl, rfl⟩) | (go_at_call 312; refine (hlift _).mono ?_; rintro en w2 ⟨rfl, rfl⟩) | (go_at_call 316; refine (sign_32_false _).mono ?_; rintro en w2 ⟨rfl, rfl⟩) | (go_at_call 317; refine (infinity_32_false _).mono ?_; rintro en w2 ⟨rfl, rfl⟩))
        refine bodyPost_ret (v := .int .u64 ((x : Int) * 8388608 + (q : Int))) (by simp [results, Tryz.results313, go_sem]) rfl ?_
        exact ⟨u64_eq32 (by omega), rfl⟩
      · simp only [if_true]
        go_wp2_with (first | (go_at_call 314; refine (prec_32 _).mono ?_; rintro en w2 ⟨rfl, rfl⟩) | (go_at_call 315; refine (bias_32 _).mono ?_; rintro en w2 ⟨rfl, rfl⟩) | (go_at_call 312; refine (hlift _).mono ?_; rintro en w2 ⟨rfl, rfl⟩) | (go_at_call 316; refine (sign_32_true _).mono ?_; rintro en w2 ⟨rfl, rfl⟩) | (go_at_call 317; refine (infinity_32_true _).mono ?_; rintro en w2 ⟨rfl, rfl⟩))
        refine bodyPost_ret (v := .int .u64 (2147483648 + (x : Int) * 8388608 + (q : Int))) (by simp [results, Tryz.results313, go_sem]) rfl ?_
        exact ⟨u64_eq32 (by omega), rfl⟩
  · have hu : upB q r 549755813888 st = q := by unfold upB; rw [if_neg (by omega)]
    rw [hu]
    have d1 : ¬ (549755813888 : Int) < (r : Int) := by omega
    have d1b : decide ((549755813888 : Int) < (r : Int)) = false := decide_eq_false d1
    have d2 : ((r : Int) == (549755813888 : Int)) = false := by rw [beq_eq_false_iff_ne]; omega
    have n1 : ((q : Int) == 16777216) = false := by rw [beq_eq_false_iff_ne]; omega
    rw [if_neg (show ¬ q = 16777216 by omega)]
    by_cases hx : 254 < x + 1
    · rw [if_pos hx]
      have g1 : (127 : Int) < (x : Int) - 126 := by omega
      go_enter Tryz.func313, Tryz.ntmps313
      cases neg
      · simp only [Bool.false_eq_true, if_false]
        go_wp2_with (first | (go_at_call 314; refine (prec_32 _).mono ?_; rintro en w2 ⟨rfl, rfl⟩) | (go_at_call 315; refine (bias_32 _).mono ?_; rintro en w2 ⟨rfl, rfl⟩) | (go_at_call 312; refine (hlift _).mono ?_; rintro en w2 ⟨rfl, rfl⟩) | (go_at_call 316; refine (sign_32_false _).mono ?_; rintro en w2 ⟨rfl, rfl⟩) | (go_at_call 317; refine (infinity_32_false _).mono ?_; rintro en w2 ⟨rfl, rfl⟩))
        refine bodyPost_ret (v := .int .u64 2139095040) (by simp [results, Tryz.results313, go_sem]) rfl ?_
        exact ⟨u64_eq32 (by omega), rfl⟩
      · simp only [if_true]
        go_wp2_with (first | (go_at_call 314; refine (prec_32 _).mono ?_; rintro en w2 ⟨rfl, rfl⟩) | (go_at_call 315; refine (bias_32 _).mono ?_; rintro en w2 ⟨rfl, rfl⟩) | (go_at_call 312; refine (hlift _).mono ?_; rintro en w2 ⟨rfl, rfl⟩) | (go_at_call 316; refine (sign_32_true _).mono ?_; rintro en w2 ⟨rfl, rfl⟩) | (go_at_call 317; refine (infinity_32_true _).mono ?_; rintro en w2 ⟨rfl, rfl⟩))
        refine bodyPost_ret (v := .int .u64 4286578688) (by simp [results, Tryz.results313, go_sem]) rfl ?_
        exact ⟨u64_eq32 (by omega), rfl⟩
    · rw [if_neg hx]
      have g1 : ¬ (127 : Int) < (x : Int) - 126 := by omega
      have g2 : decide ((127 : Int) < (x : Int) - 126) = false := decide_eq_false g1
      go_enter Tryz.func313, Tryz.ntmps313
      cases neg
      · simp only [Bool.false_eq_true, if_false]
        go_wp2_with (first | (go_at_call 314; refine (prec_32 _).mono ?_; rintro en w2 ⟨rfl, rfl⟩) | (go_at_call 315; refine (bias_32 _).mono ?_; rintro en w2 ⟨rfl, rfl⟩) | (go_at_call 312; refine (hlift _).mono ?_; rintro en w2 ⟨rfl, rfl⟩) | (go_at_call 316; refine (sign_32_false _).mono ?_; rintro en w2 ⟨rfl, rfl⟩) | (go_at_call 317; refine (infinity_32_false _).mono ?_; rintro en w2 ⟨rfl, rfl⟩))
        refine bodyPost_ret (v := .int .u64 ((x : Int) * 8388608 + (q : Int))) (by simp [results, Tryz.results313, go_sem]) rfl ?_
        exact ⟨u64_eq32 (by omega), rfl⟩
      · simp only [if_true]
        go_wp2_with (first | (go_at_call 314; refine (prec_32 _).mono ?_; rintro en w2 ⟨rfl, rfl⟩) | (go_at_call 315; refine (bias_32 _).mono ?_; rintro en w2 ⟨rfl, rfl⟩) | (go_at_call 312; refine (hlift _).mono ?_; rintro en w2 ⟨rfl, rfl⟩) | (go_at_call 316; refine (sign_32_true _).mono ?_; rintro en w2 ⟨rfl, rfl⟩) | (go_at_call 317; refine (infinity_32_true _).mono ?_; rintro en w2 ⟨rfl, rfl⟩))
        refine bodyPost_ret (v := .int .u64 (2147483648 + (x : Int) * 8388608 + (q : Int))) (by simp [results, Tryz.results313, go_sem]) rfl ?_
        exact ⟨u64_eq32 (by omega), rfl⟩
end Go.Proofs.Qxb6500275aGreatDoor
