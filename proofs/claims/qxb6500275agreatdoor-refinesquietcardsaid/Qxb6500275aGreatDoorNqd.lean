import Derived.Test.Qxb6500275aGreatDoorNqc
set_option maxRecDepth 100000
set_option linter.unusedVariables false
set_option linter.unusedSimpArgs false
namespace Go.Proofs.Qxb6500275aGreatDoor
open Go Go.RowKit
/- a whole number as an integer of width n: the word, and 40 where it does not fit -/
def fitS (n : Nat) (sg neg : Bool) (m : Nat) : Nat × Nat :=
  if sg = true then (if neg = true then (if 2 ^ (n - 1) < m then (0, 40) else ((2 ^ n - m) % 2 ^ n, 0)) else if 2 ^ (n - 1) ≤ m then (0, 40) else (m, 0))
  else if neg = true then (if m = 0 then (0, 0) else (0, 40)) else if 2 ^ n - 1 < m then (0, 40) else (m, 0)
def fitV (x : Nat × Nat) : Value := .tuple #[.int .u64 (x.1 : Int), .int .i64 (x.2 : Int)]
set_option maxHeartbeats 2000000 in
theorem fit_32 (sg neg : Bool) (m : Nat) (hm : m < 18446744073709551616) (w : World) : Calls Tryz.prog 319 #[.int .i64 32, .bool sg, .bool neg, .int .u64 m] w (Pq w (fitV (fitS 32 sg neg m))) := by
  unfold fitS fitV
  rw [show (2 : Nat) ^ (32 - 1) = 2147483648 by decide, show (2 : Nat) ^ 32 = 4294967296 by decide, show (4294967296 : Nat) - 1 = 4294967295 by decide]
  cases sg
  · rw [if_neg (by simp)]
    cases neg
    · rw [if_neg (by simp)]
      by_cases h : 4294967295 < m
      · rw [if_pos h]
        have g : (4294967295 : Int) < (m : Int) := by omega
        go_enter Tryz.func319, Tryz.ntmps319
        go_wp2_with (first | (go_at_call 294; refine (mask_32 _).mono ?_; rintro en w2 ⟨rfl, rfl⟩))
        refine bodyPost_ret (v := .tuple #[.int .u64 0, .int .i64 40]) (by simp [results, Tryz.results319, go_sem]) rfl ?_
        exact ⟨rfl, rfl⟩
      · rw [if_neg h]
        have g : ¬ (4294967295 : Int) < (m : Int) := by omega
        have g2 : decide ((4294967295 : Int) < (m : Int)) = false := decide_eq_false g
        go_enter Tryz.func319, Tryz.ntmps319
        go_wp2_with (first | (go_at_call 294; refine (mask_32 _).mono ?_; rintro en w2 ⟨rfl, rfl⟩))
        refine bodyPost_ret (v := .tuple #[.int .u64 (m : Int), .int .i64 0]) (by simp [results, Tryz.results319, go_sem]) rfl ?_
        exact ⟨rfl, rfl⟩
    · rw [if_pos rfl]
      by_cases h : m = 0
      · rw [if_pos h]
        subst h
        go_enter Tryz.func319, Tryz.ntmps319
        go_wp2
        refine bodyPost_ret (v := .tuple #[.int .u64 0, .int .i64 0]) (by simp [results, Tryz.results319, go_sem]) rfl ?_
        exact ⟨rfl, rfl⟩
      · rw [if_neg h]
        have g0 : ((m : Int) == 0) = false := by rw [beq_eq_false_iff_ne]; omega
        have g1 : ((m : Int) != 0) = true := by rw [bne_iff_ne]; omega
        have g2 : (!((m : Int) == 0)) = true := by rw [g0]; rfl
        go_enter Tryz.func319, Tryz.ntmps319
        go_wp2
        refine bodyPost_ret (v := .tuple #[.int .u64 0, .int .i64 40]) (by simp [results, Tryz.results319, go_sem]) rfl ?_
        exact ⟨rfl, rfl⟩
  · rw [if_pos rfl]
    cases neg
    · rw [if_neg (by simp)]
      by_cases h : 2147483648 ≤ m
      · rw [if_pos h]
        have g : (2147483648 : Int) ≤ (m : Int) := by omega
        go_enter Tryz.func319, Tryz.ntmps319
        go_wp2_with (first | (go_at_call 293; refine (top_32 _).mono ?_; rintro en w2 ⟨rfl, rfl⟩))
        refine bodyPost_ret (v := .tuple #[.int .u64 0, .int .i64 40]) (by simp [results, Tryz.results319, go_sem]) rfl ?_
        exact ⟨rfl, rfl⟩
      · rw [if_neg h]
        have g : ¬ (2147483648 : Int) ≤ (m : Int) := by omega
        have g2 : decide ((2147483648 : Int) ≤ (m : Int)) = false := decide_eq_false g
        go_enter Tryz.func319, Tryz.ntmps319
        go_wp2_with (first | (go_at_call 293; refine (top_32 _).mono ?_; rintro en w2 ⟨rfl, rfl⟩))
        refine bodyPost_ret (v := .tuple #[.int .u64 (m : Int), .int .i64 0]) (by simp [results, Tryz.results319, go_sem]) rfl ?_
        exact ⟨rfl, rfl⟩
    · rw [if_pos rfl]
      by_cases h : 2147483648 < m
      · rw [if_pos h]
        have g : (2147483648 : Int) < (m : Int) := by omega
        go_enter Tryz.func319, Tryz.ntmps319
        go_wp2_with (first | (go_at_call 293; refine (top_32 _).mono ?_; rintro en w2 ⟨rfl, rfl⟩))
        refine bodyPost_ret (v := .tuple #[.int .u64 0, .int .i64 40]) (by simp [results, Tryz.results319, go_sem]) rfl ?_
        exact ⟨rfl, rfl⟩
      · rw [if_neg h]
        have g : ¬ (2147483648 : Int) < (m : Int) := by omega
        have g2 : decide ((2147483648 : Int) < (m : Int)) = false := decide_eq_false g
        have hmi := fun w => minus_32 m (by omega) w
        generalize (4294967296 - m) % 4294967296 = X at hmi ⊢
        go_enter Tryz.func319, Tryz.ntmps319
        go_wp2_with (first | (go_at_call 293; refine (top_32 _).mono ?_; rintro en w2 ⟨rfl, rfl⟩) | (go_at_call 298; refine (hmi _).mono ?_; rintro en w2 ⟨rfl, rfl⟩))
        refine bodyPost_ret (v := .tuple #[.int .u64 (X : Int), .int .i64 0]) (by simp [results, Tryz.results319, go_sem]) rfl ?_
        exact ⟨rfl, rfl⟩
set_option maxHeartbeats 2000000 in
theorem fit_64 (sg neg : Bool) (m : Nat) (hm : m < 18446744073709551616) (w : World) : Calls Tryz.prog 319 #[.int .i64 64, .bool sg, .bool neg, .int .u64 m] w (Pq w (fitV (fitS 64 sg neg m))) := by
  unfold fitS fitV
  rw [show (2 : Nat) ^ (64 - 1) = 9223372036854775808 by decide, show (2 : Nat) ^ 64 = 18446744073709551616 by decide, show (18446744073709551616 : Nat) - 1 = 18446744073709551615 by decide]
  cases sg
  · rw [if_neg (by simp)]
    cases neg
    · rw [if_neg (by simp)]
      by_cases h : 18446744073709551615 < m
      · rw [if_pos h]
        have g : (18446744073709551615 : Int) < (m : Int) := by omega
        go_enter Tryz.func319, Tryz.ntmps319
        go_wp2_with (first | (go_at_call 294; refine (mask_64 _).mono ?_; rintro en w2 ⟨rfl, rfl⟩))
        refine bodyPost_ret (v := .tuple #[.int .u64 0, .int .i64 40]) (by simp [results, Tryz.results319, go_sem]) rfl ?_
        exact ⟨rfl, rfl⟩
      · rw [if_neg h]
        have g : ¬ (18446744073709551615 : Int) < (m : Int) := by omega
        have g2 : decide ((18446744073709551615 : Int) < (m : Int)) = false := decide_eq_false g
        go_enter Tryz.func319, Tryz.ntmps319
        go_wp2_with (first | (go_at_call 294; refine (mask_64 _).mono ?_; rintro en w2 ⟨rfl, rfl⟩))
        refine bodyPost_ret (v := .tuple #[.int .u64 (m : Int), .int .i64 0]) (by simp [results, Tryz.results319, go_sem]) rfl ?_
        exact ⟨rfl, rfl⟩
    · rw [if_pos rfl]
      by_cases h : m = 0
      · rw [if_pos h]
        subst h
        go_enter Tryz.func319, Tryz.ntmps319
        go_wp2
        refine bodyPost_ret (v := .tuple #[.int .u64 0, .int .i64 0]) (by simp [results, Tryz.results319, go_sem]) rfl ?_
        exact ⟨rfl, rfl⟩
      · rw [if_neg h]
        have g0 : ((m : Int) == 0) = false := by rw [beq_eq_false_iff_ne]; omega
        have g1 : ((m : Int) != 0) = true := by rw [bne_iff_ne]; omega
        have g2 : (!((m : Int) == 0)) = true := by rw [g0]; rfl
        go_enter Tryz.func319, Tryz.ntmps319
        go_wp2
        refine bodyPost_ret (v := .tuple #[.int .u64 0, .int .i64 40]) (by simp [results, Tryz.results319, go_sem]) rfl ?_
        exact ⟨rfl, rfl⟩
  · rw [if_pos rfl]
    cases neg
    · rw [if_neg (by simp)]
      by_cases h : 9223372036854775808 ≤ m
      · rw [if_pos h]
        have g : (9223372036854775808 : Int) ≤ (m : Int) := by omega
        go_enter Tryz.func319, Tryz.ntmps319
        go_wp2_with (first | (go_at_call 293; refine (top_64 _).mono ?_; rintro en w2 ⟨rfl, rfl⟩))
        refine bodyPost_ret (v := .tuple #[.int .u64 0, .int .i64 40]) (by simp [results, Tryz.results319, go_sem]) rfl ?_
        exact ⟨rfl, rfl⟩
      · rw [if_neg h]
        have g : ¬ (9223372036854775808 : Int) ≤ (m : Int) := by omega
        have g2 : decide ((9223372036854775808 : Int) ≤ (m : Int)) = false := decide_eq_false g
        go_enter Tryz.func319, Tryz.ntmps319
        go_wp2_with (first | (go_at_call 293; refine (top_64 _).mono ?_; rintro en w2 ⟨rfl, rfl⟩))
        refine bodyPost_ret (v := .tuple #[.int .u64 (m : Int), .int .i64 0]) (by simp [results, Tryz.results319, go_sem]) rfl ?_
        exact ⟨rfl, rfl⟩
    · rw [if_pos rfl]
      by_cases h : 9223372036854775808 < m
      · rw [if_pos h]
        have g : (9223372036854775808 : Int) < (m : Int) := by omega
        go_enter Tryz.func319, Tryz.ntmps319
        go_wp2_with (first | (go_at_call 293; refine (top_64 _).mono ?_; rintro en w2 ⟨rfl, rfl⟩))
        refine bodyPost_ret (v := .tuple #[.int .u64 0, .int .i64 40]) (by simp [results, Tryz.results319, go_sem]) rfl ?_
        exact ⟨rfl, rfl⟩
      · rw [if_neg h]
        have g : ¬ (9223372036854775808 : Int) < (m : Int) := by omega
        have g2 : decide ((9223372036854775808 : Int) < (m : Int)) = false := decide_eq_false g
        have hmi := fun w => minus_64 m (by omega) w
        generalize (18446744073709551616 - m) % 18446744073709551616 = X at hmi ⊢
        go_enter Tryz.func319, Tryz.ntmps319
        go_wp2_with (first | (go_at_call 293; refine (top_64 _).mono ?_; rintro en w2 ⟨rfl, rfl⟩) | (go_at_call 298; refine (hmi _).mono ?_; rintro en w2 ⟨rfl, rfl⟩))
        refine bodyPost_ret (v := .tuple #[.int .u64 (X : Int), .int .i64 0]) (by simp [results, Tryz.results319, go_sem]) rfl ?_
        exact ⟨rfl, rfl⟩
end Go.Proofs.Qxb6500275aGreatDoor
