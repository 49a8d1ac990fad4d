import Derived.Test.Qxb6500275aGreatDoorNqa
set_option maxRecDepth 100000
set_option linter.unusedVariables false
set_option linter.unusedSimpArgs false
namespace Go.Proofs.Qxb6500275aGreatDoor
open Go Go.RowKit
/- an integer as a float: one rounding -/
def softFrom (F : Ieee.Format) (bi n : Nat) (signed : Bool) (a : Nat) : Nat := if a = 0 then 0 else if signed = true ∧ 2 ^ (n - 1) ≤ a then softRound F bi true (2 ^ n - a) 0 false else softRound F bi false a 0 false
set_option maxHeartbeats 2000000 in
theorem fromInt_32_32_true (a : Nat) (ha : a < 4294967296) (w : World) : Calls Tryz.prog 307 #[.int .i64 32, .int .i64 32, .bool true, .int .u64 a] w (Pq w (.int .u64 ((softFrom Ieee.single 127 32 true a : Nat) : Int))) := by
  unfold softFrom
  by_cases h0 : a = 0
  · subst h0
    rw [if_pos rfl]
    go_enter Tryz.func307, Tryz.ntmps307
    go_wp2
    refine bodyPost_ret (v := .int .u64 0) (by simp [results, Tryz.results307, go_sem]) rfl ?_
    exact ⟨rfl, rfl⟩
  · rw [if_neg h0]
    have z0 : ((a : Int) == 0) = false := by rw [beq_eq_false_iff_ne]; omega
    by_cases hb : 2147483648 ≤ a
    · rw [if_pos ⟨rfl, by simpa using hb⟩, show (2 : Nat) ^ 32 - a = 4294967296 - a by simp]
      have g : (2147483648 : Int) ≤ (a : Int) := by omega
      have hmi := fun w => minus_32 a ha w
      rw [show (4294967296 - a) % 4294967296 = 4294967296 - a by omega] at hmi
      have hro := fun w => round_32 true false (4294967296 - a) 0 (by omega) (by omega) (by omega) w
      generalize softRound Ieee.single 127 true (4294967296 - a) 0 false = R at hro ⊢
      have hX : (4294967296 - a) < 18446744073709551616 := by omega
      generalize (4294967296 - a) = X at *
      go_enter Tryz.func307, Tryz.ntmps307
      go_wp2_with (first | (go_at_call 293; refine (top_32 _).mono ?_; rintro en w2 ⟨rfl, rfl⟩) | (go_at_call 298; refine (hmi _).mono ?_; rintro en w2 ⟨rfl, rfl⟩) | (go_at_call 313; refine (hro _).mono ?_; rintro en w2 ⟨rfl, rfl⟩))
      refine bodyPost_ret (v := .int .u64 (R : Int)) (by simp [results, Tryz.results307, go_sem]) rfl ?_
      exact ⟨rfl, rfl⟩
    · rw [if_neg (fun e => hb (by simpa using e.2))]
      have g : ¬ (2147483648 : Int) ≤ (a : Int) := by omega
      have g2 : decide ((2147483648 : Int) ≤ (a : Int)) = false := decide_eq_false g
      have hmi := fun w => minus_32 a ha w
      have hro := fun w => round_32 false false a 0 h0 (by omega) (by omega) w
      generalize softRound Ieee.single 127 false a 0 false = R at hro ⊢
      clear hmi
      go_enter Tryz.func307, Tryz.ntmps307
      go_wp2_with (first | (go_at_call 293; refine (top_32 _).mono ?_; rintro en w2 ⟨rfl, rfl⟩) | (go_at_call 313; refine (hro _).mono ?_; rintro en w2 ⟨rfl, rfl⟩))
      refine bodyPost_ret (v := .int .u64 (R : Int)) (by simp [results, Tryz.results307, go_sem]) rfl ?_
      exact ⟨rfl, rfl⟩
set_option maxHeartbeats 2000000 in
theorem fromInt_32_32_false (a : Nat) (ha : a < 4294967296) (w : World) : Calls Tryz.prog 307 #[.int .i64 32, .int .i64 32, .bool false, .int .u64 a] w (Pq w (.int .u64 ((softFrom Ieee.single 127 32 false a : Nat) : Int))) := by
  unfold softFrom
  by_cases h0 : a = 0
  · subst h0
    rw [if_pos rfl]
    go_enter Tryz.func307, Tryz.ntmps307
    go_wp2
    refine bodyPost_ret (v := .int .u64 0) (by simp [results, Tryz.results307, go_sem]) rfl ?_
    exact ⟨rfl, rfl⟩
  · rw [if_neg h0]
    have z0 : ((a : Int) == 0) = false := by rw [beq_eq_false_iff_ne]; omega
    rw [if_neg (by simp)]
    have hro := fun w => round_32 false false a 0 h0 (by omega) (by omega) w
    generalize softRound Ieee.single 127 false a 0 false = R at hro ⊢
    go_enter Tryz.func307, Tryz.ntmps307
    go_wp2_with (first | (go_at_call 313; refine (hro _).mono ?_; rintro en w2 ⟨rfl, rfl⟩))
    refine bodyPost_ret (v := .int .u64 (R : Int)) (by simp [results, Tryz.results307, go_sem]) rfl ?_
    exact ⟨rfl, rfl⟩
set_option maxHeartbeats 2000000 in
theorem fromInt_32_64_true (a : Nat) (ha : a < 18446744073709551616) (w : World) : Calls Tryz.prog 307 #[.int .i64 32, .int .i64 64, .bool true, .int .u64 a] w (Pq w (.int .u64 ((softFrom Ieee.single 127 64 true a : Nat) : Int))) := by
  unfold softFrom
  by_cases h0 : a = 0
  · subst h0
    rw [if_pos rfl]
    go_enter Tryz.func307, Tryz.ntmps307
    go_wp2
    refine bodyPost_ret (v := .int .u64 0) (by simp [results, Tryz.results307, go_sem]) rfl ?_
    exact ⟨rfl, rfl⟩
  · rw [if_neg h0]
    have z0 : ((a : Int) == 0) = false := by rw [beq_eq_false_iff_ne]; omega
    by_cases hb : 9223372036854775808 ≤ a
    · rw [if_pos ⟨rfl, by simpa using hb⟩, show (2 : Nat) ^ 64 - a = 18446744073709551616 - a by simp]
      have g : (9223372036854775808 : Int) ≤ (a : Int) := by omega
      have hmi := fun w => minus_64 a ha w
      rw [show (18446744073709551616 - a) % 18446744073709551616 = 18446744073709551616 - a by omega] at hmi
      have hro := fun w => round_32 true false (18446744073709551616 - a) 0 (by omega) (by omega) (by omega) w
      generalize softRound Ieee.single 127 true (18446744073709551616 - a) 0 false = R at hro ⊢
      have hX : (18446744073709551616 - a) < 18446744073709551616 := by omega
      generalize (18446744073709551616 - a) = X at *
      go_enter Tryz.func307, Tryz.ntmps307
      go_wp2_with (first | (go_at_call 293; refine (top_64 _).mono ?_; rintro en w2 ⟨rfl, rfl⟩) | (go_at_call 298; refine (hmi _).mono ?_; rintro en w2 ⟨rfl, rfl⟩) | (go_at_call 313; refine (hro _).mono ?_; rintro en w2 ⟨rfl, rfl⟩))
      refine bodyPost_ret (v := .int .u64 (R : Int)) (by simp [results, Tryz.results307, go_sem]) rfl ?_
      exact ⟨rfl, rfl⟩
    · rw [if_neg (fun e => hb (by simpa using e.2))]
      have g : ¬ (9223372036854775808 : Int) ≤ (a : Int) := by omega
      have g2 : decide ((9223372036854775808 : Int) ≤ (a : Int)) = false := decide_eq_false g
      have hmi := fun w => minus_64 a ha w
      have hro := fun w => round_32 false false a 0 h0 (by omega) (by omega) w
      generalize softRound Ieee.single 127 false a 0 false = R at hro ⊢
      clear hmi
      go_enter Tryz.func307, Tryz.ntmps307
      go_wp2_with (first | (go_at_call 293; refine (top_64 _).mono ?_; rintro en w2 ⟨rfl, rfl⟩) | (go_at_call 313; refine (hro _).mono ?_; rintro en w2 ⟨rfl, rfl⟩))
      refine bodyPost_ret (v := .int .u64 (R : Int)) (by simp [results, Tryz.results307, go_sem]) rfl ?_
      exact ⟨rfl, rfl⟩
set_option maxHeartbeats 2000000 in
theorem fromInt_32_64_false (a : Nat) (ha : a < 18446744073709551616) (w : World) : Calls Tryz.prog 307 #[.int .i64 32, .int .i64 64, .bool false, .int .u64 a] w (Pq w (.int .u64 ((softFrom Ieee.single 127 64 false a : Nat) : Int))) := by
  unfold softFrom
  by_cases h0 : a = 0
  · subst h0
    rw [if_pos rfl]
    go_enter Tryz.func307, Tryz.ntmps307
    go_wp2
    refine bodyPost_ret (v := .int .u64 0) (by simp [results, Tryz.results307, go_sem]) rfl ?_
    exact ⟨rfl, rfl⟩
  · rw [if_neg h0]
    have z0 : ((a : Int) == 0) = false := by rw [beq_eq_false_iff_ne]; omega
    rw [if_neg (by simp)]
    have hro := fun w => round_32 false false a 0 h0 (by omega) (by omega) w
    generalize softRound Ieee.single 127 false a 0 false = R at hro ⊢
    go_enter Tryz.func307, Tryz.ntmps307
    go_wp2_with (first | (go_at_call 313; refine (hro _).mono ?_; rintro en w2 ⟨rfl, rfl⟩))
    refine bodyPost_ret (v := .int .u64 (R : Int)) (by simp [results, Tryz.results307, go_sem]) rfl ?_
    exact ⟨rfl, rfl⟩
set_option maxHeartbeats 2000000 in
theorem fromInt_64_32_true (a : Nat) (ha : a < 4294967296) (w : World) : Calls Tryz.prog 307 #[.int .i64 64, .int .i64 32, .bool true, .int .u64 a] w (Pq w (.int .u64 ((softFrom Ieee.double 1023 32 true a : Nat) : Int))) := by
  unfold softFrom
  by_cases h0 : a = 0
  · subst h0
    rw [if_pos rfl]
    go_enter Tryz.func307, Tryz.ntmps307
    go_wp2
    refine bodyPost_ret (v := .int .u64 0) (by simp [results, Tryz.results307, go_sem]) rfl ?_
    exact ⟨rfl, rfl⟩
  · rw [if_neg h0]
    have z0 : ((a : Int) == 0) = false := by rw [beq_eq_false_iff_ne]; omega
    by_cases hb : 2147483648 ≤ a
    · rw [if_pos ⟨rfl, by simpa using hb⟩, show (2 : Nat) ^ 32 - a = 4294967296 - a by simp]
      have g : (2147483648 : Int) ≤ (a : Int) := by omega
      have hmi := fun w => minus_32 a ha w
      rw [show (4294967296 - a) % 4294967296 = 4294967296 - a by omega] at hmi
      have hro := fun w => round_64 true false (4294967296 - a) 0 (by omega) (by omega) (by omega) w
      generalize softRound Ieee.double 1023 true (4294967296 - a) 0 false = R at hro ⊢
      have hX : (4294967296 - a) < 18446744073709551616 := by omega
      generalize (4294967296 - a) = X at *
      go_enter Tryz.func307, Tryz.ntmps307
      go_wp2_with (first | (go_at_call 293; refine (top_32 _).mono ?_; rintro en w2 ⟨rfl, rfl⟩) | (go_at_call 298; refine (hmi _).mono ?_; rintro en w2 ⟨rfl, rfl⟩) | (go_at_call 313; refine (hro _).mono ?_; rintro en w2 ⟨rfl, rfl⟩))
      refine bodyPost_ret (v := .int .u64 (R : Int)) (by simp [results, Tryz.results307, go_sem]) rfl ?_
      exact ⟨rfl, rfl⟩
    · rw [if_neg (fun e => hb (by simpa using e.2))]
      have g : ¬ (2147483648 : Int) ≤ (a : Int) := by omega
      have g2 : decide ((2147483648 : Int) ≤ (a : Int)) = false := decide_eq_false g
      have hmi := fun w => minus_32 a ha w
      have hro := fun w => round_64 false false a 0 h0 (by omega) (by omega) w
      generalize softRound Ieee.double 1023 false a 0 false = R at hro ⊢
      clear hmi
      go_enter Tryz.func307, Tryz.ntmps307
      go_wp2_with (first | (go_at_call 293; refine (top_32 _).mono ?_; rintro en w2 ⟨rfl, rfl⟩) | (go_at_call 313; refine (hro _).mono ?_; rintro en w2 ⟨rfl, rfl⟩))
      refine bodyPost_ret (v := .int .u64 (R : Int)) (by simp [results, Tryz.results307, go_sem]) rfl ?_
      exact ⟨rfl, rfl⟩
set_option maxHeartbeats 2000000 in
theorem fromInt_64_32_false (a : Nat) (ha : a < 4294967296) (w : World) : Calls Tryz.prog 307 #[.int .i64 64, .int .i64 32, .bool false, .int .u64 a] w (Pq w (.int .u64 ((softFrom Ieee.double 1023 32 false a : Nat) : Int))) := by
  unfold softFrom
  by_cases h0 : a = 0
  · subst h0
    rw [if_pos rfl]
    go_enter Tryz.func307, Tryz.ntmps307
    go_wp2
    refine bodyPost_ret (v := .int .u64 0) (by simp [results, Tryz.results307, go_sem]) rfl ?_
    exact ⟨rfl, rfl⟩
  · rw [if_neg h0]
    have z0 : ((a : Int) == 0) = false := by rw [beq_eq_false_iff_ne]; omega
    rw [if_neg (by simp)]
    have hro := fun w => round_64 false false a 0 h0 (by omega) (by omega) w
    generalize softRound Ieee.double 1023 false a 0 false = R at hro ⊢
    go_enter Tryz.func307, Tryz.ntmps307
    go_wp2_with (first | (go_at_call 313; refine (hro _).mono ?_; rintro en w2 ⟨rfl, rfl⟩))
    refine bodyPost_ret (v := .int .u64 (R : Int)) (by simp [results, Tryz.results307, go_sem]) rfl ?_
    exact ⟨rfl, rfl⟩
set_option maxHeartbeats 2000000 in
theorem fromInt_64_64_true (a : Nat) (ha : a < 18446744073709551616) (w : World) : Calls Tryz.prog 307 #[.int .i64 64, .int .i64 64, .bool true, .int .u64 a] w (Pq w (.int .u64 ((softFrom Ieee.double 1023 64 true a : Nat) : Int))) := by
  unfold softFrom
  by_cases h0 : a = 0
  · subst h0
    rw [if_pos rfl]
    go_enter Tryz.func307, Tryz.ntmps307
    go_wp2
    refine bodyPost_ret (v := .int .u64 0) (by simp [results, Tryz.results307, go_sem]) rfl ?_
    exact ⟨rfl, rfl⟩
  · rw [if_neg h0]
    have z0 : ((a : Int) == 0) = false := by rw [beq_eq_false_iff_ne]; omega
    by_cases hb : 9223372036854775808 ≤ a
    · rw [if_pos ⟨rfl, by simpa using hb⟩, show (2 : Nat) ^ 64 - a = 18446744073709551616 - a by simp]
      have g : (9223372036854775808 : Int) ≤ (a : Int) := by omega
      have hmi := fun w => minus_64 a ha w
      rw [show (18446744073709551616 - a) % 18446744073709551616 = 18446744073709551616 - a by omega] at hmi
      have hro := fun w => round_64 true false (18446744073709551616 - a) 0 (by omega) (by omega) (by omega) w
      generalize softRound Ieee.double 1023 true (18446744073709551616 - a) 0 false = R at hro ⊢
      have hX : (18446744073709551616 - a) < 18446744073709551616 := by omega
      generalize (18446744073709551616 - a) = X at *
      go_enter Tryz.func307, Tryz.ntmps307
      go_wp2_with (first | (go_at_call 293; refine (top_64 _).mono ?_; rintro en w2 ⟨rfl, rfl⟩) | (go_at_call 298; refine (hmi _).mono ?_; rintro en w2 ⟨rfl, rfl⟩) | (go_at_call 313; refine (hro _).mono ?_; rintro en w2 ⟨rfl, rfl⟩))
      refine bodyPost_ret (v := .int .u64 (R : Int)) (by simp [results, Tryz.results307, go_sem]) rfl ?_
      exact ⟨rfl, rfl⟩
    · rw [if_neg (fun e => hb (by simpa using e.2))]
      have g : ¬ (9223372036854775808 : Int) ≤ (a : Int) := by omega
      have g2 : decide ((9223372036854775808 : Int) ≤ (a : Int)) = false := decide_eq_false g
      have hmi := fun w => minus_64 a ha w
      have hro := fun w => round_64 false false a 0 h0 (by omega) (by omega) w
      generalize softRound Ieee.double 1023 false a 0 false = R at hro ⊢
      clear hmi
      go_enter Tryz.func307, Tryz.ntmps307
      go_wp2_with (first | (go_at_call 293; refine (top_64 _).mono ?_; rintro en w2 ⟨rfl, rfl⟩) | (go_at_call 313; refine (hro _).mono ?_; rintro en w2 ⟨rfl, rfl⟩))
      refine bodyPost_ret (v := .int .u64 (R : Int)) (by simp [results, Tryz.results307, go_sem]) rfl ?_
      exact ⟨rfl, rfl⟩
set_option maxHeartbeats 2000000 in
theorem fromInt_64_64_false (a : Nat) (ha : a < 18446744073709551616) (w : World) : Calls Tryz.prog 307 #[.int .i64 64, .int .i64 64, .bool false, .int .u64 a] w (Pq w (.int .u64 ((softFrom Ieee.double 1023 64 false a : Nat) : Int))) := by
  unfold softFrom
  by_cases h0 : a = 0
  · subst h0
    rw [if_pos rfl]
    go_enter Tryz.func307, Tryz.ntmps307
    go_wp2
    refine bodyPost_ret (v := .int .u64 0) (by simp [results, Tryz.results307, go_sem]) rfl ?_
    exact ⟨rfl, rfl⟩
  · rw [if_neg h0]
    have z0 : ((a : Int) == 0) = false := by rw [beq_eq_false_iff_ne]; omega
    rw [if_neg (by simp)]
    have hro := fun w => round_64 false false a 0 h0 (by omega) (by omega) w
    generalize softRound Ieee.double 1023 false a 0 false = R at hro ⊢
    go_enter Tryz.func307, Tryz.ntmps307
    go_wp2_with (first | (go_at_call 313; refine (hro _).mono ?_; rintro en w2 ⟨rfl, rfl⟩))
    refine bodyPost_ret (v := .int .u64 (R : Int)) (by simp [results, Tryz.results307, go_sem]) rfl ?_
    exact ⟨rfl, rfl⟩
end Go.Proofs.Qxb6500275aGreatDoor
