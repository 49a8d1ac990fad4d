import Derived.Test.Qxb6500275aGreatDoorNqt
set_option maxRecDepth 100000
set_option linter.unusedVariables false
set_option linter.unusedSimpArgs false
namespace Go.Proofs.Qxb6500275aGreatDoor
open Go Go.RowKit
/- comparisons of two words: the signed ones are compared with the halves swapped -/
def icmpC (k : Nat) (x y : Nat) : Bool := if k = 0 then ((x : Int) == (y : Int)) else if k = 1 then ((x : Int) != (y : Int)) else if k ≤ 3 then decide ((x : Int) < (y : Int)) else if k ≤ 5 then decide ((y : Int) < (x : Int)) else if k ≤ 7 then !decide ((y : Int) < (x : Int)) else !decide ((x : Int) < (y : Int))
def icmpM (n k a b : Nat) : Bool := if 2 ≤ k ∧ k % 2 = 0 then icmpC k ((a + 2 ^ (n - 1)) % 2 ^ n) ((b + 2 ^ (n - 1)) % 2 ^ n) else icmpC k a b
set_option maxHeartbeats 4000000 in
theorem intCmp_32_0 (a b : Nat) (ha : a < 4294967296) (hb : b < 4294967296) (w : World) : Calls Tryz.prog 285 #[.int .i64 0, .int .i64 32, .int .u64 a, .int .u64 b] w (Pq w (.int .u64 ((flagN (icmpM 32 0 a b) : Nat) : Int))) := by
  unfold icmpM
  rw [if_neg (by decide)]
  unfold icmpC
  rw [if_pos rfl]
  go_enter Tryz.func285, Tryz.ntmps285
  go_wp2_with (first | (go_at_call 284; refine (flag_n _ _).mono ?_; rintro en w2 ⟨rfl, rfl⟩))
  refine bodyPost_ret (v := .int .u64 ((flagN ((a : Int) == (b : Int)) : Nat) : Int)) (by simp [results, Tryz.results285, go_sem]) rfl ?_
  exact ⟨rfl, rfl⟩
set_option maxHeartbeats 4000000 in
theorem intCmp_32_1 (a b : Nat) (ha : a < 4294967296) (hb : b < 4294967296) (w : World) : Calls Tryz.prog 285 #[.int .i64 1, .int .i64 32, .int .u64 a, .int .u64 b] w (Pq w (.int .u64 ((flagN (icmpM 32 1 a b) : Nat) : Int))) := by
  unfold icmpM
  rw [if_neg (by decide)]
  unfold icmpC
  rw [if_neg (by decide), if_pos rfl]
  go_enter Tryz.func285, Tryz.ntmps285
  go_wp2_with (first | (go_at_call 284; refine (flag_n _ _).mono ?_; rintro en w2 ⟨rfl, rfl⟩))
  refine bodyPost_ret (v := .int .u64 ((flagN ((a : Int) != (b : Int)) : Nat) : Int)) (by simp [results, Tryz.results285, go_sem]) rfl ?_
  exact ⟨rfl, rfl⟩
set_option maxHeartbeats 4000000 in
theorem intCmp_32_2 (a b : Nat) (ha : a < 4294967296) (hb : b < 4294967296) (w : World) : Calls Tryz.prog 285 #[.int .i64 2, .int .i64 32, .int .u64 a, .int .u64 b] w (Pq w (.int .u64 ((flagN (icmpM 32 2 a b) : Nat) : Int))) := by
  unfold icmpM
  rw [if_pos (by decide), show (2 : Nat) ^ (32 - 1) = 2147483648 by decide, show (2 : Nat) ^ 32 = 4294967296 by decide]
  have hX : (a + 2147483648) % 4294967296 < 4294967296 := Nat.mod_lt _ (by decide)
  have hY : (b + 2147483648) % 4294967296 < 4294967296 := Nat.mod_lt _ (by decide)
  have h1 := and_mask ((a : Int) + 2147483648) 32 4294967295 (by decide) (by decide) (by omega)
  have h2 := and_mask ((b : Int) + 2147483648) 32 4294967295 (by decide) (by decide) (by omega)
  rw [show ((a : Int) + 2147483648).toNat % 2 ^ 32 = (a + 2147483648) % 4294967296 by omega] at h1
  rw [show ((b : Int) + 2147483648).toNat % 2 ^ 32 = (b + 2147483648) % 4294967296 by omega] at h2
  generalize (a + 2147483648) % 4294967296 = X at *
  generalize (b + 2147483648) % 4294967296 = Y at *
  unfold icmpC
  rw [if_neg (by decide), if_neg (by decide), if_pos (by decide)]
  go_enter Tryz.func285, Tryz.ntmps285
  go_wp2_with (first | (go_at_call 293; refine (top_32 _).mono ?_; rintro en w2 ⟨rfl, rfl⟩) | (go_at_call 294; refine (mask_32 _).mono ?_; rintro en w2 ⟨rfl, rfl⟩) | (go_at_call 284; refine (flag_n _ _).mono ?_; rintro en w2 ⟨rfl, rfl⟩))
  refine bodyPost_ret (v := .int .u64 ((flagN (decide ((X : Int) < (Y : Int))) : Nat) : Int)) (by simp [results, Tryz.results285, go_sem]) rfl ?_
  exact ⟨rfl, rfl⟩
set_option maxHeartbeats 4000000 in
theorem intCmp_32_3 (a b : Nat) (ha : a < 4294967296) (hb : b < 4294967296) (w : World) : Calls Tryz.prog 285 #[.int .i64 3, .int .i64 32, .int .u64 a, .int .u64 b] w (Pq w (.int .u64 ((flagN (icmpM 32 3 a b) : Nat) : Int))) := by
  unfold icmpM
  rw [if_neg (by decide)]
  unfold icmpC
  rw [if_neg (by decide), if_neg (by decide), if_pos (by decide)]
  go_enter Tryz.func285, Tryz.ntmps285
  go_wp2_with (first | (go_at_call 284; refine (flag_n _ _).mono ?_; rintro en w2 ⟨rfl, rfl⟩))
  refine bodyPost_ret (v := .int .u64 ((flagN (decide ((a : Int) < (b : Int))) : Nat) : Int)) (by simp [results, Tryz.results285, go_sem]) rfl ?_
  exact ⟨rfl, rfl⟩
set_option maxHeartbeats 4000000 in
theorem intCmp_32_4 (a b : Nat) (ha : a < 4294967296) (hb : b < 4294967296) (w : World) : Calls Tryz.prog 285 #[.int .i64 4, .int .i64 32, .int .u64 a, .int .u64 b] w (Pq w (.int .u64 ((flagN (icmpM 32 4 a b) : Nat) : Int))) := by
  unfold icmpM
  rw [if_pos (by decide), show (2 : Nat) ^ (32 - 1) = 2147483648 by decide, show (2 : Nat) ^ 32 = 4294967296 by decide]
  have hX : (a + 2147483648) % 4294967296 < 4294967296 := Nat.mod_lt _ (by decide)
  have hY : (b + 2147483648) % 4294967296 < 4294967296 := Nat.mod_lt _ (by decide)
  have h1 := and_mask ((a : Int) + 2147483648) 32 4294967295 (by decide) (by decide) (by omega)
  have h2 := and_mask ((b : Int) + 2147483648) 32 4294967295 (by decide) (by decide) (by omega)
  rw [show ((a : Int) + 2147483648).toNat % 2 ^ 32 = (a + 2147483648) % 4294967296 by omega] at h1
  rw [show ((b : Int) + 2147483648).toNat % 2 ^ 32 = (b + 2147483648) % 4294967296 by omega] at h2
  generalize (a + 2147483648) % 4294967296 = X at *
  generalize (b + 2147483648) % 4294967296 = Y at *
  unfold icmpC
  rw [if_neg (by decide), if_neg (by decide), if_neg (by decide), if_pos (by decide)]
  go_enter Tryz.func285, Tryz.ntmps285
  go_wp2_with (first | (go_at_call 293; refine (top_32 _).mono ?_; rintro en w2 ⟨rfl, rfl⟩) | (go_at_call 294; refine (mask_32 _).mono ?_; rintro en w2 ⟨rfl, rfl⟩) | (go_at_call 284; refine (flag_n _ _).mono ?_; rintro en w2 ⟨rfl, rfl⟩))
  refine bodyPost_ret (v := .int .u64 ((flagN (decide ((Y : Int) < (X : Int))) : Nat) : Int)) (by simp [results, Tryz.results285, go_sem]) rfl ?_
  exact ⟨rfl, rfl⟩
set_option maxHeartbeats 4000000 in
theorem intCmp_32_5 (a b : Nat) (ha : a < 4294967296) (hb : b < 4294967296) (w : World) : Calls Tryz.prog 285 #[.int .i64 5, .int .i64 32, .int .u64 a, .int .u64 b] w (Pq w (.int .u64 ((flagN (icmpM 32 5 a b) : Nat) : Int))) := by
  unfold icmpM
  rw [if_neg (by decide)]
  unfold icmpC
  rw [if_neg (by decide), if_neg (by decide), if_neg (by decide), if_pos (by decide)]
  go_enter Tryz.func285, Tryz.ntmps285
  go_wp2_with (first | (go_at_call 284; refine (flag_n _ _).mono ?_; rintro en w2 ⟨rfl, rfl⟩))
  refine bodyPost_ret (v := .int .u64 ((flagN (decide ((b : Int) < (a : Int))) : Nat) : Int)) (by simp [results, Tryz.results285, go_sem]) rfl ?_
  exact ⟨rfl, rfl⟩
set_option maxHeartbeats 4000000 in
theorem intCmp_32_6 (a b : Nat) (ha : a < 4294967296) (hb : b < 4294967296) (w : World) : Calls Tryz.prog 285 #[.int .i64 6, .int .i64 32, .int .u64 a, .int .u64 b] w (Pq w (.int .u64 ((flagN (icmpM 32 6 a b) : Nat) : Int))) := by
  unfold icmpM
  rw [if_pos (by decide), show (2 : Nat) ^ (32 - 1) = 2147483648 by decide, show (2 : Nat) ^ 32 = 4294967296 by decide]
  have hX : (a + 2147483648) % 4294967296 < 4294967296 := Nat.mod_lt _ (by decide)
  have hY : (b + 2147483648) % 4294967296 < 4294967296 := Nat.mod_lt _ (by decide)
  have h1 := and_mask ((a : Int) + 2147483648) 32 4294967295 (by decide) (by decide) (by omega)
  have h2 := and_mask ((b : Int) + 2147483648) 32 4294967295 (by decide) (by decide) (by omega)
  rw [show ((a : Int) + 2147483648).toNat % 2 ^ 32 = (a + 2147483648) % 4294967296 by omega] at h1
  rw [show ((b : Int) + 2147483648).toNat % 2 ^ 32 = (b + 2147483648) % 4294967296 by omega] at h2
  generalize (a + 2147483648) % 4294967296 = X at *
  generalize (b + 2147483648) % 4294967296 = Y at *
  unfold icmpC
  rw [if_neg (by decide), if_neg (by decide), if_neg (by decide), if_neg (by decide), if_pos (by decide)]
  go_enter Tryz.func285, Tryz.ntmps285
  go_wp2_with (first | (go_at_call 293; refine (top_32 _).mono ?_; rintro en w2 ⟨rfl, rfl⟩) | (go_at_call 294; refine (mask_32 _).mono ?_; rintro en w2 ⟨rfl, rfl⟩) | (go_at_call 284; refine (flag_n _ _).mono ?_; rintro en w2 ⟨rfl, rfl⟩))
  refine bodyPost_ret (v := .int .u64 ((flagN (!decide ((Y : Int) < (X : Int))) : Nat) : Int)) (by simp [results, Tryz.results285, go_sem]) rfl ?_
  exact ⟨rfl, rfl⟩
set_option maxHeartbeats 4000000 in
theorem intCmp_32_7 (a b : Nat) (ha : a < 4294967296) (hb : b < 4294967296) (w : World) : Calls Tryz.prog 285 #[.int .i64 7, .int .i64 32, .int .u64 a, .int .u64 b] w (Pq w (.int .u64 ((flagN (icmpM 32 7 a b) : Nat) : Int))) := by
  unfold icmpM
  rw [if_neg (by decide)]
  unfold icmpC
  rw [if_neg (by decide), if_neg (by decide), if_neg (by decide), if_neg (by decide), if_pos (by decide)]
  go_enter Tryz.func285, Tryz.ntmps285
  go_wp2_with (first | (go_at_call 284; refine (flag_n _ _).mono ?_; rintro en w2 ⟨rfl, rfl⟩))
  refine bodyPost_ret (v := .int .u64 ((flagN (!decide ((b : Int) < (a : Int))) : Nat) : Int)) (by simp [results, Tryz.results285, go_sem]) rfl ?_
  exact ⟨rfl, rfl⟩
set_option maxHeartbeats 4000000 in
theorem intCmp_32_8 (a b : Nat) (ha : a < 4294967296) (hb : b < 4294967296) (w : World) : Calls Tryz.prog 285 #[.int .i64 8, .int .i64 32, .int .u64 a, .int .u64 b] w (Pq w (.int .u64 ((flagN (icmpM 32 8 a b) : Nat) : Int))) := by
  unfold icmpM
  rw [if_pos (by decide), show (2 : Nat) ^ (32 - 1) = 2147483648 by decide, show (2 : Nat) ^ 32 = 4294967296 by decide]
  have hX : (a + 2147483648) % 4294967296 < 4294967296 := Nat.mod_lt _ (by decide)
  have hY : (b + 2147483648) % 4294967296 < 4294967296 := Nat.mod_lt _ (by decide)
  have h1 := and_mask ((a : Int) + 2147483648) 32 4294967295 (by decide) (by decide) (by omega)
  have h2 := and_mask ((b : Int) + 2147483648) 32 4294967295 (by decide) (by decide) (by omega)
  rw [show ((a : Int) + 2147483648).toNat % 2 ^ 32 = (a + 2147483648) % 4294967296 by omega] at h1
  rw [show ((b : Int) + 2147483648).toNat % 2 ^ 32 = (b + 2147483648) % 4294967296 by omega] at h2
  generalize (a + 2147483648) % 4294967296 = X at *
  generalize (b + 2147483648) % 4294967296 = Y at *
  unfold icmpC
  rw [if_neg (by decide), if_neg (by decide), if_neg (by decide), if_neg (by decide), if_neg (by decide)]
  go_enter Tryz.func285, Tryz.ntmps285
  go_wp2_with (first | (go_at_call 293; refine (top_32 _).mono ?_; rintro en w2 ⟨rfl, rfl⟩) | (go_at_call 294; refine (mask_32 _).mono ?_; rintro en w2 ⟨rfl, rfl⟩) | (go_at_call 284; refine (flag_n _ _).mono ?_; rintro en w2 ⟨rfl, rfl⟩))
  refine bodyPost_ret (v := .int .u64 ((flagN (!decide ((X : Int) < (Y : Int))) : Nat) : Int)) (by simp [results, Tryz.results285, go_sem]) rfl ?_
  exact ⟨rfl, rfl⟩
set_option maxHeartbeats 4000000 in
theorem intCmp_32_9 (a b : Nat) (ha : a < 4294967296) (hb : b < 4294967296) (w : World) : Calls Tryz.prog 285 #[.int .i64 9, .int .i64 32, .int .u64 a, .int .u64 b] w (Pq w (.int .u64 ((flagN (icmpM 32 9 a b) : Nat) : Int))) := by
  unfold icmpM
  rw [if_neg (by decide)]
  unfold icmpC
  rw [if_neg (by decide), if_neg (by decide), if_neg (by decide), if_neg (by decide), if_neg (by decide)]
  go_enter Tryz.func285, Tryz.ntmps285
  go_wp2_with (first | (go_at_call 284; refine (flag_n _ _).mono ?_; rintro en w2 ⟨rfl, rfl⟩))
  refine bodyPost_ret (v := .int .u64 ((flagN (!decide ((a : Int) < (b : Int))) : Nat) : Int)) (by simp [results, Tryz.results285, go_sem]) rfl ?_
  exact ⟨rfl, rfl⟩
set_option maxHeartbeats 4000000 in
theorem intCmp_64_0 (a b : Nat) (ha : a < 18446744073709551616) (hb : b < 18446744073709551616) (w : World) : Calls Tryz.prog 285 #[.int .i64 0, .int .i64 64, .int .u64 a, .int .u64 b] w (Pq w (.int .u64 ((flagN (icmpM 64 0 a b) : Nat) : Int))) := by
  unfold icmpM
  rw [if_neg (by decide)]
  unfold icmpC
  rw [if_pos rfl]
  go_enter Tryz.func285, Tryz.ntmps285
  go_wp2_with (first | (go_at_call 284; refine (flag_n _ _).mono ?_; rintro en w2 ⟨rfl, rfl⟩))
  refine bodyPost_ret (v := .int .u64 ((flagN ((a : Int) == (b : Int)) : Nat) : Int)) (by simp [results, Tryz.results285, go_sem]) rfl ?_
  exact ⟨rfl, rfl⟩
set_option maxHeartbeats 4000000 in
theorem intCmp_64_1 (a b : Nat) (ha : a < 18446744073709551616) (hb : b < 18446744073709551616) (w : World) : Calls Tryz.prog 285 #[.int .i64 1, .int .i64 64, .int .u64 a, .int .u64 b] w (Pq w (.int .u64 ((flagN (icmpM 64 1 a b) : Nat) : Int))) := by
  unfold icmpM
  rw [if_neg (by decide)]
  unfold icmpC
  rw [if_neg (by decide), if_pos rfl]
  go_enter Tryz.func285, Tryz.ntmps285
  go_wp2_with (first | (go_at_call 284; refine (flag_n _ _).mono ?_; rintro en w2 ⟨rfl, rfl⟩))
  refine bodyPost_ret (v := .int .u64 ((flagN ((a : Int) != (b : Int)) : Nat) : Int)) (by simp [results, Tryz.results285, go_sem]) rfl ?_
  exact ⟨rfl, rfl⟩
set_option maxHeartbeats 4000000 in
theorem intCmp_64_2 (a b : Nat) (ha : a < 18446744073709551616) (hb : b < 18446744073709551616) (w : World) : Calls Tryz.prog 285 #[.int .i64 2, .int .i64 64, .int .u64 a, .int .u64 b] w (Pq w (.int .u64 ((flagN (icmpM 64 2 a b) : Nat) : Int))) := by
  unfold icmpM
  rw [if_pos (by decide), show (2 : Nat) ^ (64 - 1) = 9223372036854775808 by decide, show (2 : Nat) ^ 64 = 18446744073709551616 by decide]
  have hX : (a + 9223372036854775808) % 18446744073709551616 < 18446744073709551616 := Nat.mod_lt _ (by decide)
  have hY : (b + 9223372036854775808) % 18446744073709551616 < 18446744073709551616 := Nat.mod_lt _ (by decide)
  have h1 : IntKind.u64.wrap ((a : Int) + 9223372036854775808) = (((a + 9223372036854775808) % 18446744073709551616 : Nat) : Int) := by rw [wrap_u64]; omega
  have h2 : IntKind.u64.wrap ((b : Int) + 9223372036854775808) = (((b + 9223372036854775808) % 18446744073709551616 : Nat) : Int) := by rw [wrap_u64]; omega
  have h3 := and_mask (((a + 9223372036854775808) % 18446744073709551616 : Nat) : Int) 64 18446744073709551615 (by decide) (by decide) (by omega)
  have h4 := and_mask (((b + 9223372036854775808) % 18446744073709551616 : Nat) : Int) 64 18446744073709551615 (by decide) (by decide) (by omega)
  rw [Int.toNat_natCast, show (a + 9223372036854775808) % 18446744073709551616 % 2 ^ 64 = (a + 9223372036854775808) % 18446744073709551616 from Nat.mod_eq_of_lt hX] at h3
  rw [Int.toNat_natCast, show (b + 9223372036854775808) % 18446744073709551616 % 2 ^ 64 = (b + 9223372036854775808) % 18446744073709551616 from Nat.mod_eq_of_lt hY] at h4
  generalize (a + 9223372036854775808) % 18446744073709551616 = X at *
  generalize (b + 9223372036854775808) % 18446744073709551616 = Y at *
  unfold icmpC
  rw [if_neg (by decide), if_neg (by decide), if_pos (by decide)]
  go_enter Tryz.func285, Tryz.ntmps285
  go_wp2_with (first | (go_at_call 293; refine (top_64 _).mono ?_; rintro en w2 ⟨rfl, rfl⟩) | (go_at_call 294; refine (mask_64 _).mono ?_; rintro en w2 ⟨rfl, rfl⟩) | (go_at_call 284; refine (flag_n _ _).mono ?_; rintro en w2 ⟨rfl, rfl⟩))
  refine bodyPost_ret (v := .int .u64 ((flagN (decide ((X : Int) < (Y : Int))) : Nat) : Int)) (by simp [results, Tryz.results285, go_sem]) rfl ?_
  exact ⟨rfl, rfl⟩
set_option maxHeartbeats 4000000 in
theorem intCmp_64_3 (a b : Nat) (ha : a < 18446744073709551616) (hb : b < 18446744073709551616) (w : World) : Calls Tryz.prog 285 #[.int .i64 3, .int .i64 64, .int .u64 a, .int .u64 b] w (Pq w (.int .u64 ((flagN (icmpM 64 3 a b) : Nat) : Int))) := by
  unfold icmpM
  rw [if_neg (by decide)]
  unfold icmpC
  rw [if_neg (by decide), if_neg (by decide), if_pos (by decide)]
  go_enter Tryz.func285, Tryz.ntmps285
  go_wp2_with (first | (go_at_call 284; refine (flag_n _ _).mono ?_; rintro en w2 ⟨rfl, rfl⟩))
  refine bodyPost_ret (v := .int .u64 ((flagN (decide ((a : Int) < (b : Int))) : Nat) : Int)) (by simp [results, Tryz.results285, go_sem]) rfl ?_
  exact ⟨rfl, rfl⟩
set_option maxHeartbeats 4000000 in
theorem intCmp_64_4 (a b : Nat) (ha : a < 18446744073709551616) (hb : b < 18446744073709551616) (w : World) : Calls Tryz.prog 285 #[.int .i64 4, .int .i64 64, .int .u64 a, .int .u64 b] w (Pq w (.int .u64 ((flagN (icmpM 64 4 a b) : Nat) : Int))) := by
  unfold icmpM
  rw [if_pos (by decide), show (2 : Nat) ^ (64 - 1) = 9223372036854775808 by decide, show (2 : Nat) ^ 64 = 18446744073709551616 by decide]
  have hX : (a + 9223372036854775808) % 18446744073709551616 < 18446744073709551616 := Nat.mod_lt _ (by decide)
  have hY : (b + 9223372036854775808) % 18446744073709551616 < 18446744073709551616 := Nat.mod_lt _ (by decide)
  have h1 : IntKind.u64.wrap ((a : Int) + 9223372036854775808) = (((a + 9223372036854775808) % 18446744073709551616 : Nat) : Int) := by rw [wrap_u64]; omega
  have h2 : IntKind.u64.wrap ((b : Int) + 9223372036854775808) = (((b + 9223372036854775808) % 18446744073709551616 : Nat) : Int) := by rw [wrap_u64]; omega
  have h3 := and_mask (((a + 9223372036854775808) % 18446744073709551616 : Nat) : Int) 64 18446744073709551615 (by decide) (by decide) (by omega)
  have h4 := and_mask (((b + 9223372036854775808) % 18446744073709551616 : Nat) : Int) 64 18446744073709551615 (by decide) (by decide) (by omega)
  rw [Int.toNat_natCast, show (a + 9223372036854775808) % 18446744073709551616 % 2 ^ 64 = (a + 9223372036854775808) % 18446744073709551616 from Nat.mod_eq_of_lt hX] at h3
  rw [Int.toNat_natCast, show (b + 9223372036854775808) % 18446744073709551616 % 2 ^ 64 = (b + 9223372036854775808) % 18446744073709551616 from Nat.mod_eq_of_lt hY] at h4
  generalize (a + 9223372036854775808) % 18446744073709551616 = X at *
  generalize (b + 9223372036854775808) % 18446744073709551616 = Y at *
  unfold icmpC
  rw [if_neg (by decide), if_neg (by decide), if_neg (by decide), if_pos (by decide)]
  go_enter Tryz.func285, Tryz.ntmps285
  go_wp2_with (first | (go_at_call 293; refine (top_64 _).mono ?_; rintro en w2 ⟨rfl, rfl⟩) | (go_at_call 294; refine (mask_64 _).mono ?_; rintro en w2 ⟨rfl, rfl⟩) | (go_at_call 284; refine (flag_n _ _).mono ?_; rintro en w2 ⟨rfl, rfl⟩))
  refine bodyPost_ret (v := .int .u64 ((flagN (decide ((Y : Int) < (X : Int))) : Nat) : Int)) (by simp [results, Tryz.results285, go_sem]) rfl ?_
  exact ⟨rfl, rfl⟩
set_option maxHeartbeats 4000000 in
theorem intCmp_64_5 (a b : Nat) (ha : a < 18446744073709551616) (hb : b < 18446744073709551616) (w : World) : Calls Tryz.prog 285 #[.int .i64 5, .int .i64 64, .int .u64 a, .int .u64 b] w (Pq w (.int .u64 ((flagN (icmpM 64 5 a b) : Nat) : Int))) := by
  unfold icmpM
  rw [if_neg (by decide)]
  unfold icmpC
  rw [if_neg (by decide), if_neg (by decide), if_neg (by decide), if_pos (by decide)]
  go_enter Tryz.func285, Tryz.ntmps285
  go_wp2_with (first | (go_at_call 284; refine (flag_n _ _).mono ?_; rintro en w2 ⟨rfl, rfl⟩))
  refine bodyPost_ret (v := .int .u64 ((flagN (decide ((b : Int) < (a : Int))) : Nat) : Int)) (by simp [results, Tryz.results285, go_sem]) rfl ?_
  exact ⟨rfl, rfl⟩
set_option maxHeartbeats 4000000 in
theorem intCmp_64_6 (a b : Nat) (ha : a < 18446744073709551616) (hb : b < 18446744073709551616) (w : World) : Calls Tryz.prog 285 #[.int .i64 6, .int .i64 64, .int .u64 a, .int .u64 b] w (Pq w (.int .u64 ((flagN (icmpM 64 6 a b) : Nat) : Int))) := by
  unfold icmpM
  rw [if_pos (by decide), show (2 : Nat) ^ (64 - 1) = 9223372036854775808 by decide, show (2 : Nat) ^ 64 = 18446744073709551616 by decide]
  have hX : (a + 9223372036854775808) % 18446744073709551616 < 18446744073709551616 := Nat.mod_lt _ (by decide)
  have hY : (b + 9223372036854775808) % 18446744073709551616 < 18446744073709551616 := Nat.mod_lt _ (by decide)
  have h1 : IntKind.u64.wrap ((a : Int) + 9223372036854775808) = (((a + 9223372036854775808) % 18446744073709551616 : Nat) : Int) := by rw [wrap_u64]; omega
  have h2 : IntKind.u64.wrap ((b : Int) + 9223372036854775808) = (((b + 9223372036854775808) % 18446744073709551616 : Nat) : Int) := by rw [wrap_u64]; omega
  have h3 := and_mask (((a + 9223372036854775808) % 18446744073709551616 : Nat) : Int) 64 18446744073709551615 (by decide) (by decide) (by omega)
  have h4 := and_mask (((b + 9223372036854775808) % 18446744073709551616 : Nat) : Int) 64 18446744073709551615 (by decide) (by decide) (by omega)
  rw [Int.toNat_natCast, show (a + 9223372036854775808) % 18446744073709551616 % 2 ^ 64 = (a + 9223372036854775808) % 18446744073709551616 from Nat.mod_eq_of_lt hX] at h3
  rw [Int.toNat_natCast, show (b + 9223372036854775808) % 18446744073709551616 % 2 ^ 64 = (b + 9223372036854775808) % 18446744073709551616 from Nat.mod_eq_of_lt hY] at h4
  generalize (a + 9223372036854775808) % 18446744073709551616 = X at *
  generalize (b + 9223372036854775808) % 18446744073709551616 = Y at *
  unfold icmpC
  rw [if_neg (by decide), if_neg (by decide), if_neg (by decide), if_neg (by decide), if_pos (by decide)]
  go_enter Tryz.func285, Tryz.ntmps285
  go_wp2_with (first | (go_at_call 293; refine (top_64 _).mono ?_; rintro en w2 ⟨rfl, rfl⟩) | (go_at_call 294; refine (mask_64 _).mono ?_; rintro en w2 ⟨rfl, rfl⟩) | (go_at_call 284; refine (flag_n _ _).mono ?_; rintro en w2 ⟨rfl, rfl⟩))
  refine bodyPost_ret (v := .int .u64 ((flagN (!decide ((Y : Int) < (X : Int))) : Nat) : Int)) (by simp [results, Tryz.results285, go_sem]) rfl ?_
  exact ⟨rfl, rfl⟩
set_option maxHeartbeats 4000000 in
theorem intCmp_64_7 (a b : Nat) (ha : a < 18446744073709551616) (hb : b < 18446744073709551616) (w : World) : Calls Tryz.prog 285 #[.int .i64 7, .int .i64 64, .int .u64 a, .int .u64 b] w (Pq w (.int .u64 ((flagN (icmpM 64 7 a b) : Nat) : Int))) := by
  unfold icmpM
  rw [if_neg (by decide)]
  unfold icmpC
  rw [if_neg (by decide), if_neg (by decide), if_neg (by decide), if_neg (by decide), if_pos (by decide)]
  go_enter Tryz.func285, Tryz.ntmps285
  go_wp2_with (first | (go_at_call 284; refine (flag_n _ _).mono ?_; rintro en w2 ⟨rfl, rfl⟩))
  refine bodyPost_ret (v := .int .u64 ((flagN (!decide ((b : Int) < (a : Int))) : Nat) : Int)) (by simp [results, Tryz.results285, go_sem]) rfl ?_
  exact ⟨rfl, rfl⟩
set_option maxHeartbeats 4000000 in
theorem intCmp_64_8 (a b : Nat) (ha : a < 18446744073709551616) (hb : b < 18446744073709551616) (w : World) : Calls Tryz.prog 285 #[.int .i64 8, .int .i64 64, .int .u64 a, .int .u64 b] w (Pq w (.int .u64 ((flagN (icmpM 64 8 a b) : Nat) : Int))) := by
  unfold icmpM
  rw [if_pos (by decide), show (2 : Nat) ^ (64 - 1) = 9223372036854775808 by decide, show (2 : Nat) ^ 64 = 18446744073709551616 by decide]
  have hX : (a + 9223372036854775808) % 18446744073709551616 < 18446744073709551616 := Nat.mod_lt _ (by decide)
  have hY : (b + 9223372036854775808) % 18446744073709551616 < 18446744073709551616 := Nat.mod_lt _ (by decide)
  have h1 : IntKind.u64.wrap ((a : Int) + 9223372036854775808) = (((a + 9223372036854775808) % 18446744073709551616 : Nat) : Int) := by rw [wrap_u64]; omega
  have h2 : IntKind.u64.wrap ((b : Int) + 9223372036854775808) = (((b + 9223372036854775808) % 18446744073709551616 : Nat) : Int) := by rw [wrap_u64]; omega
  have h3 := and_mask (((a + 9223372036854775808) % 18446744073709551616 : Nat) : Int) 64 18446744073709551615 (by decide) (by decide) (by omega)
  have h4 := and_mask (((b + 9223372036854775808) % 18446744073709551616 : Nat) : Int) 64 18446744073709551615 (by decide) (by decide) (by omega)
  rw [Int.toNat_natCast, show (a + 9223372036854775808) % 18446744073709551616 % 2 ^ 64 = (a + 9223372036854775808) % 18446744073709551616 from Nat.mod_eq_of_lt hX] at h3
  rw [Int.toNat_natCast, show (b + 9223372036854775808) % 18446744073709551616 % 2 ^ 64 = (b + 9223372036854775808) % 18446744073709551616 from Nat.mod_eq_of_lt hY] at h4
  generalize (a + 9223372036854775808) % 18446744073709551616 = X at *
  generalize (b + 9223372036854775808) % 18446744073709551616 = Y at *
  unfold icmpC
  rw [if_neg (by decide), if_neg (by decide), if_neg (by decide), if_neg (by decide), if_neg (by decide)]
  go_enter Tryz.func285, Tryz.ntmps285
  go_wp2_with (first | (go_at_call 293; refine (top_64 _).mono ?_; rintro en w2 ⟨rfl, rfl⟩) | (go_at_call 294; refine (mask_64 _).mono ?_; rintro en w2 ⟨rfl, rfl⟩) | (go_at_call 284; refine (flag_n _ _).mono ?_; rintro en w2 ⟨rfl, rfl⟩))
  refine bodyPost_ret (v := .int .u64 ((flagN (!decide ((X : Int) < (Y : Int))) : Nat) : Int)) (by simp [results, Tryz.results285, go_sem]) rfl ?_
  exact ⟨rfl, rfl⟩
set_option maxHeartbeats 4000000 in
theorem intCmp_64_9 (a b : Nat) (ha : a < 18446744073709551616) (hb : b < 18446744073709551616) (w : World) : Calls Tryz.prog 285 #[.int .i64 9, .int .i64 64, .int .u64 a, .int .u64 b] w (Pq w (.int .u64 ((flagN (icmpM 64 9 a b) : Nat) : Int))) := by
  unfold icmpM
  rw [if_neg (by decide)]
  unfold icmpC
  rw [if_neg (by decide), if_neg (by decide), if_neg (by decide), if_neg (by decide), if_neg (by decide)]
  go_enter Tryz.func285, Tryz.ntmps285
  go_wp2_with (first | (go_at_call 284; refine (flag_n _ _).mono ?_; rintro en w2 ⟨rfl, rfl⟩))
  refine bodyPost_ret (v := .int .u64 ((flagN (!decide ((a : Int) < (b : Int))) : Nat) : Int)) (by simp [results, Tryz.results285, go_sem]) rfl ?_
  exact ⟨rfl, rfl⟩
end Go.Proofs.Qxb6500275aGreatDoor
