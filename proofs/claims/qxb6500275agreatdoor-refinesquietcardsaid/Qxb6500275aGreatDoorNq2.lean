import Derived.Test.Qxb6500275aGreatDoorNq1
set_option maxRecDepth 100000
set_option linter.unusedVariables false
set_option linter.unusedSimpArgs false
namespace Go.Proofs.Qxb6500275aGreatDoor
open Go Go.RowKit
theorem and_mask (q : Int) (k : Nat) (M : Int) (hk : k ≤ 64) (hM : M = ((2 ^ k - 1 : Nat) : Int)) (h : 0 ≤ q ∧ q < 18446744073709551616) : bits .and .u64 q M = ((q.toNat % 2 ^ k : Nat) : Int) := by
  subst hM
  unfold bits
  obtain ⟨n, rfl⟩ : ∃ n : Nat, q = n := ⟨q.toNat, by omega⟩
  have h2 : n < 2 ^ 64 := by omega
  have hk2 : 2 ^ k ≤ 2 ^ 64 := Nat.pow_le_pow_right (by decide) hk
  have hk0 : 0 < 2 ^ k := Nat.two_pow_pos k
  have e : (BitVec.ofInt IntKind.u64.bits (n : Int) &&& BitVec.ofInt IntKind.u64.bits ((2 ^ k - 1 : Nat) : Int)).toNat = n % 2 ^ k := by
    have e1 : ∀ x : Nat, x < 2 ^ 64 → (BitVec.ofInt IntKind.u64.bits (x : Int)).toNat = x := fun x hx => by
      show (BitVec.ofInt 64 (x : Int)).toNat = x
      rw [BitVec.toNat_ofInt]
      omega
    rw [BitVec.toNat_and, e1 n h2, e1 _ (by omega)]
    exact Nat.and_two_pow_sub_one_eq_mod n k
  simp only [e, wrap_u64]
  simp only [Int.toNat_natCast]
  have : n % 2 ^ k < 2 ^ 64 := Nat.lt_of_lt_of_le (Nat.mod_lt _ hk0) hk2
  omega
set_option maxHeartbeats 1000000 in
theorem isZero_32 (v : Nat) (hv : v < 4294967296) (w : World) : Calls Tryz.prog 296 #[.int .i64 32, .int .u64 v] w (Pq w (.bool (((v % 2 ^ 31 : Nat) : Int) == 0))) := by
  have h3 := and_mask (v : Int) 31 2147483647 (by decide) (by decide) (by omega)
  rw [Int.toNat_natCast] at h3
  have hr : v % 2 ^ 31 < 2147483648 := Nat.mod_lt _ (by decide)
  generalize v % 2 ^ 31 = r at h3 hr ⊢
  go_enter Tryz.func296, Tryz.ntmps296
  go_wp2_with (first | (go_at_call 293; refine (top_32 _).mono ?_; rintro en w2 ⟨rfl, rfl⟩))
  refine bodyPost_ret (v := .bool ((r : Int) == 0)) (by simp [results, Tryz.results296, go_sem]) rfl ?_
  exact ⟨rfl, rfl⟩
set_option maxHeartbeats 1000000 in
theorem isNaN_32 (v : Nat) (hv : v < 4294967296) (w : World) : Calls Tryz.prog 295 #[.int .i64 32, .int .u64 v] w (Pq w (.bool (decide (2139095040 < ((v % 2 ^ 31 : Nat) : Int))))) := by
  have h3 := and_mask (v : Int) 31 2147483647 (by decide) (by decide) (by omega)
  rw [Int.toNat_natCast] at h3
  have hr : v % 2 ^ 31 < 2147483648 := Nat.mod_lt _ (by decide)
  generalize v % 2 ^ 31 = r at h3 hr ⊢
  go_enter Tryz.func295, Tryz.ntmps295
  go_wp2_with (first | (go_at_call 293; refine (top_32 _).mono ?_; rintro en w2 ⟨rfl, rfl⟩) | (go_at_call 309; refine (infOf_32 _).mono ?_; rintro en w2 ⟨rfl, rfl⟩))
  refine bodyPost_ret (v := .bool (decide (2139095040 < (r : Int)))) (by simp [results, Tryz.results295, go_sem]) rfl ?_
  exact ⟨rfl, rfl⟩
set_option maxHeartbeats 1000000 in
theorem isZero_64 (v : Nat) (hv : v < 18446744073709551616) (w : World) : Calls Tryz.prog 296 #[.int .i64 64, .int .u64 v] w (Pq w (.bool (((v % 2 ^ 63 : Nat) : Int) == 0))) := by
  have h3 := and_mask (v : Int) 63 9223372036854775807 (by decide) (by decide) (by omega)
  rw [Int.toNat_natCast] at h3
  have hr : v % 2 ^ 63 < 9223372036854775808 := Nat.mod_lt _ (by decide)
  generalize v % 2 ^ 63 = r at h3 hr ⊢
  go_enter Tryz.func296, Tryz.ntmps296
  go_wp2_with (first | (go_at_call 293; refine (top_64 _).mono ?_; rintro en w2 ⟨rfl, rfl⟩))
  refine bodyPost_ret (v := .bool ((r : Int) == 0)) (by simp [results, Tryz.results296, go_sem]) rfl ?_
  exact ⟨rfl, rfl⟩
set_option maxHeartbeats 1000000 in
theorem isNaN_64 (v : Nat) (hv : v < 18446744073709551616) (w : World) : Calls Tryz.prog 295 #[.int .i64 64, .int .u64 v] w (Pq w (.bool (decide (9218868437227405312 < ((v % 2 ^ 63 : Nat) : Int))))) := by
  have h3 := and_mask (v : Int) 63 9223372036854775807 (by decide) (by decide) (by omega)
  rw [Int.toNat_natCast] at h3
  have hr : v % 2 ^ 63 < 9223372036854775808 := Nat.mod_lt _ (by decide)
  generalize v % 2 ^ 63 = r at h3 hr ⊢
  go_enter Tryz.func295, Tryz.ntmps295
  go_wp2_with (first | (go_at_call 293; refine (top_64 _).mono ?_; rintro en w2 ⟨rfl, rfl⟩) | (go_at_call 309; refine (infOf_64 _).mono ?_; rintro en w2 ⟨rfl, rfl⟩))
  refine bodyPost_ret (v := .bool (decide (9218868437227405312 < (r : Int)))) (by simp [results, Tryz.results295, go_sem]) rfl ?_
  exact ⟨rfl, rfl⟩
end Go.Proofs.Qxb6500275aGreatDoor
