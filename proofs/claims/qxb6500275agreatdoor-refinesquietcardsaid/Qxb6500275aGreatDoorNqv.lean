import Derived.Test.Qxb6500275aGreatDoorNqo
import Derived.Test.Qxb6500275aGreatDoorNqp
import Derived.Test.Qxb6500275aGreatDoorNqq
import Derived.Test.Qxb6500275aGreatDoorNqr
import Derived.Test.Qxb6500275aGreatDoorNqu
set_option maxRecDepth 100000
set_option linter.unusedVariables false
set_option linter.unusedSimpArgs false
namespace Go.Proofs.Qxb6500275aGreatDoor
open Go Go.RowKit
theorem and_pow (n k : Nat) (hk : k < 64) (h : n < 2 ^ (k + 1)) : bits .and .u64 (n : Int) ((2 ^ k : Nat) : Int) = ((if 2 ^ k ≤ n then 2 ^ k else 0 : Nat) : Int) := by
  unfold bits
  have hk2 : 2 ^ (k + 1) ≤ 2 ^ 64 := Nat.pow_le_pow_right (by decide) (by omega)
  have hp : 2 ^ (k + 1) = 2 * 2 ^ k := by rw [Nat.pow_succ, Nat.mul_comm]
  have hkp : 0 < 2 ^ k := Nat.two_pow_pos k
  have e1 : ∀ x : Nat, x < 2 ^ 64 → (BitVec.ofInt IntKind.u64.bits (x : Int)).toNat = x := fun x hx => by
    show (BitVec.ofInt 64 (x : Int)).toNat = x
    rw [BitVec.toNat_ofInt]
    omega
  have e : (BitVec.ofInt IntKind.u64.bits (n : Int) &&& BitVec.ofInt IntKind.u64.bits ((2 ^ k : Nat) : Int)).toNat = if 2 ^ k ≤ n then 2 ^ k else 0 := by
    rw [BitVec.toNat_and, e1 n (by omega), e1 _ (by omega)]
    refine Nat.eq_of_testBit_eq fun i => ?_
    rw [Nat.testBit_and, Nat.testBit_two_pow]
    by_cases hc : 2 ^ k ≤ n
    · rw [if_pos hc, Nat.testBit_two_pow]
      by_cases hi : k = i
      · subst hi
        have : n.testBit k = true := by
          rw [Nat.testBit_eq_decide_div_mod_eq]
          have : n / 2 ^ k = 1 := Nat.div_eq_of_lt_le (by omega) (by omega)
          rw [this]; rfl
        simp [this]
      · simp [hi]
    · rw [if_neg hc, Nat.zero_testBit]
      by_cases hi : k = i
      · subst hi
        have : n.testBit k = false := Nat.testBit_lt_two_pow (by omega)
        simp [this]
      · simp [hi]
  simp only [e, wrap_u64]
  split <;> omega
theorem or_zero (n : Nat) (h : n < 18446744073709551616) : bits .or .u64 (n : Int) 0 = (n : Int) := by
  unfold bits
  have e : (BitVec.ofInt IntKind.u64.bits (n : Int) ||| BitVec.ofInt IntKind.u64.bits 0).toNat = n := by
    show (BitVec.ofInt 64 (n : Int) ||| BitVec.ofInt 64 0).toNat = n
    rw [BitVec.toNat_or, BitVec.toNat_ofInt, BitVec.toNat_ofInt]
    simp
    omega
  simp only [e, wrap_u64]
  omega
set_option maxHeartbeats 4000000 in
theorem fltBin_32_6 (a b : Nat) (ha : a < 4294967296) (hb : b < 4294967296) (w : World) : Calls Tryz.prog 290 #[.int .i64 6, .int .i64 32, .int .u64 a, .int .u64 b] w (Pq w (.int .u64 ((Ieee.single.word (sgB Ieee.single b) (a % Ieee.single.signWeight) : Nat) : Int))) := by
  have hsw : Ieee.single.signWeight = 2147483648 := by decide
  have h1 := and_mask (a : Int) 31 2147483647 (by decide) (by decide) (by omega)
  rw [Int.toNat_natCast, show (2 : Nat) ^ 31 = 2147483648 by decide] at h1
  have h2 := and_pow b 31 (by decide) hb
  rw [show (2 : Nat) ^ 31 = 2147483648 by decide] at h2
  have hr : a % 2147483648 < 2147483648 := Nat.mod_lt _ (by decide)
  have h3 := or_pow (a % 2147483648) 31 2147483648 (by decide) (by decide) hr
  rw [show (2 : Nat) ^ 31 = 2147483648 by decide] at h3
  have h4 := or_zero (a % 2147483648) (by omega)
  rw [word_32]
  unfold sgB
  rw [hsw]
  generalize a % 2147483648 = r at *
  by_cases hc : 2147483648 ≤ b
  · rw [decide_eq_true hc, if_pos rfl]
    rw [if_pos hc] at h2
    have h2' : bits .and .u64 (b : Int) 2147483648 = 2147483648 := h2
    clear h4 h2
    go_enter Tryz.func290, Tryz.ntmps290
    go_wp2_with (first | (go_at_call 293; refine (top_32 _).mono ?_; rintro en w2 ⟨rfl, rfl⟩))
    refine bodyPost_ret (v := .int .u64 ((2147483648 + r : Nat) : Int)) (by simp [results, Tryz.results290, go_sem]) rfl ?_
    exact ⟨rfl, rfl⟩
  · rw [decide_eq_false hc, if_neg (by simp)]
    rw [if_neg hc] at h2
    have h2' : bits .and .u64 (b : Int) 2147483648 = 0 := h2
    clear h3 h2
    go_enter Tryz.func290, Tryz.ntmps290
    go_wp2_with (first | (go_at_call 293; refine (top_32 _).mono ?_; rintro en w2 ⟨rfl, rfl⟩))
    refine bodyPost_ret (v := .int .u64 (r : Int)) (by simp [results, Tryz.results290, go_sem]) rfl ?_
    exact ⟨rfl, rfl⟩
set_option maxHeartbeats 4000000 in
theorem fltUn_32_0 (a : Nat) (ha : a < 4294967296) (w : World) : Calls Tryz.prog 289 #[.int .i64 0, .int .i64 32, .int .u64 a] w (Pq w (.int .u64 ((a % Ieee.single.signWeight : Nat) : Int))) := by
  have hsw : Ieee.single.signWeight = 2147483648 := by decide
  have h1 := and_mask (a : Int) 31 2147483647 (by decide) (by decide) (by omega)
  rw [Int.toNat_natCast, show (2 : Nat) ^ 31 = 2147483648 by decide] at h1
  rw [hsw]
  generalize a % 2147483648 = r at *
  go_enter Tryz.func289, Tryz.ntmps289
  go_wp2_with (first | (go_at_call 293; refine (top_32 _).mono ?_; rintro en w2 ⟨rfl, rfl⟩))
  refine bodyPost_ret (v := .int .u64 (r : Int)) (by simp [results, Tryz.results289, go_sem]) rfl ?_
  exact ⟨rfl, rfl⟩
set_option maxHeartbeats 4000000 in
theorem fltUn_32_1 (a : Nat) (ha : a < 4294967296) (w : World) : Calls Tryz.prog 289 #[.int .i64 1, .int .i64 32, .int .u64 a] w (Pq w (.int .u64 ((flipW Ieee.single a : Nat) : Int))) := by
  have hsw : Ieee.single.signWeight = 2147483648 := by decide
  have h1 := ng32.xor a (by rw [hsw]; exact ha)
  rw [hsw] at h1
  have h1' : bits .xor .u64 (a : Int) 2147483648 = ((flipW Ieee.single a : Nat) : Int) := h1
  generalize flipW Ieee.single a = r at *
  clear h1
  go_enter Tryz.func289, Tryz.ntmps289
  go_wp2_with (first | (go_at_call 293; refine (top_32 _).mono ?_; rintro en w2 ⟨rfl, rfl⟩))
  refine bodyPost_ret (v := .int .u64 (r : Int)) (by simp [results, Tryz.results289, go_sem]) rfl ?_
  exact ⟨rfl, rfl⟩
set_option maxHeartbeats 4000000 in
theorem fltUn_32_6 (a : Nat) (ha : a < 4294967296) (w : World) : Calls Tryz.prog 289 #[.int .i64 6, .int .i64 32, .int .u64 a] w (Pq w (.int .u64 ((softSqrt Ieee.single 127 2143289344 a : Nat) : Int))) := by
  have hsw : Ieee.single.signWeight = 2147483648 := by decide
  have hop := fun w => sqrt_gen nf32 a (by rw [hsw]; exact ha) w
  generalize softSqrt Ieee.single 127 2143289344 a = r at *
  go_enter Tryz.func289, Tryz.ntmps289
  go_wp2_with (first | (go_at_call 300; refine (hop _).mono ?_; rintro en w2 ⟨rfl, rfl⟩))
  refine bodyPost_ret (v := .int .u64 (r : Int)) (by simp [results, Tryz.results289, go_sem]) rfl ?_
  exact ⟨rfl, rfl⟩
set_option maxHeartbeats 4000000 in
theorem fltUn_32_2 (a : Nat) (ha : a < 4294967296) (w : World) : Calls Tryz.prog 289 #[.int .i64 2, .int .i64 32, .int .u64 a] w (Pq w (.int .u64 ((softWhole Ieee.single 127 2143289344 2 a : Nat) : Int))) := by
  have hsw : Ieee.single.signWeight = 2147483648 := by decide
  have hop := fun w => whole_32_2 a ha w
  rw [whole_code fmt_single (by decide) _ 2 (by rw [hsw]; exact ha) (by decide)] at hop
  generalize softWhole Ieee.single 127 2143289344 2 a = r at *
  go_enter Tryz.func289, Tryz.ntmps289
  go_wp2_with (first | (go_at_call 301; refine (hop _).mono ?_; rintro en w2 ⟨rfl, rfl⟩))
  refine bodyPost_ret (v := .int .u64 (r : Int)) (by simp [results, Tryz.results289, go_sem]) rfl ?_
  exact ⟨rfl, rfl⟩
set_option maxHeartbeats 4000000 in
theorem fltUn_32_3 (a : Nat) (ha : a < 4294967296) (w : World) : Calls Tryz.prog 289 #[.int .i64 3, .int .i64 32, .int .u64 a] w (Pq w (.int .u64 ((softWhole Ieee.single 127 2143289344 3 a : Nat) : Int))) := by
  have hsw : Ieee.single.signWeight = 2147483648 := by decide
  have hop := fun w => whole_32_3 a ha w
  rw [whole_code fmt_single (by decide) _ 3 (by rw [hsw]; exact ha) (by decide)] at hop
  generalize softWhole Ieee.single 127 2143289344 3 a = r at *
  go_enter Tryz.func289, Tryz.ntmps289
  go_wp2_with (first | (go_at_call 301; refine (hop _).mono ?_; rintro en w2 ⟨rfl, rfl⟩))
  refine bodyPost_ret (v := .int .u64 (r : Int)) (by simp [results, Tryz.results289, go_sem]) rfl ?_
  exact ⟨rfl, rfl⟩
set_option maxHeartbeats 4000000 in
theorem fltUn_32_4 (a : Nat) (ha : a < 4294967296) (w : World) : Calls Tryz.prog 289 #[.int .i64 4, .int .i64 32, .int .u64 a] w (Pq w (.int .u64 ((softWhole Ieee.single 127 2143289344 4 a : Nat) : Int))) := by
  have hsw : Ieee.single.signWeight = 2147483648 := by decide
  have hop := fun w => whole_32_4 a ha w
  rw [whole_code fmt_single (by decide) _ 4 (by rw [hsw]; exact ha) (by decide)] at hop
  generalize softWhole Ieee.single 127 2143289344 4 a = r at *
  go_enter Tryz.func289, Tryz.ntmps289
  go_wp2_with (first | (go_at_call 301; refine (hop _).mono ?_; rintro en w2 ⟨rfl, rfl⟩))
  refine bodyPost_ret (v := .int .u64 (r : Int)) (by simp [results, Tryz.results289, go_sem]) rfl ?_
  exact ⟨rfl, rfl⟩
set_option maxHeartbeats 4000000 in
theorem fltUn_32_5 (a : Nat) (ha : a < 4294967296) (w : World) : Calls Tryz.prog 289 #[.int .i64 5, .int .i64 32, .int .u64 a] w (Pq w (.int .u64 ((softWhole Ieee.single 127 2143289344 5 a : Nat) : Int))) := by
  have hsw : Ieee.single.signWeight = 2147483648 := by decide
  have hop := fun w => whole_32_5 a ha w
  rw [whole_code fmt_single (by decide) _ 5 (by rw [hsw]; exact ha) (by decide)] at hop
  generalize softWhole Ieee.single 127 2143289344 5 a = r at *
  go_enter Tryz.func289, Tryz.ntmps289
  go_wp2_with (first | (go_at_call 301; refine (hop _).mono ?_; rintro en w2 ⟨rfl, rfl⟩))
  refine bodyPost_ret (v := .int .u64 (r : Int)) (by simp [results, Tryz.results289, go_sem]) rfl ?_
  exact ⟨rfl, rfl⟩
set_option maxHeartbeats 4000000 in
theorem fltBin_64_6 (a b : Nat) (ha : a < 18446744073709551616) (hb : b < 18446744073709551616) (w : World) : Calls Tryz.prog 290 #[.int .i64 6, .int .i64 64, .int .u64 a, .int .u64 b] w (Pq w (.int .u64 ((Ieee.double.word (sgB Ieee.double b) (a % Ieee.double.signWeight) : Nat) : Int))) := by
  have hsw : Ieee.double.signWeight = 9223372036854775808 := by decide
  have h1 := and_mask (a : Int) 63 9223372036854775807 (by decide) (by decide) (by omega)
  rw [Int.toNat_natCast, show (2 : Nat) ^ 63 = 9223372036854775808 by decide] at h1
  have h2 := and_pow b 63 (by decide) hb
  rw [show (2 : Nat) ^ 63 = 9223372036854775808 by decide] at h2
  have hr : a % 9223372036854775808 < 9223372036854775808 := Nat.mod_lt _ (by decide)
  have h3 := or_pow (a % 9223372036854775808) 63 9223372036854775808 (by decide) (by decide) hr
  rw [show (2 : Nat) ^ 63 = 9223372036854775808 by decide] at h3
  have h4 := or_zero (a % 9223372036854775808) (by omega)
  rw [word_64]
  unfold sgB
  rw [hsw]
  generalize a % 9223372036854775808 = r at *
  by_cases hc : 9223372036854775808 ≤ b
  · rw [decide_eq_true hc, if_pos rfl]
    rw [if_pos hc] at h2
    have h2' : bits .and .u64 (b : Int) 9223372036854775808 = 9223372036854775808 := h2
    clear h4 h2
    go_enter Tryz.func290, Tryz.ntmps290
    go_wp2_with (first | (go_at_call 293; refine (top_64 _).mono ?_; rintro en w2 ⟨rfl, rfl⟩))
    refine bodyPost_ret (v := .int .u64 ((9223372036854775808 + r : Nat) : Int)) (by simp [results, Tryz.results290, go_sem]) rfl ?_
    exact ⟨rfl, rfl⟩
  · rw [decide_eq_false hc, if_neg (by simp)]
    rw [if_neg hc] at h2
    have h2' : bits .and .u64 (b : Int) 9223372036854775808 = 0 := h2
    clear h3 h2
    go_enter Tryz.func290, Tryz.ntmps290
    go_wp2_with (first | (go_at_call 293; refine (top_64 _).mono ?_; rintro en w2 ⟨rfl, rfl⟩))
    refine bodyPost_ret (v := .int .u64 (r : Int)) (by simp [results, Tryz.results290, go_sem]) rfl ?_
    exact ⟨rfl, rfl⟩
set_option maxHeartbeats 4000000 in
theorem fltUn_64_0 (a : Nat) (ha : a < 18446744073709551616) (w : World) : Calls Tryz.prog 289 #[.int .i64 0, .int .i64 64, .int .u64 a] w (Pq w (.int .u64 ((a % Ieee.double.signWeight : Nat) : Int))) := by
  have hsw : Ieee.double.signWeight = 9223372036854775808 := by decide
  have h1 := and_mask (a : Int) 63 9223372036854775807 (by decide) (by decide) (by omega)
  rw [Int.toNat_natCast, show (2 : Nat) ^ 63 = 9223372036854775808 by decide] at h1
  rw [hsw]
  generalize a % 9223372036854775808 = r at *
  go_enter Tryz.func289, Tryz.ntmps289
  go_wp2_with (first | (go_at_call 293; refine (top_64 _).mono ?_; rintro en w2 ⟨rfl, rfl⟩))
  refine bodyPost_ret (v := .int .u64 (r : Int)) (by simp [results, Tryz.results289, go_sem]) rfl ?_
  exact ⟨rfl, rfl⟩
set_option maxHeartbeats 4000000 in
theorem fltUn_64_1 (a : Nat) (ha : a < 18446744073709551616) (w : World) : Calls Tryz.prog 289 #[.int .i64 1, .int .i64 64, .int .u64 a] w (Pq w (.int .u64 ((flipW Ieee.double a : Nat) : Int))) := by
  have hsw : Ieee.double.signWeight = 9223372036854775808 := by decide
  have h1 := ng64.xor a (by rw [hsw]; exact ha)
  rw [hsw] at h1
  have h1' : bits .xor .u64 (a : Int) 9223372036854775808 = ((flipW Ieee.double a : Nat) : Int) := h1
  generalize flipW Ieee.double a = r at *
  clear h1
  go_enter Tryz.func289, Tryz.ntmps289
  go_wp2_with (first | (go_at_call 293; refine (top_64 _).mono ?_; rintro en w2 ⟨rfl, rfl⟩))
  refine bodyPost_ret (v := .int .u64 (r : Int)) (by simp [results, Tryz.results289, go_sem]) rfl ?_
  exact ⟨rfl, rfl⟩
set_option maxHeartbeats 4000000 in
theorem fltUn_64_6 (a : Nat) (ha : a < 18446744073709551616) (w : World) : Calls Tryz.prog 289 #[.int .i64 6, .int .i64 64, .int .u64 a] w (Pq w (.int .u64 ((softSqrt Ieee.double 1023 9221120237041090560 a : Nat) : Int))) := by
  have hsw : Ieee.double.signWeight = 9223372036854775808 := by decide
  have hop := fun w => sqrt_gen nf64 a (by rw [hsw]; exact ha) w
  generalize softSqrt Ieee.double 1023 9221120237041090560 a = r at *
  go_enter Tryz.func289, Tryz.ntmps289
  go_wp2_with (first | (go_at_call 300; refine (hop _).mono ?_; rintro en w2 ⟨rfl, rfl⟩))
  refine bodyPost_ret (v := .int .u64 (r : Int)) (by simp [results, Tryz.results289, go_sem]) rfl ?_
  exact ⟨rfl, rfl⟩
set_option maxHeartbeats 4000000 in
theorem fltUn_64_2 (a : Nat) (ha : a < 18446744073709551616) (w : World) : Calls Tryz.prog 289 #[.int .i64 2, .int .i64 64, .int .u64 a] w (Pq w (.int .u64 ((softWhole Ieee.double 1023 9221120237041090560 2 a : Nat) : Int))) := by
  have hsw : Ieee.double.signWeight = 9223372036854775808 := by decide
  have hop := fun w => whole_64_2 a ha w
  rw [whole_code fmt_double (by decide) _ 2 (by rw [hsw]; exact ha) (by decide)] at hop
  generalize softWhole Ieee.double 1023 9221120237041090560 2 a = r at *
  go_enter Tryz.func289, Tryz.ntmps289
  go_wp2_with (first | (go_at_call 301; refine (hop _).mono ?_; rintro en w2 ⟨rfl, rfl⟩))
  refine bodyPost_ret (v := .int .u64 (r : Int)) (by simp [results, Tryz.results289, go_sem]) rfl ?_
  exact ⟨rfl, rfl⟩
set_option maxHeartbeats 4000000 in
theorem fltUn_64_3 (a : Nat) (ha : a < 18446744073709551616) (w : World) : Calls Tryz.prog 289 #[.int .i64 3, .int .i64 64, .int .u64 a] w (Pq w (.int .u64 ((softWhole Ieee.double 1023 9221120237041090560 3 a : Nat) : Int))) := by
  have hsw : Ieee.double.signWeight = 9223372036854775808 := by decide
  have hop := fun w => whole_64_3 a ha w
  rw [whole_code fmt_double (by decide) _ 3 (by rw [hsw]; exact ha) (by decide)] at hop
  generalize softWhole Ieee.double 1023 9221120237041090560 3 a = r at *
  go_enter Tryz.func289, Tryz.ntmps289
  go_wp2_with (first | (go_at_call 301; refine (hop _).mono ?_; rintro en w2 ⟨rfl, rfl⟩))
  refine bodyPost_ret (v := .int .u64 (r : Int)) (by simp [results, Tryz.results289, go_sem]) rfl ?_
  exact ⟨rfl, rfl⟩
set_option maxHeartbeats 4000000 in
theorem fltUn_64_4 (a : Nat) (ha : a < 18446744073709551616) (w : World) : Calls Tryz.prog 289 #[.int .i64 4, .int .i64 64, .int .u64 a] w (Pq w (.int .u64 ((softWhole Ieee.double 1023 9221120237041090560 4 a : Nat) : Int))) := by
  have hsw : Ieee.double.signWeight = 9223372036854775808 := by decide
  have hop := fun w => whole_64_4 a ha w
  rw [whole_code fmt_double (by decide) _ 4 (by rw [hsw]; exact ha) (by decide)] at hop
  generalize softWhole Ieee.double 1023 9221120237041090560 4 a = r at *
  go_enter Tryz.func289, Tryz.ntmps289
  go_wp2_with (first | (go_at_call 301; refine (hop _).mono ?_; rintro en w2 ⟨rfl, rfl⟩))
  refine bodyPost_ret (v := .int .u64 (r : Int)) (by simp [results, Tryz.results289, go_sem]) rfl ?_
  exact ⟨rfl, rfl⟩
set_option maxHeartbeats 4000000 in
theorem fltUn_64_5 (a : Nat) (ha : a < 18446744073709551616) (w : World) : Calls Tryz.prog 289 #[.int .i64 5, .int .i64 64, .int .u64 a] w (Pq w (.int .u64 ((softWhole Ieee.double 1023 9221120237041090560 5 a : Nat) : Int))) := by
  have hsw : Ieee.double.signWeight = 9223372036854775808 := by decide
  have hop := fun w => whole_64_5 a ha w
  rw [whole_code fmt_double (by decide) _ 5 (by rw [hsw]; exact ha) (by decide)] at hop
  generalize softWhole Ieee.double 1023 9221120237041090560 5 a = r at *
  go_enter Tryz.func289, Tryz.ntmps289
  go_wp2_with (first | (go_at_call 301; refine (hop _).mono ?_; rintro en w2 ⟨rfl, rfl⟩))
  refine bodyPost_ret (v := .int .u64 (r : Int)) (by simp [results, Tryz.results289, go_sem]) rfl ?_
  exact ⟨rfl, rfl⟩
end Go.Proofs.Qxb6500275aGreatDoor
