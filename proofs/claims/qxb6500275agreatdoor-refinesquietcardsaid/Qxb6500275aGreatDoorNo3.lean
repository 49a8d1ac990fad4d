import Derived.Test.Qxb6500275aGreatDoorNo2
set_option maxRecDepth 100000
set_option linter.unusedVariables false
set_option linter.unusedSimpArgs false
namespace Go.Proofs.Qxb6500275aGreatDoor
open Go Go.RowKit
theorem xor_ones (n x : Nat) (h : x < 2 ^ n) : (2 ^ n - 1) ^^^ x = 2 ^ n - 1 - x := by
  refine Nat.eq_of_testBit_eq fun i => ?_
  have hb := Nat.testBit_two_pow_sub_succ h i
  rw [show 2 ^ n - 1 - x = 2 ^ n - (x + 1) by omega, hb, Nat.testBit_xor, Nat.testBit_two_pow_sub_one]
  by_cases hi : i < n
  · simp [hi]
  · have : x.testBit i = false := Nat.testBit_lt_two_pow (Nat.lt_of_lt_of_le h (Nat.pow_le_pow_right (by decide) (by omega)))
    simp [hi, this]
theorem w32_n (a : Nat) (h : a < 4294967296) : wrap32 (a : Int) = if 2147483648 ≤ a then (a : Int) - 4294967296 else (a : Int) := by
  unfold wrap32
  split <;> omega
theorem w64_n (a : Nat) (h : a < 18446744073709551616) : wrap64 (a : Int) = if 9223372036854775808 ≤ a then (a : Int) - 18446744073709551616 else (a : Int) := by
  unfold wrap64
  split <;> omega
theorem tdiv_nat (x y : Nat) : (x : Int).tdiv (y : Int) = ((x / y : Nat) : Int) := by rw [Int.tdiv_eq_ediv_of_nonneg (by omega)]; simp
theorem tmod_nat (x y : Nat) : (x : Int).tmod (y : Int) = ((x % y : Nat) : Int) := by rw [Int.tmod_eq_emod_of_nonneg (by omega)]; simp
theorem sg_32 (a : Nat) (h : a < 4294967296) : (2 ^ (32 - 1) ≤ a → wrap32 (a : Int) = -((magN 32 a : Nat) : Int)) ∧ (¬ 2 ^ (32 - 1) ≤ a → wrap32 (a : Int) = ((magN 32 a : Nat) : Int)) := by
  rw [w32_n a h]
  unfold magN
  rw [show (2 : Nat) ^ (32 - 1) = 2147483648 by decide, show (2 : Nat) ^ 32 = 4294967296 by decide]
  constructor
  · intro h1; rw [if_pos h1, if_pos h1]; omega
  · intro h1; rw [if_neg h1, if_neg h1]
theorem dv_32 (a b : Nat) (ha : a < 4294967296) (hb : b < 4294967296) (hb0 : b ≠ 0) :
    (¬ (a = 2147483648 ∧ b = 4294967295) → divM true 32 a b = (((wrap32 (a : Int)).tdiv (wrap32 (b : Int)) % 4294967296).toNat, 0)) ∧ (a = 2147483648 ∧ b = 4294967295 → divM true 32 a b = (0, 40)) ∧
    divM false 32 a b = (((wrap32 (a : Int)).tmod (wrap32 (b : Int)) % 4294967296).toNat, 0) := by
  have sa := sg_32 a ha
  have sb := sg_32 b hb
  have ma : magN 32 a = if 2147483648 ≤ a then 4294967296 - a else a := by unfold magN; rw [show (2 : Nat) ^ (32 - 1) = 2147483648 by decide, show (2 : Nat) ^ 32 = 4294967296 by decide]
  have mb : magN 32 b = if 2147483648 ≤ b then 4294967296 - b else b := by unfold magN; rw [show (2 : Nat) ^ (32 - 1) = 2147483648 by decide, show (2 : Nat) ^ 32 = 4294967296 by decide]
  have hmb : 0 < magN 32 b := by rw [mb]; split <;> omega
  have hq : magN 32 a / magN 32 b ≤ 2147483648 := Nat.le_trans (Nat.div_le_self _ _) (by rw [ma]; split <;> omega)
  have hr : magN 32 a % magN 32 b < 2147483648 := by
    have h1 := Nat.mod_lt (magN 32 a) hmb
    have h2 : magN 32 b ≤ 2147483648 := by rw [mb]; split <;> omega
    omega
  have hqe : magN 32 a / magN 32 b = 2147483648 ↔ magN 32 a = 2147483648 ∧ magN 32 b = 1 := by
    constructor
    · intro h
      have h1 : magN 32 a ≤ 2147483648 := by rw [ma]; split <;> omega
      by_cases hb1 : magN 32 b = 1
      · rw [hb1, Nat.div_one] at h; exact ⟨h, hb1⟩
      · exfalso
        have : magN 32 a / magN 32 b ≤ magN 32 a / 2 := Nat.div_le_div_left (by omega) (by decide)
        omega
    · rintro ⟨h1, h2⟩; rw [h1, h2]
  rw [show (2 : Nat) ^ (32 - 1) = 2147483648 by decide] at sa sb
  unfold divM
  simp only [if_neg hb0, if_true, Bool.false_eq_true, if_false]
  rw [show (2 : Nat) ^ (32 - 1) = 2147483648 by decide, show (2 : Nat) ^ 32 = 4294967296 by decide]
  obtain ⟨q, hqq⟩ : ∃ q, magN 32 a / magN 32 b = q := ⟨_, rfl⟩
  obtain ⟨r, hrr⟩ : ∃ r, magN 32 a % magN 32 b = r := ⟨_, rfl⟩
  have tq := tdiv_nat (magN 32 a) (magN 32 b)
  have tr := tmod_nat (magN 32 a) (magN 32 b)
  rw [hqq] at tq hq hqe ⊢
  rw [hrr] at tr hr ⊢
  by_cases c1 : 2147483648 ≤ a <;> by_cases c2 : 2147483648 ≤ b
  · rw [sa.1 c1, sb.1 c2, Int.neg_tdiv, Int.tdiv_neg, Int.neg_tmod, Int.tmod_neg, tq, tr, Int.neg_neg]
    rw [show decide (2147483648 ≤ a) = true from decide_eq_true c1, show decide (2147483648 ≤ b) = true from decide_eq_true c2, if_pos (by decide), if_pos c1]
    rw [if_pos c1] at ma
    rw [if_pos c2] at mb
    refine ⟨fun h => ?_, fun h => ?_, ?_⟩
    · rw [if_neg (by intro e; have := hqe.1 (by omega); omega)]
      congr 1; omega
    · rw [if_pos (by have := hqe.2 (by omega); omega)]
    · congr 1; omega
  · rw [sa.1 c1, sb.2 c2, Int.neg_tdiv, Int.neg_tmod, tq, tr]
    rw [show decide (2147483648 ≤ a) = true from decide_eq_true c1, show decide (2147483648 ≤ b) = false from decide_eq_false c2, if_neg (by decide), if_pos c1]
    refine ⟨fun h => ?_, fun h => ?_, ?_⟩
    · congr 1; omega
    · omega
    · congr 1; omega
  · rw [sa.2 c1, sb.1 c2, Int.tdiv_neg, Int.tmod_neg, tq, tr]
    rw [show decide (2147483648 ≤ a) = false from decide_eq_false c1, show decide (2147483648 ≤ b) = true from decide_eq_true c2, if_neg (by decide), if_neg c1]
    refine ⟨fun h => ?_, fun h => ?_, ?_⟩
    · congr 1; omega
    · omega
    · congr 1; omega
  · rw [sa.2 c1, sb.2 c2, tq, tr]
    rw [show decide (2147483648 ≤ a) = false from decide_eq_false c1, show decide (2147483648 ≤ b) = false from decide_eq_false c2, if_pos (by decide), if_neg c1]
    rw [if_neg c1] at ma
    refine ⟨fun h => ?_, fun h => ?_, ?_⟩
    · rw [if_neg (by intro e; have := hqe.1 (by omega); omega)]
      congr 1; omega
    · omega
    · congr 1; omega
/- the arithmetic shift -/
theorem sh_32 (a c : Nat) (ha : a < 4294967296) (hc : c < 32) : wrap32 (a : Int) / 2 ^ c % 4294967296 = ((shrsM 32 a c : Nat) : Int) := by
  have hcp : 0 < 2 ^ c := Nat.two_pow_pos c
  have hsp : 4294967296 = 2 ^ (32 - c) * 2 ^ c := by rw [← Nat.pow_add, show 32 - c + c = 32 by omega]
  rw [w32_n a ha]
  unfold shrsM
  rw [show (2 : Nat) ^ (32 - 1) = 2147483648 by decide, show (2 : Nat) ^ 32 = 4294967296 by decide]
  have e2 : (2 : Int) ^ c = ((2 ^ c : Nat) : Int) := by simp
  by_cases h : 2147483648 ≤ a
  · rw [if_pos h, if_pos h, e2]
    have hi : (a : Int) - 4294967296 = (a : Int) + -((2 ^ (32 - c) : Nat) : Int) * ((2 ^ c : Nat) : Int) := by
      have : ((4294967296 : Nat) : Int) = ((2 ^ (32 - c) : Nat) : Int) * ((2 ^ c : Nat) : Int) := by rw [← Int.natCast_mul, ← hsp]
      rw [Int.neg_mul, ← this]
      omega
    rw [hi, Int.add_mul_ediv_right _ _ (by omega), show (a : Int) / ((2 ^ c : Nat) : Int) = ((a / 2 ^ c : Nat) : Int) by simp]
    have h1 : a / 2 ^ c < 2 ^ (32 - c) := by rw [Nat.div_lt_iff_lt_mul hcp, ← hsp]; exact ha
    have h2 : 2 ^ (32 - c) ≤ 4294967296 := by rw [hsp]; exact Nat.le_mul_of_pos_right _ hcp
    generalize a / 2 ^ c = q at *
    generalize 2 ^ (32 - c) = G at *
    omega
  · rw [if_neg h, if_neg h, e2, show (a : Int) / ((2 ^ c : Nat) : Int) = ((a / 2 ^ c : Nat) : Int) by simp]
    have h1 : a / 2 ^ c ≤ a := Nat.div_le_self _ _
    generalize a / 2 ^ c = q at *
    omega
theorem sg_64 (a : Nat) (h : a < 18446744073709551616) : (2 ^ (64 - 1) ≤ a → wrap64 (a : Int) = -((magN 64 a : Nat) : Int)) ∧ (¬ 2 ^ (64 - 1) ≤ a → wrap64 (a : Int) = ((magN 64 a : Nat) : Int)) := by
  rw [w64_n a h]
  unfold magN
  rw [show (2 : Nat) ^ (64 - 1) = 9223372036854775808 by decide, show (2 : Nat) ^ 64 = 18446744073709551616 by decide]
  constructor
  · intro h1; rw [if_pos h1, if_pos h1]; omega
  · intro h1; rw [if_neg h1, if_neg h1]
theorem dv_64 (a b : Nat) (ha : a < 18446744073709551616) (hb : b < 18446744073709551616) (hb0 : b ≠ 0) :
    (¬ (a = 9223372036854775808 ∧ b = 18446744073709551615) → divM true 64 a b = (((wrap64 (a : Int)).tdiv (wrap64 (b : Int)) % 18446744073709551616).toNat, 0)) ∧ (a = 9223372036854775808 ∧ b = 18446744073709551615 → divM true 64 a b = (0, 40)) ∧
    divM false 64 a b = (((wrap64 (a : Int)).tmod (wrap64 (b : Int)) % 18446744073709551616).toNat, 0) := by
  have sa := sg_64 a ha
  have sb := sg_64 b hb
  have ma : magN 64 a = if 9223372036854775808 ≤ a then 18446744073709551616 - a else a := by unfold magN; rw [show (2 : Nat) ^ (64 - 1) = 9223372036854775808 by decide, show (2 : Nat) ^ 64 = 18446744073709551616 by decide]
  have mb : magN 64 b = if 9223372036854775808 ≤ b then 18446744073709551616 - b else b := by unfold magN; rw [show (2 : Nat) ^ (64 - 1) = 9223372036854775808 by decide, show (2 : Nat) ^ 64 = 18446744073709551616 by decide]
  have hmb : 0 < magN 64 b := by rw [mb]; split <;> omega
  have hq : magN 64 a / magN 64 b ≤ 9223372036854775808 := Nat.le_trans (Nat.div_le_self _ _) (by rw [ma]; split <;> omega)
  have hr : magN 64 a % magN 64 b < 9223372036854775808 := by
    have h1 := Nat.mod_lt (magN 64 a) hmb
    have h2 : magN 64 b ≤ 9223372036854775808 := by rw [mb]; split <;> omega
    omega
  have hqe : magN 64 a / magN 64 b = 9223372036854775808 ↔ magN 64 a = 9223372036854775808 ∧ magN 64 b = 1 := by
    constructor
    · intro h
      have h1 : magN 64 a ≤ 9223372036854775808 := by rw [ma]; split <;> omega
      by_cases hb1 : magN 64 b = 1
      · rw [hb1, Nat.div_one] at h; exact ⟨h, hb1⟩
      · exfalso
        have : magN 64 a / magN 64 b ≤ magN 64 a / 2 := Nat.div_le_div_left (by omega) (by decide)
        omega
    · rintro ⟨h1, h2⟩; rw [h1, h2]
  rw [show (2 : Nat) ^ (64 - 1) = 9223372036854775808 by decide] at sa sb
  unfold divM
  simp only [if_neg hb0, if_true, Bool.false_eq_true, if_false]
  rw [show (2 : Nat) ^ (64 - 1) = 9223372036854775808 by decide, show (2 : Nat) ^ 64 = 18446744073709551616 by decide]
  obtain ⟨q, hqq⟩ : ∃ q, magN 64 a / magN 64 b = q := ⟨_, rfl⟩
  obtain ⟨r, hrr⟩ : ∃ r, magN 64 a % magN 64 b = r := ⟨_, rfl⟩
  have tq := tdiv_nat (magN 64 a) (magN 64 b)
  have tr := tmod_nat (magN 64 a) (magN 64 b)
  rw [hqq] at tq hq hqe ⊢
  rw [hrr] at tr hr ⊢
  by_cases c1 : 9223372036854775808 ≤ a <;> by_cases c2 : 9223372036854775808 ≤ b
  · rw [sa.1 c1, sb.1 c2, Int.neg_tdiv, Int.tdiv_neg, Int.neg_tmod, Int.tmod_neg, tq, tr, Int.neg_neg]
    rw [show decide (9223372036854775808 ≤ a) = true from decide_eq_true c1, show decide (9223372036854775808 ≤ b) = true from decide_eq_true c2, if_pos (by decide), if_pos c1]
    rw [if_pos c1] at ma
    rw [if_pos c2] at mb
    refine ⟨fun h => ?_, fun h => ?_, ?_⟩
    · rw [if_neg (by intro e; have := hqe.1 (by omega); omega)]
      congr 1; omega
    · rw [if_pos (by have := hqe.2 (by omega); omega)]
    · congr 1; omega
  · rw [sa.1 c1, sb.2 c2, Int.neg_tdiv, Int.neg_tmod, tq, tr]
    rw [show decide (9223372036854775808 ≤ a) = true from decide_eq_true c1, show decide (9223372036854775808 ≤ b) = false from decide_eq_false c2, if_neg (by decide), if_pos c1]
    refine ⟨fun h => ?_, fun h => ?_, ?_⟩
    · congr 1; omega
    · omega
    · congr 1; omega
  · rw [sa.2 c1, sb.1 c2, Int.tdiv_neg, Int.tmod_neg, tq, tr]
    rw [show decide (9223372036854775808 ≤ a) = false from decide_eq_false c1, show decide (9223372036854775808 ≤ b) = true from decide_eq_true c2, if_neg (by decide), if_neg c1]
    refine ⟨fun h => ?_, fun h => ?_, ?_⟩
    · congr 1; omega
    · omega
    · congr 1; omega
  · rw [sa.2 c1, sb.2 c2, tq, tr]
    rw [show decide (9223372036854775808 ≤ a) = false from decide_eq_false c1, show decide (9223372036854775808 ≤ b) = false from decide_eq_false c2, if_pos (by decide), if_neg c1]
    rw [if_neg c1] at ma
    refine ⟨fun h => ?_, fun h => ?_, ?_⟩
    · rw [if_neg (by intro e; have := hqe.1 (by omega); omega)]
      congr 1; omega
    · omega
    · congr 1; omega
/- the arithmetic shift -/
theorem sh_64 (a c : Nat) (ha : a < 18446744073709551616) (hc : c < 64) : wrap64 (a : Int) / 2 ^ c % 18446744073709551616 = ((shrsM 64 a c : Nat) : Int) := by
  have hcp : 0 < 2 ^ c := Nat.two_pow_pos c
  have hsp : 18446744073709551616 = 2 ^ (64 - c) * 2 ^ c := by rw [← Nat.pow_add, show 64 - c + c = 64 by omega]
  rw [w64_n a ha]
  unfold shrsM
  rw [show (2 : Nat) ^ (64 - 1) = 9223372036854775808 by decide, show (2 : Nat) ^ 64 = 18446744073709551616 by decide]
  have e2 : (2 : Int) ^ c = ((2 ^ c : Nat) : Int) := by simp
  by_cases h : 9223372036854775808 ≤ a
  · rw [if_pos h, if_pos h, e2]
    have hi : (a : Int) - 18446744073709551616 = (a : Int) + -((2 ^ (64 - c) : Nat) : Int) * ((2 ^ c : Nat) : Int) := by
      have : ((18446744073709551616 : Nat) : Int) = ((2 ^ (64 - c) : Nat) : Int) * ((2 ^ c : Nat) : Int) := by rw [← Int.natCast_mul, ← hsp]
      rw [Int.neg_mul, ← this]
      omega
    rw [hi, Int.add_mul_ediv_right _ _ (by omega), show (a : Int) / ((2 ^ c : Nat) : Int) = ((a / 2 ^ c : Nat) : Int) by simp]
    have h1 : a / 2 ^ c < 2 ^ (64 - c) := by rw [Nat.div_lt_iff_lt_mul hcp, ← hsp]; exact ha
    have h2 : 2 ^ (64 - c) ≤ 18446744073709551616 := by rw [hsp]; exact Nat.le_mul_of_pos_right _ hcp
    generalize a / 2 ^ c = q at *
    generalize 2 ^ (64 - c) = G at *
    omega
  · rw [if_neg h, if_neg h, e2, show (a : Int) / ((2 ^ c : Nat) : Int) = ((a / 2 ^ c : Nat) : Int) by simp]
    have h1 : a / 2 ^ c ≤ a := Nat.div_le_self _ _
    generalize a / 2 ^ c = q at *
    omega
end Go.Proofs.Qxb6500275aGreatDoor
