import Derived.Test.Qxb6500275aGreatDoorNo3
set_option maxRecDepth 100000
set_option linter.unusedVariables false
set_option linter.unusedSimpArgs false
namespace Go.Proofs.Qxb6500275aGreatDoor
open Go Go.RowKit
theorem ng_32 (c : Nat) (h : c < 32) : bits .and .u32 ((bits .xor .u32 IntKind.u32.max (c : Int) + 1) % 4294967296) 31 = (((32 - c) % 32 : Nat) : Int) := by
  have f1 := bits_xor_32 4294967295 c (by decide) (by omega)
  rw [show 4294967295 ^^^ c = 4294967295 - c from xor_ones 32 c (by omega)] at f1
  have f1' : bits .xor .u32 IntKind.u32.max (c : Int) = ((4294967295 - c : Nat) : Int) := f1
  rw [f1']
  have e : (((4294967295 - c : Nat) : Int) + 1) % 4294967296 = (((4294967296 - c) % 4294967296 : Nat) : Int) := by
    skip
    omega
  rw [e]
  have h3 := bits_and_32 ((4294967296 - c) % 4294967296) 31 (Nat.mod_lt _ (by decide)) (by decide)
  have h4 : ((4294967296 - c) % 4294967296) &&& 31 = (32 - c) % 32 := by
    have := Nat.and_two_pow_sub_one_eq_mod ((4294967296 - c) % 4294967296) 5
    rw [show (2 : Nat) ^ 5 - 1 = 31 by decide] at this
    rw [this, show (2 : Nat) ^ 5 = 32 by decide]
    omega
  rw [h4] at h3
  exact h3
theorem rt32_l (a c : Nat) (ha : a < 4294967296) (hc : c < 32) : bits .or .u32 ((a : Int) * 2 ^ c % 4294967296) ((a : Int) / 2 ^ ((32 - c) % 32)) = (((a * 2 ^ c + a / 2 ^ (32 - c)) % 4294967296 : Nat) : Int) := by
  by_cases h0 : c = 0
  · subst h0
    rw [show (32 - 0) % 32 = 0 by decide, show 32 - 0 = 32 by decide, Nat.pow_zero, show (2 : Nat) ^ 32 = 4294967296 by decide]
    have e1 : (a : Int) * 2 ^ 0 % 4294967296 = (a : Int) := by
      skip
      omega
    have e2 : (a : Int) / 2 ^ 0 = (a : Int) := by simp
    rw [e1, e2]
    have h := bits_or_32 a a ha ha
    rw [Nat.or_self] at h
    rw [h]
    congr 1
    rw [Nat.mul_one, Nat.div_eq_of_lt ha, Nat.add_zero, Nat.mod_eq_of_lt ha]
  · rw [show (32 - c) % 32 = 32 - c from Nat.mod_eq_of_lt (by omega)]
    obtain ⟨d, hd⟩ : ∃ d, 32 - c = d := ⟨_, rfl⟩
    rw [hd]
    have hsp : 4294967296 = 2 ^ d * 2 ^ c := by rw [← Nat.pow_add, show d + c = 32 by omega]
    have e1 : (a : Int) * 2 ^ c % 4294967296 = ((a * 2 ^ c % 4294967296 : Nat) : Int) := by
      skip
      simp
    have e2 : (a : Int) / 2 ^ d = ((a / 2 ^ d : Nat) : Int) := by simp
    rw [e1, e2]
    have hq : a / 2 ^ d < 2 ^ c := by
      rw [Nat.div_lt_iff_lt_mul (Nat.two_pow_pos _)]
      have : 2 ^ c * 2 ^ d = 4294967296 := by rw [hsp]; rw [Nat.mul_comm]
      rw [this]
      exact ha
    have hql : a / 2 ^ d < 4294967296 := Nat.lt_of_le_of_lt (Nat.div_le_self _ _) ha
    have hY : a * 2 ^ c % 4294967296 < 4294967296 := Nat.mod_lt _ (by decide)
    have hYm : a * 2 ^ c % 4294967296 % 2 ^ c = 0 := by
      have hsq : 4294967296 = 2 ^ c * 2 ^ (32 - c) := by rw [← Nat.pow_add, show c + (32 - c) = 32 by omega]
      rw [hsq, Nat.mod_mul_right_mod, Nat.mul_mod_left]
    have hsum := or_sum (a * 2 ^ c % 4294967296) (a / 2 ^ d) c hq hYm
    have hlt := Nat.or_lt_two_pow (n := 32) hY hql
    rw [hsum] at hlt
    have hor := bits_or_32 (a * 2 ^ c % 4294967296) (a / 2 ^ d) hY hql
    rw [hor, hsum]
    congr 1
    rw [show (2 : Nat) ^ 32 = 4294967296 by decide] at hlt
    generalize a * 2 ^ c = Q at *
    generalize a / 2 ^ d = R at *
    omega
theorem rt32_r (a c : Nat) (ha : a < 4294967296) (hc : c < 32) : bits .or .u32 ((a : Int) / 2 ^ c) ((a : Int) * 2 ^ ((32 - c) % 32) % 4294967296) = (((a / 2 ^ c + a * 2 ^ (32 - c)) % 4294967296 : Nat) : Int) := by
  by_cases h0 : c = 0
  · subst h0
    rw [show (32 - 0) % 32 = 0 by decide, show 32 - 0 = 32 by decide, Nat.pow_zero, show (2 : Nat) ^ 32 = 4294967296 by decide]
    have e1 : (a : Int) * 2 ^ 0 % 4294967296 = (a : Int) := by
      skip
      omega
    have e2 : (a : Int) / 2 ^ 0 = (a : Int) := by simp
    rw [e1, e2]
    have h := bits_or_32 a a ha ha
    rw [Nat.or_self] at h
    rw [h]
    congr 1
    rw [Nat.div_one, Nat.add_mul_mod_self_right, Nat.mod_eq_of_lt ha]
  · rw [show (32 - c) % 32 = 32 - c from Nat.mod_eq_of_lt (by omega)]
    obtain ⟨d, hd⟩ : ∃ d, 32 - c = d := ⟨_, rfl⟩
    rw [hd]
    have hsp : 4294967296 = 2 ^ d * 2 ^ c := by rw [← Nat.pow_add, show d + c = 32 by omega]
    have e1 : (a : Int) * 2 ^ d % 4294967296 = ((a * 2 ^ d % 4294967296 : Nat) : Int) := by
      skip
      simp
    have e2 : (a : Int) / 2 ^ c = ((a / 2 ^ c : Nat) : Int) := by simp
    rw [e1, e2]
    have hq : a / 2 ^ c < 2 ^ d := by
      rw [Nat.div_lt_iff_lt_mul (Nat.two_pow_pos _)]
      have : 2 ^ d * 2 ^ c = 4294967296 := by rw [hsp]
      rw [this]
      exact ha
    have hql : a / 2 ^ c < 4294967296 := Nat.lt_of_le_of_lt (Nat.div_le_self _ _) ha
    have hY : a * 2 ^ d % 4294967296 < 4294967296 := Nat.mod_lt _ (by decide)
    have hYm : a * 2 ^ d % 4294967296 % 2 ^ d = 0 := by
      have hsq : 4294967296 = 2 ^ d * 2 ^ (32 - d) := by rw [← Nat.pow_add, show d + (32 - d) = 32 by omega]
      rw [hsq, Nat.mod_mul_right_mod, Nat.mul_mod_left]
    have hsum := or_sum (a * 2 ^ d % 4294967296) (a / 2 ^ c) d hq hYm
    have hlt := Nat.or_lt_two_pow (n := 32) hY hql
    rw [hsum] at hlt
    have hor := bits_or_32 (a / 2 ^ c) (a * 2 ^ d % 4294967296) hql hY
    rw [hor, Nat.or_comm, hsum]
    congr 1
    rw [show (2 : Nat) ^ 32 = 4294967296 by decide] at hlt
    generalize a * 2 ^ d = Q at *
    generalize a / 2 ^ c = R at *
    omega
theorem ng_64 (c : Nat) (h : c < 64) : bits .and .u64 (IntKind.u64.wrap (bits .xor .u64 IntKind.u64.max (c : Int) + 1)) 63 = (((64 - c) % 64 : Nat) : Int) := by
  have f1 := bits_xor_n 18446744073709551615 c (by decide) (by omega)
  rw [show 18446744073709551615 ^^^ c = 18446744073709551615 - c from xor_ones 64 c (by omega)] at f1
  have f1' : bits .xor .u64 IntKind.u64.max (c : Int) = ((18446744073709551615 - c : Nat) : Int) := f1
  rw [f1']
  have e : IntKind.u64.wrap (((18446744073709551615 - c : Nat) : Int) + 1) = (((18446744073709551616 - c) % 18446744073709551616 : Nat) : Int) := by
    rw [wrap_u64]
    omega
  rw [e]
  have h3 := bits_and_n ((18446744073709551616 - c) % 18446744073709551616) 63 (Nat.mod_lt _ (by decide)) (by decide)
  have h4 : ((18446744073709551616 - c) % 18446744073709551616) &&& 63 = (64 - c) % 64 := by
    have := Nat.and_two_pow_sub_one_eq_mod ((18446744073709551616 - c) % 18446744073709551616) 6
    rw [show (2 : Nat) ^ 6 - 1 = 63 by decide] at this
    rw [this, show (2 : Nat) ^ 6 = 64 by decide]
    omega
  rw [h4] at h3
  exact h3
theorem rt64_l (a c : Nat) (ha : a < 18446744073709551616) (hc : c < 64) : bits .or .u64 (IntKind.u64.wrap ((a : Int) * 2 ^ c)) ((a : Int) / 2 ^ ((64 - c) % 64)) = (((a * 2 ^ c + a / 2 ^ (64 - c)) % 18446744073709551616 : Nat) : Int) := by
  by_cases h0 : c = 0
  · subst h0
    rw [show (64 - 0) % 64 = 0 by decide, show 64 - 0 = 64 by decide, Nat.pow_zero, show (2 : Nat) ^ 64 = 18446744073709551616 by decide]
    have e1 : IntKind.u64.wrap ((a : Int) * 2 ^ 0) = (a : Int) := by
      rw [wrap_u64]
      omega
    have e2 : (a : Int) / 2 ^ 0 = (a : Int) := by simp
    rw [e1, e2]
    have h := bits_or_n a a ha ha
    rw [Nat.or_self] at h
    rw [h]
    congr 1
    rw [Nat.mul_one, Nat.div_eq_of_lt ha, Nat.add_zero, Nat.mod_eq_of_lt ha]
  · rw [show (64 - c) % 64 = 64 - c from Nat.mod_eq_of_lt (by omega)]
    obtain ⟨d, hd⟩ : ∃ d, 64 - c = d := ⟨_, rfl⟩
    rw [hd]
    have hsp : 18446744073709551616 = 2 ^ d * 2 ^ c := by rw [← Nat.pow_add, show d + c = 64 by omega]
    have e1 : IntKind.u64.wrap ((a : Int) * 2 ^ c) = ((a * 2 ^ c % 18446744073709551616 : Nat) : Int) := by
      rw [wrap_u64]
      simp
    have e2 : (a : Int) / 2 ^ d = ((a / 2 ^ d : Nat) : Int) := by simp
    rw [e1, e2]
    have hq : a / 2 ^ d < 2 ^ c := by
      rw [Nat.div_lt_iff_lt_mul (Nat.two_pow_pos _)]
      have : 2 ^ c * 2 ^ d = 18446744073709551616 := by rw [hsp]; rw [Nat.mul_comm]
      rw [this]
      exact ha
    have hql : a / 2 ^ d < 18446744073709551616 := Nat.lt_of_le_of_lt (Nat.div_le_self _ _) ha
    have hY : a * 2 ^ c % 18446744073709551616 < 18446744073709551616 := Nat.mod_lt _ (by decide)
    have hYm : a * 2 ^ c % 18446744073709551616 % 2 ^ c = 0 := by
      have hsq : 18446744073709551616 = 2 ^ c * 2 ^ (64 - c) := by rw [← Nat.pow_add, show c + (64 - c) = 64 by omega]
      rw [hsq, Nat.mod_mul_right_mod, Nat.mul_mod_left]
    have hsum := or_sum (a * 2 ^ c % 18446744073709551616) (a / 2 ^ d) c hq hYm
    have hlt := Nat.or_lt_two_pow (n := 64) hY hql
    rw [hsum] at hlt
    have hor := bits_or_n (a * 2 ^ c % 18446744073709551616) (a / 2 ^ d) hY hql
    rw [hor, hsum]
    congr 1
    rw [show (2 : Nat) ^ 64 = 18446744073709551616 by decide] at hlt
    generalize a * 2 ^ c = Q at *
    generalize a / 2 ^ d = R at *
    omega
theorem rt64_r (a c : Nat) (ha : a < 18446744073709551616) (hc : c < 64) : bits .or .u64 ((a : Int) / 2 ^ c) (IntKind.u64.wrap ((a : Int) * 2 ^ ((64 - c) % 64))) = (((a / 2 ^ c + a * 2 ^ (64 - c)) % 18446744073709551616 : Nat) : Int) := by
  by_cases h0 : c = 0
  · subst h0
    rw [show (64 - 0) % 64 = 0 by decide, show 64 - 0 = 64 by decide, Nat.pow_zero, show (2 : Nat) ^ 64 = 18446744073709551616 by decide]
    have e1 : IntKind.u64.wrap ((a : Int) * 2 ^ 0) = (a : Int) := by
      rw [wrap_u64]
      omega
    have e2 : (a : Int) / 2 ^ 0 = (a : Int) := by simp
    rw [e1, e2]
    have h := bits_or_n a a ha ha
    rw [Nat.or_self] at h
    rw [h]
    congr 1
    rw [Nat.div_one, Nat.add_mul_mod_self_right, Nat.mod_eq_of_lt ha]
  · rw [show (64 - c) % 64 = 64 - c from Nat.mod_eq_of_lt (by omega)]
    obtain ⟨d, hd⟩ : ∃ d, 64 - c = d := ⟨_, rfl⟩
    rw [hd]
    have hsp : 18446744073709551616 = 2 ^ d * 2 ^ c := by rw [← Nat.pow_add, show d + c = 64 by omega]
    have e1 : IntKind.u64.wrap ((a : Int) * 2 ^ d) = ((a * 2 ^ d % 18446744073709551616 : Nat) : Int) := by
      rw [wrap_u64]
      simp
    have e2 : (a : Int) / 2 ^ c = ((a / 2 ^ c : Nat) : Int) := by simp
    rw [e1, e2]
    have hq : a / 2 ^ c < 2 ^ d := by
      rw [Nat.div_lt_iff_lt_mul (Nat.two_pow_pos _)]
      have : 2 ^ d * 2 ^ c = 18446744073709551616 := by rw [hsp]
      rw [this]
      exact ha
    have hql : a / 2 ^ c < 18446744073709551616 := Nat.lt_of_le_of_lt (Nat.div_le_self _ _) ha
    have hY : a * 2 ^ d % 18446744073709551616 < 18446744073709551616 := Nat.mod_lt _ (by decide)
    have hYm : a * 2 ^ d % 18446744073709551616 % 2 ^ d = 0 := by
      have hsq : 18446744073709551616 = 2 ^ d * 2 ^ (64 - d) := by rw [← Nat.pow_add, show d + (64 - d) = 64 by omega]
      rw [hsq, Nat.mod_mul_right_mod, Nat.mul_mod_left]
    have hsum := or_sum (a * 2 ^ d % 18446744073709551616) (a / 2 ^ c) d hq hYm
    have hlt := Nat.or_lt_two_pow (n := 64) hY hql
    rw [hsum] at hlt
    have hor := bits_or_n (a / 2 ^ c) (a * 2 ^ d % 18446744073709551616) hql hY
    rw [hor, Nat.or_comm, hsum]
    congr 1
    rw [show (2 : Nat) ^ 64 = 18446744073709551616 by decide] at hlt
    generalize a * 2 ^ d = Q at *
    generalize a / 2 ^ c = R at *
    omega
end Go.Proofs.Qxb6500275aGreatDoor
