import Derived.Test.Qxb6500275aGreatDoorFl1
set_option linter.unusedVariables false
set_option linter.unusedSimpArgs false
namespace Go.Proofs.Qxb6500275aGreatDoor
open Ieee
/- what the rounding keeps of a mantissa of 64 bits -/
def upq (M c : Nat) (sticky : Bool) : Nat := if 2 ^ (c - 1) < M % 2 ^ c ∨ (M % 2 ^ c = 2 ^ (c - 1) ∧ (sticky = true ∨ M / 2 ^ c % 2 = 1)) then M / 2 ^ c + 1 else M / 2 ^ c
theorem upq_exact (M c : Nat) (hc : 1 ≤ c) : rnd M (2 ^ c) = upq M c false := by
  have hp : 2 ^ c = 2 * 2 ^ (c - 1) := by rw [Nat.mul_comm, ← Nat.pow_succ]; congr 1; omega
  have e1 : (2 ^ c < 2 * (M % 2 ^ c)) ↔ (2 ^ (c - 1) < M % 2 ^ c) := by omega
  have e2 : (2 ^ c = 2 * (M % 2 ^ c)) ↔ (M % 2 ^ c = 2 ^ (c - 1)) := by omega
  unfold rnd upq
  simp only [e1, e2]
  by_cases h : 2 ^ (c - 1) < M % 2 ^ c ∨ (M % 2 ^ c = 2 ^ (c - 1) ∧ M / 2 ^ c % 2 = 1)
  · rw [if_pos h, if_pos (by simpa using h)]
  · rw [if_neg h, if_neg (by simpa using h)]; rfl
theorem upq_sticky (m s c k A : Nat) (hs : s < c) (h1 : m * 2 ^ k < A) (h2 : A < (m + 1) * 2 ^ k) : rnd (A * 2 ^ s) (2 ^ c * 2 ^ k) = upq (m * 2 ^ s) c true := by
  obtain ⟨d, rfl⟩ : ∃ d, c = s + 1 + d := ⟨c - s - 1, by omega⟩
  have hk : 0 < 2 ^ k := Nat.two_pow_pos k
  have hsp : 0 < 2 ^ s := Nat.two_pow_pos s
  have hdp : 0 < 2 ^ d := Nat.two_pow_pos d
  have ec : 2 ^ (s + 1 + d) = 2 * 2 ^ d * 2 ^ s := by
    rw [show s + 1 + d = (1 + d) + s by omega, Nat.pow_add, Nat.pow_add]
  have eh : 2 ^ (s + 1 + d - 1) = 2 ^ d * 2 ^ s := by
    rw [show s + 1 + d - 1 = d + s by omega, Nat.pow_add]
  -- in units of 2 ^ s
  have e0 : rnd (A * 2 ^ s) (2 ^ (s + 1 + d) * 2 ^ k) = rnd A (2 * 2 ^ d * 2 ^ k) := by
    rw [ec, Nat.mul_right_comm, rnd_scale]
  have q0 : m * 2 ^ s / 2 ^ (s + 1 + d) = m / (2 * 2 ^ d) := by rw [ec, Nat.mul_div_mul_right _ _ hsp]
  have r0 : m * 2 ^ s % 2 ^ (s + 1 + d) = m % (2 * 2 ^ d) * 2 ^ s := by rw [ec, Nat.mul_mod_mul_right]
  rw [e0]
  unfold upq
  rw [q0, r0, eh]
  have e1 : (2 ^ d * 2 ^ s < m % (2 * 2 ^ d) * 2 ^ s) ↔ (2 ^ d < m % (2 * 2 ^ d)) := Nat.mul_lt_mul_right hsp
  have e2 : (m % (2 * 2 ^ d) * 2 ^ s = 2 ^ d * 2 ^ s) ↔ (m % (2 * 2 ^ d) = 2 ^ d) := Nat.mul_left_inj (by omega)
  simp only [e1, e2]
  -- A / 2 ^ k = m
  have hA : A / 2 ^ k = m := Nat.div_eq_of_lt_le (by omega) (by omega)
  have hR : A = m * 2 ^ k + A % 2 ^ k := by
    have := Nat.div_add_mod A (2 ^ k)
    rw [hA, Nat.mul_comm] at this
    omega
  have hd0 : 0 < A % 2 ^ k := by omega
  have hd1 : A % 2 ^ k < 2 ^ k := Nat.mod_lt _ hk
  have q1 : A / (2 * 2 ^ d * 2 ^ k) = m / (2 * 2 ^ d) := by
    rw [Nat.mul_comm (2 * 2 ^ d), ← Nat.div_div_eq_div_mul, hA]
  have r1 : A % (2 * 2 ^ d * 2 ^ k) = m % (2 * 2 ^ d) * 2 ^ k + A % 2 ^ k := by
    rw [Nat.mul_comm (2 * 2 ^ d), Nat.mod_mul, hA, Nat.mul_comm (2 ^ k)]
    omega
  unfold rnd
  rw [q1, r1]
  generalize A % 2 ^ k = δ at *
  generalize hr : m % (2 * 2 ^ d) = r at *
  by_cases hc : 2 ^ d ≤ r
  · have h3 : 2 ^ d * 2 ^ k ≤ r * 2 ^ k := Nat.mul_le_mul_right _ hc
    have h4 : 2 * 2 ^ d * 2 ^ k = 2 * (2 ^ d * 2 ^ k) := by rw [Nat.mul_assoc]
    rw [if_pos (.inl (by omega)), if_pos (by
      by_cases h : r = 2 ^ d
      · exact .inr ⟨h, .inl trivial⟩
      · exact .inl (by omega))]
  · have h3 : (r + 1) * 2 ^ k ≤ 2 ^ d * 2 ^ k := Nat.mul_le_mul_right _ (by omega)
    rw [Nat.add_mul, Nat.one_mul] at h3
    have h4 : 2 * 2 ^ d * 2 ^ k = 2 * (2 ^ d * 2 ^ k) := by rw [Nat.mul_assoc]
    rw [if_neg (by omega), if_neg (by omega)]
    rfl
/- THE ONE ROUNDING of the model of the numbers -/
def softRound (F : Format) (bi : Nat) (neg : Bool) (m : Nat) (e : Int) (sticky : Bool) : Nat :=
  let s := 63 - m.log2
  let ex : Int := e - s + 63
  let keep : Int := if ex < 1 - bi then F.fractionBits + 1 - (1 - bi - ex) else F.fractionBits + 1
  if keep < 0 then F.word neg 0 else
  let q := upq (m * 2 ^ s) (64 - keep.toNat) sticky
  if ex < 1 - bi then F.word neg q
  else if q = 2 ^ (F.fractionBits + 1) then (if bi < ex + 1 then F.word neg F.infRung else F.word neg ((ex + 1 + bi - 1).toNat * 2 ^ F.fractionBits + q / 2))
  else if bi < ex then F.word neg F.infRung else F.word neg ((ex + bi - 1).toNat * 2 ^ F.fractionBits + q)
theorem log2_between {m k A : Nat} (hm : m ≠ 0) (h1 : m * 2 ^ k ≤ A) (h2 : A < (m + 1) * 2 ^ k) : A.log2 = m.log2 + k := by
  have hk : 0 < 2 ^ k := Nat.two_pow_pos k
  have ha : A ≠ 0 := by
    have : 0 < m * 2 ^ k := Nat.mul_pos (by omega) hk
    omega
  have a1 : 2 ^ m.log2 ≤ m := Nat.log2_self_le hm
  have a2 : m < 2 ^ (m.log2 + 1) := Nat.lt_log2_self
  have b1 : 2 ^ (m.log2 + k) ≤ A := by
    rw [Nat.pow_add]
    exact Nat.le_trans (Nat.mul_le_mul_right _ a1) h1
  have b2 : A < 2 ^ (m.log2 + k + 1) := by
    rw [show m.log2 + k + 1 = (m.log2 + 1) + k by omega, Nat.pow_add]
    exact Nat.lt_of_lt_of_le h2 (Nat.mul_le_mul_right _ (by omega))
  have c1 := (Nat.le_log2 ha).2 b1
  have c2 := (Nat.log2_lt ha).2 b2
  omega
end Go.Proofs.Qxb6500275aGreatDoor
