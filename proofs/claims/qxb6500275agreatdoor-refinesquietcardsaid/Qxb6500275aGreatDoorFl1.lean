import Ieee.Arith
set_option linter.unusedVariables false
set_option linter.unusedSimpArgs false
namespace Go.Proofs.Qxb6500275aGreatDoor
open Ieee
/- ROUNDING TO NEAREST, plain: n / g, ties to even -/
def rnd (n g : Nat) : Nat := n / g + (if g < 2 * (n % g) ∨ (g = 2 * (n % g) ∧ n / g % 2 = 1) then 1 else 0)
theorem cut_rnd (neg : Bool) (n drop : Nat) : Toward.even.cut neg n drop = rnd n (2 ^ drop) := by
  have hn : n < 2 ^ (n.log2 + 1) := by
    by_cases h : n = 0
    · subst h; simp
    · exact (Nat.log2_lt h).1 (Nat.lt_succ_self _)
  unfold Toward.cut rnd
  simp only [Nat.shiftLeft_eq, Nat.one_mul]
  by_cases h : drop ≤ n.log2 + 2
  · rw [Nat.min_eq_left h]
    by_cases hc : 2 ^ drop < 2 * (n % 2 ^ drop) ∨ (2 ^ drop = 2 * (n % 2 ^ drop) ∧ n / 2 ^ drop % 2 = 1)
    · rw [if_pos hc]
      congr 1
      rcases hc with hc | ⟨h1, h2⟩
      · simp [hc]
      · simp [← h1, h2]
    · rw [if_neg hc]
      congr 1
      have h1 : ¬ 2 ^ drop < 2 * (n % 2 ^ drop) := fun e => hc (.inl e)
      by_cases h2 : 2 ^ drop = 2 * (n % 2 ^ drop)
      · have h3 : ¬ n / 2 ^ drop % 2 = 1 := fun e => hc (.inr ⟨h2, e⟩)
        simp [h1, h3]
      · simp [h1, h2]
  · have hm : min drop (n.log2 + 2) = n.log2 + 2 := Nat.min_eq_right (by omega)
    rw [hm]
    have hp : 2 ^ (n.log2 + 2) = 2 * 2 ^ (n.log2 + 1) := by rw [Nat.pow_succ, Nat.mul_comm]
    have hd : 2 ^ (n.log2 + 2) ≤ 2 ^ drop := Nat.pow_le_pow_right (by decide) (by omega)
    have e1 : n / 2 ^ (n.log2 + 2) = 0 := Nat.div_eq_of_lt (by omega)
    have e2 : n % 2 ^ (n.log2 + 2) = n := Nat.mod_eq_of_lt (by omega)
    have e3 : n / 2 ^ drop = 0 := Nat.div_eq_of_lt (by omega)
    have e4 : n % 2 ^ drop = n := Nat.mod_eq_of_lt (by omega)
    rw [e1, e2, e3, e4, if_neg (by omega)]
    have h1 : ¬ 2 ^ (n.log2 + 2) < 2 * n := by omega
    simp [h1]
/- it knows no scale -/
theorem rnd_scale (n g k : Nat) : rnd (n * 2 ^ k) (g * 2 ^ k) = rnd n g := by
  have hk : 0 < 2 ^ k := Nat.two_pow_pos k
  unfold rnd
  rw [Nat.mul_div_mul_right _ _ hk, Nat.mul_mod_mul_right]
  have e1 : (g * 2 ^ k < 2 * (n % g * 2 ^ k)) ↔ (g < 2 * (n % g)) := by
    rw [← Nat.mul_assoc]
    exact Nat.mul_lt_mul_right hk
  have e2 : (g * 2 ^ k = 2 * (n % g * 2 ^ k)) ↔ (g = 2 * (n % g)) := by
    rw [← Nat.mul_assoc]
    exact Nat.mul_left_inj (by omega)
  simp only [e1, e2]
theorem rnd_one (n : Nat) : rnd n 1 = n := by
  unfold rnd
  rw [Nat.div_one, Nat.mod_one]
  simp
theorem rnd_small {n g : Nat} (h : 2 * n < g) : rnd n g = 0 := by
  unfold rnd
  rw [Nat.div_eq_of_lt (by omega), Nat.mod_eq_of_lt (by omega), if_neg (by omega)]
end Go.Proofs.Qxb6500275aGreatDoor
