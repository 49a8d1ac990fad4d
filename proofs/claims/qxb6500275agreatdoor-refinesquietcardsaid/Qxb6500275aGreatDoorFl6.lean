import Derived.Test.Qxb6500275aGreatDoorFl5
set_option linter.unusedVariables false
set_option linter.unusedSimpArgs false
namespace Go.Proofs.Qxb6500275aGreatDoor
open Ieee
/- shifted up till bit 'at' is set -/
def liftM (m at_ : Nat) : Nat := m * 2 ^ (at_ - m.log2)
def liftE (m : Nat) (e : Int) (at_ : Nat) : Int := e - ((at_ - m.log2 : Nat) : Int)
theorem liftM_bd {m at_ : Nat} (hm : m ≠ 0) (hl : m.log2 ≤ at_) : 2 ^ at_ ≤ liftM m at_ ∧ liftM m at_ < 2 ^ (at_ + 1) := by
  unfold liftM
  have a1 : 2 ^ m.log2 ≤ m := Nat.log2_self_le hm
  have a2 : m < 2 ^ (m.log2 + 1) := Nat.lt_log2_self
  have hp : 0 < 2 ^ (at_ - m.log2) := Nat.two_pow_pos _
  constructor
  · have := Nat.mul_le_mul_right (2 ^ (at_ - m.log2)) a1
    rw [← Nat.pow_add, show m.log2 + (at_ - m.log2) = at_ by omega] at this
    exact this
  · have := Nat.mul_lt_mul_of_pos_right a2 hp
    rw [← Nat.pow_add, show m.log2 + 1 + (at_ - m.log2) = at_ + 1 by omega] at this
    exact this
/- the value of the lifted one, in units of a lower place -/
theorem lift_val {m at_ : Nat} {e b : Int} (hb : b ≤ liftE m e at_) : liftM m at_ * 2 ^ (liftE m e at_ - b).toNat = m * 2 ^ (e - b).toNat := by
  unfold liftM
  unfold liftE at hb ⊢
  rw [Nat.mul_assoc, ← Nat.pow_add]
  congr 2
  omega
/- the sum of two mantissas of 62 bits, the greater first: its rounding -/
def addCore (F : Format) (bi : Nat) (n1 n2 : Bool) (m1 m2 : Nat) (e1 : Int) (d : Nat) : Nat :=
  let m2' := if 64 ≤ d then 0 else m2 / 2 ^ d
  let sticky := if 64 ≤ d then true else decide (m2 % 2 ^ d ≠ 0)
  if n1 = n2 then softRound F bi n1 (m1 + m2') e1 sticky
  else
    let m := m1 - m2' - (if sticky = true then 1 else 0)
    if m = 0 then 0 else softRound F bi n1 m e1 sticky
theorem add_same {F : Format} {bi : Nat} (hF : Fmt F bi) (n : Bool) {m1 m2 d : Nat} {e1 : Int} (h1 : 2305843009213693952 ≤ m1 ∧ m1 < 4611686018427387904) (h2 : 0 < m2 ∧ m2 < 4611686018427387904) :
    addCore F bi n n m1 m2 e1 d = F.nearest n (m1 * 2 ^ d + m2) (e1 - d) := by
  unfold addCore
  dsimp only
  rw [if_pos rfl]
  symm
  have hdp : 0 < 2 ^ d := Nat.two_pow_pos d
  refine soft_nearest hF n (e := e1) (place := e1 - d) (by omega) ?_
  rw [show (e1 - (e1 - (d : Int))).toNat = d by omega]
  by_cases hd : 64 ≤ d
  · rw [if_pos hd, if_pos hd]
    have : 2 ^ 64 ≤ 2 ^ d := Nat.pow_le_pow_right (by decide) hd
    refine ⟨by omega, by omega, fun e => by simp at e, fun _ => ⟨by omega, by rw [Nat.add_zero]; omega, by rw [Nat.add_zero, Nat.add_mul]; omega⟩⟩
  · rw [if_neg hd, if_neg hd]
    have hq : m2 / 2 ^ d ≤ m2 := Nat.div_le_self _ _
    have hdm := Nat.div_add_mod m2 (2 ^ d)
    rw [Nat.mul_comm] at hdm
    have hr := Nat.mod_lt m2 hdp
    generalize m2 / 2 ^ d = q at *
    generalize m2 % 2 ^ d = r at *
    refine ⟨by omega, by omega, fun e => ?_, fun e => ⟨by omega, ?_⟩⟩
    · have : r = 0 := by simpa using e
      rw [Nat.add_mul]
      omega
    · have : r ≠ 0 := by simpa using e
      rw [Nat.add_mul, Nat.add_mul, Nat.add_mul]
      omega
theorem add_diff {F : Format} {bi : Nat} (hF : Fmt F bi) (n1 n2 : Bool) (hn : n1 ≠ n2) {m1 m2 d : Nat} {e1 : Int} (h1 : 2305843009213693952 ≤ m1 ∧ m1 < 4611686018427387904) (h2 : 0 < m2 ∧ m2 < 4611686018427387904) (h8 : m2 % 512 = 0) (hge : m2 ≤ m1 * 2 ^ d) :
    addCore F bi n1 n2 m1 m2 e1 d = if m1 * 2 ^ d = m2 then 0 else F.nearest n1 (m1 * 2 ^ d - m2) (e1 - d) := by
  unfold addCore
  dsimp only
  rw [if_neg hn]
  have hdp : 0 < 2 ^ d := Nat.two_pow_pos d
  have hm1d : m1 * 1 ≤ m1 * 2 ^ d := Nat.mul_le_mul_left _ hdp
  by_cases hd : 64 ≤ d
  · rw [if_pos hd, if_pos hd, if_pos rfl]
    have h64 : 2 ^ 64 ≤ 2 ^ d := Nat.pow_le_pow_right (by decide) hd
    have h5 : 1 * 2 ^ d ≤ m1 * 2 ^ d := Nat.mul_le_mul_right _ (by omega)
    rw [if_neg (by omega), if_neg (by omega)]
    symm
    refine soft_nearest hF n1 (e := e1) (place := e1 - d) (by omega) ?_
    rw [show (e1 - (e1 - (d : Int))).toNat = d by omega]
    have e1 : (m1 - 0 - 1) * 2 ^ d = m1 * 2 ^ d - 2 ^ d := by rw [Nat.sub_zero, Nat.sub_mul, Nat.one_mul]
    refine ⟨by omega, by omega, fun e => by simp at e, fun _ => ⟨by omega, by omega, ?_⟩⟩
    rw [show m1 - 0 - 1 + 1 = m1 by omega]
    omega
  · rw [if_neg hd, if_neg hd]
    have hdm := Nat.div_add_mod m2 (2 ^ d)
    rw [Nat.mul_comm] at hdm
    have hr := Nat.mod_lt m2 hdp
    have hqm : m2 / 2 ^ d ≤ m1 := by
      have : m2 / 2 ^ d * 2 ^ d ≤ m1 * 2 ^ d := by omega
      exact Nat.le_of_mul_le_mul_right this hdp
    by_cases hst : m2 % 2 ^ d = 0
    · rw [show decide (m2 % 2 ^ d ≠ 0) = false by simp [hst]]
      simp only [Bool.false_eq_true, if_false, Nat.sub_zero]
      by_cases h0 : m1 - m2 / 2 ^ d = 0
      · rw [if_pos h0, if_pos (by
          have : m1 = m2 / 2 ^ d := by omega
          rw [this]; omega)]
      · rw [if_neg h0, if_neg (fun e => h0 (by
          have : m2 / 2 ^ d * 2 ^ d = m1 * 2 ^ d := by omega
          have := Nat.eq_of_mul_eq_mul_right hdp this
          omega))]
        symm
        refine soft_nearest hF n1 (e := e1) (place := e1 - d) (by omega) ?_
        rw [show (e1 - (e1 - (d : Int))).toNat = d by omega]
        generalize m2 / 2 ^ d = q at *
        generalize m2 % 2 ^ d = r at *
        refine ⟨h0, by omega, fun e => by rw [Nat.sub_mul]; omega, fun e => by simp at e⟩
    · rw [show decide (m2 % 2 ^ d ≠ 0) = true by simp [hst]]
      rw [if_pos rfl]
      have hd9 : 10 ≤ d := by
        refine Nat.le_of_not_lt fun hlt => hst ?_
        have : 2 ^ d ∣ 512 := Nat.pow_dvd_pow 2 (show d ≤ 9 by omega)
        have h512 : 512 ∣ m2 := Nat.dvd_of_mod_eq_zero h8
        exact Nat.mod_eq_zero_of_dvd (Nat.dvd_trans this h512)
      have h1024 : 1024 ≤ 2 ^ d := Nat.pow_le_pow_right (n := 2) (by decide) hd9
      have hq : m2 / 2 ^ d ≤ 4503599627370496 := by
        have a : m2 / 2 ^ d * 1024 ≤ m2 / 2 ^ d * 2 ^ d := Nat.mul_le_mul_left _ h1024
        omega
      have hqd : (m2 / 2 ^ d + 1) * 2 ^ d ≤ m1 * 2 ^ d := Nat.mul_le_mul_right _ (by omega)
      rw [Nat.add_mul] at hqd
      rw [if_neg (by omega), if_neg (by omega)]
      symm
      refine soft_nearest hF n1 (e := e1) (place := e1 - d) (by omega) ?_
      rw [show (e1 - (e1 - (d : Int))).toNat = d by omega]
      have ea : (m1 - m2 / 2 ^ d - 1) * 2 ^ d = m1 * 2 ^ d - m2 / 2 ^ d * 2 ^ d - 2 ^ d := by rw [Nat.sub_mul, Nat.sub_mul, Nat.one_mul]
      generalize m2 / 2 ^ d = q at *
      generalize m2 % 2 ^ d = r at *
      refine ⟨by omega, by omega, fun e => by simp at e, fun _ => ⟨by omega, by omega, ?_⟩⟩
      rw [show m1 - q - 1 + 1 = m1 - q by omega, Nat.sub_mul]
      omega
end Go.Proofs.Qxb6500275aGreatDoor
