import Derived.Test.Qxb6500275aGreatDoorFlb
set_option linter.unusedVariables false
set_option linter.unusedSimpArgs false
namespace Go.Proofs.Qxb6500275aGreatDoor
open Ieee
/- the value of a rung, in units of the least place -/
def rgV (F : Format) (r : Nat) : Nat := if r / 2 ^ F.fractionBits = 0 then r else (2 ^ F.fractionBits + r % 2 ^ F.fractionBits) * 2 ^ (r / 2 ^ F.fractionBits - 1)
theorem rgV_succ (F : Format) (r : Nat) : rgV F r < rgV F (r + 1) := by
  unfold rgV
  obtain ⟨P, hP⟩ : ∃ P, 2 ^ F.fractionBits = P := ⟨_, rfl⟩
  have hP0 : 0 < P := hP ▸ Nat.two_pow_pos _
  rw [hP]
  have hdm := Nat.div_add_mod r P
  have hr := Nat.mod_lt r hP0
  by_cases hc : r % P + 1 < P
  · have e1 : (r + 1) / P = r / P := by
      rw [← hdm, Nat.add_assoc, Nat.mul_add_div hP0, Nat.mul_add_div hP0, Nat.div_eq_of_lt hc, Nat.div_eq_of_lt hr]
    have e2 : (r + 1) % P = r % P + 1 := by
      rw [← hdm, Nat.add_assoc, Nat.mul_add_mod, Nat.mul_add_mod, Nat.mod_eq_of_lt hc, Nat.mod_eq_of_lt hr]
    rw [e1, e2]
    by_cases h0 : r / P = 0
    · rw [if_pos h0, if_pos h0]; omega
    · rw [if_neg h0, if_neg h0]
      exact Nat.mul_lt_mul_of_pos_right (by omega) (Nat.two_pow_pos _)
  · have hl : r % P + 1 = P := by omega
    have e0 : r + 1 = P * (r / P + 1) := by rw [Nat.mul_add]; omega
    have e1 : (r + 1) / P = r / P + 1 := by rw [e0, Nat.mul_div_cancel_left _ hP0]
    have e2 : (r + 1) % P = 0 := by rw [e0, Nat.mul_mod_right]
    rw [e1, e2, if_neg (Nat.succ_ne_zero _)]
    clear e0 e1 e2
    generalize r / P = E at *
    by_cases h0 : E = 0
    · rw [if_pos h0, h0]
      rw [h0] at hdm
      simp
      omega
    · rw [if_neg h0]
      have : 2 ^ (E + 1 - 1) = 2 * 2 ^ (E - 1) := by
        rw [show E + 1 - 1 = (E - 1) + 1 by omega, Nat.pow_succ, Nat.mul_comm]
      rw [this, Nat.add_zero, ← Nat.mul_assoc]
      exact Nat.mul_lt_mul_of_pos_right (by omega) (Nat.two_pow_pos _)
theorem rgV_mono (F : Format) {a b : Nat} (h : a < b) : rgV F a < rgV F b := by
  induction b with
  | zero => omega
  | succ b ih =>
    by_cases hc : a = b
    · subst hc; exact rgV_succ F a
    · exact Nat.lt_trans (ih (by omega)) (rgV_succ F b)
theorem rgV_lt (F : Format) {a b : Nat} : rgV F a < rgV F b ↔ a < b := by
  constructor
  · intro h
    refine Nat.lt_of_not_le fun hle => ?_
    rcases Nat.lt_or_eq_of_le hle with h2 | h2
    · have := rgV_mono F h2; omega
    · subst h2; omega
  · exact rgV_mono F
theorem rgV_eq (F : Format) {a b : Nat} : rgV F a = rgV F b ↔ a = b := by
  constructor
  · intro h
    rcases Nat.lt_trichotomy a b with h2 | h2 | h2
    · have := rgV_mono F h2; omega
    · exact h2
    · have := rgV_mono F h2; omega
  · rintro rfl; rfl
/- a word's place in the order: its rung with its sign -/
def sgR (F : Format) (v : Nat) : Int := if sgB F v = true then -((v % F.signWeight : Nat) : Int) else ((v % F.signWeight : Nat) : Int)
def sgV (F : Format) (v : Nat) : Int := if sgB F v = true then -((rgV F (v % F.signWeight) : Nat) : Int) else ((rgV F (v % F.signWeight) : Nat) : Int)
theorem rgV_zero (F : Format) : rgV F 0 = 0 := by unfold rgV; simp
theorem sgV_cmp (F : Format) (a b : Nat) : compare (sgV F a) (sgV F b) = compare (sgR F a) (sgR F b) := by
  have key : ∀ x y : Nat, (rgV F x < rgV F y ↔ x < y) ∧ (rgV F x = rgV F y ↔ x = y) := fun x y => ⟨rgV_lt F, rgV_eq F⟩
  have h1 := key (a % F.signWeight) (b % F.signWeight)
  have h2 := key 0 (b % F.signWeight)
  have h3 := key 0 (a % F.signWeight)
  rw [rgV_zero] at h2 h3
  have h4 := key (b % F.signWeight) (a % F.signWeight)
  unfold sgV sgR
  generalize rgV F (a % F.signWeight) = x at *
  generalize rgV F (b % F.signWeight) = y at *
  generalize a % F.signWeight = r at *
  generalize b % F.signWeight = s at *
  have c : ∀ p q p' q' : Int, (p < q ↔ p' < q') → (p = q ↔ p' = q') → compare p q = compare p' q' := fun p q p' q' e1 e2 => by
    show compareOfLessAndEq p q = compareOfLessAndEq p' q'
    unfold compareOfLessAndEq
    simp only [e1, e2]
  refine c _ _ _ _ ?_ ?_
  · cases sgB F a <;> cases sgB F b <;> simp <;> omega
  · cases sgB F a <;> cases sgB F b <;> simp <;> omega
end Go.Proofs.Qxb6500275aGreatDoor
