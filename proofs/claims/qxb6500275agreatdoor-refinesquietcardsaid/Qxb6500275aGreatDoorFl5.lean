import Derived.Test.Qxb6500275aGreatDoorFl4
set_option linter.unusedVariables false
set_option linter.unusedSimpArgs false
namespace Go.Proofs.Qxb6500275aGreatDoor
open Ieee
section
variable {F : Format} {bi : Nat}
theorem Fmt.sw0 (h : Fmt F bi) : 0 < F.signWeight := by rw [h.sw]; exact Nat.mul_pos (by omega) (Nat.two_pow_pos _)
theorem Fmt.fr_lt (F : Format) (v : Nat) : frB F v < 2 ^ F.fractionBits := Nat.mod_lt _ (Nat.two_pow_pos _)
theorem Fmt.ex_lt (h : Fmt F bi) (v : Nat) : exB F v < 2 * bi + 2 := by
  unfold exB
  have hP : 0 < 2 ^ F.fractionBits := Nat.two_pow_pos _
  rw [Nat.div_lt_iff_lt_mul hP]
  have h2 : F.signWeight = (2 * bi + 2) * 2 ^ F.fractionBits := by rw [h.sw]; congr 1
  rw [← h2]
  exact Nat.mod_lt _ h.sw0
/- a word is its sign and its rung -/
theorem word_back (h : Fmt F bi) {v : Nat} (hv : v < 2 * F.signWeight) : F.word (sgB F v) (exB F v * 2 ^ F.fractionBits + frB F v) = v := by
  have hr : exB F v * 2 ^ F.fractionBits + frB F v = v % F.signWeight := by
    unfold exB frB
    rw [Nat.mul_comm]
    exact Nat.div_add_mod _ _
  rw [hr]
  unfold Format.word sgB
  by_cases hc : F.signWeight ≤ v
  · rw [decide_eq_true hc, if_pos rfl]
    have : v % F.signWeight = v - F.signWeight := by rw [Nat.mod_eq_sub_mod hc, Nat.mod_eq_of_lt (by omega)]
    omega
  · rw [decide_eq_false hc, if_neg (by simp)]
    exact Nat.mod_eq_of_lt (by omega)
/- what the format has is written as it was read -/
theorem nearest_norm (h : Fmt F bi) (neg : Bool) {E fr : Nat} (hE : 1 ≤ E ∧ E < 2 * bi + 1) (hf : fr < 2 ^ F.fractionBits) : F.nearest neg (2 ^ F.fractionBits + fr) ((E : Int) - bi - F.fractionBits) = F.word neg (E * 2 ^ F.fractionBits + fr) := by
  have hP : 0 < 2 ^ F.fractionBits := Nat.two_pow_pos _
  have hlog : (2 ^ F.fractionBits + fr).log2 = F.fractionBits := by
    have a0 : 2 ^ F.fractionBits + fr ≠ 0 := by omega
    have a1 := (Nat.le_log2 (k := F.fractionBits) a0).2 (by omega)
    have a2 := (Nat.log2_lt (k := F.fractionBits + 1) a0).2 (by rw [Nat.pow_succ]; omega)
    omega
  unfold Format.nearest
  rw [if_neg (by omega), hlog, h.least]
  dsimp only
  rw [show max ((E : Int) - bi - F.fractionBits + (F.fractionBits : Int) - (F.fractionBits : Int)) (1 - (bi : Int) - F.fractionBits) = (E : Int) - bi - F.fractionBits by rw [Int.max_eq_left (by omega)]; omega]
  rw [cut_rnd, Nat.shiftLeft_eq, show ((E : Int) - bi - F.fractionBits - ((E : Int) - bi - F.fractionBits)).toNat = 0 by omega, Nat.pow_zero, Nat.mul_one, rnd_one, h.inf]
  rw [show ((E : Int) - bi - F.fractionBits - (1 - (bi : Int) - F.fractionBits)).toNat = E - 1 by omega]
  have hbin : F.binade = 2 ^ F.fractionBits := rfl
  rw [hbin]
  generalize 2 ^ F.fractionBits = P at *
  have e1 : (E - 1) * P + P = E * P := by rw [← Nat.succ_mul]; congr 1; omega
  have e2 : (E + 1) * P ≤ (2 * bi + 1) * P := Nat.mul_le_mul_right _ (by omega)
  rw [Nat.add_mul] at e2
  rw [Nat.min_eq_left (by omega)]
  congr 1
  omega
theorem nearest_sub (h : Fmt F bi) (neg : Bool) {fr : Nat} (hf : fr < 2 ^ F.fractionBits) : F.nearest neg fr (1 - (bi : Int) - F.fractionBits) = F.word neg fr := by
  have hP : 0 < 2 ^ F.fractionBits := Nat.two_pow_pos _
  unfold Format.nearest
  by_cases h0 : fr = 0
  · rw [if_pos h0, h0]
  have a2 := (Nat.log2_lt (k := F.fractionBits) h0).2 hf
  rw [if_neg h0, h.least]
  dsimp only
  rw [Int.max_eq_right (by omega), cut_rnd, Nat.shiftLeft_eq, show (1 - (bi : Int) - F.fractionBits - (1 - (bi : Int) - F.fractionBits)).toNat = 0 by omega, Nat.pow_zero, Nat.mul_one, rnd_one, Nat.zero_mul, Nat.zero_add, h.inf]
  have e2 : 1 * 2 ^ F.fractionBits ≤ (2 * bi + 1) * 2 ^ F.fractionBits := Nat.mul_le_mul_right _ (by omega)
  rw [Nat.min_eq_left (by omega)]
/- unpack: sign, kind (0 zero, 1 finite, 2 infinite, 3 NaN), mantissa, place -/
def unpS (F : Format) (bi v : Nat) : Bool × Nat × Nat × Int :=
  if exB F v = 2 * bi + 1 then (if frB F v = 0 then (sgB F v, 2, 0, 0) else (sgB F v, 3, 0, 0))
  else if exB F v = 0 then (if frB F v = 0 then (sgB F v, 0, 0, 0) else (sgB F v, 1, frB F v, 1 - (bi : Int) - F.fractionBits))
  else (sgB F v, 1, 2 ^ F.fractionBits + frB F v, (exB F v : Int) - bi - F.fractionBits)
/- what an unpacked word is to IEEE -/
structure Unp (F : Format) (bi v : Nat) (n : Bool) (k m : Nat) (e : Int) : Prop where
  k3 : k ≤ 3
  z : k = 0 → (∃ i, F.read v = .number n 0 i) ∧ F.word n 0 = v
  f : k = 1 → F.read v = .number n m e ∧ m ≠ 0 ∧ m < 2 ^ (F.fractionBits + 1) ∧ (∀ nn, F.nearest nn m e = F.word nn (v % F.signWeight)) ∧ F.word n (v % F.signWeight) = v
  i : k = 2 → F.read v = .infinity n ∧ F.word n F.infRung = v
  n : k = 3 → ∃ t, F.read v = .nan n t
theorem unp_ok (h : Fmt F bi) {v : Nat} (hv : v < 2 * F.signWeight) : Unp F bi v (unpS F bi v).1 (unpS F bi v).2.1 (unpS F bi v).2.2.1 (unpS F bi v).2.2.2 := by
  have hrd := h.read hv
  have hw := word_back h hv
  have hfl := Fmt.fr_lt F v
  have hel := h.ex_lt v
  have hP : 0 < 2 ^ F.fractionBits := Nat.two_pow_pos _
  have hp2 : 2 ^ (F.fractionBits + 1) = 2 * 2 ^ F.fractionBits := by rw [Nat.pow_succ, Nat.mul_comm]
  have hmod : exB F v * 2 ^ F.fractionBits + frB F v = v % F.signWeight := by
    unfold exB frB
    rw [Nat.mul_comm]
    exact Nat.div_add_mod _ _
  unfold unpS
  by_cases h1 : exB F v = 2 * bi + 1
  · rw [if_pos h1]
    rw [if_neg (by omega), if_neg (by omega)] at hrd
    by_cases h2 : frB F v = 0
    · rw [if_pos h2] at hrd ⊢
      refine ⟨by simp, fun e => by simp at e, fun e => by simp at e, fun _ => ⟨hrd, ?_⟩, fun e => by simp at e⟩
      rw [h.inf, ← h1]
      rw [h2, Nat.add_zero] at hw
      exact hw
    · rw [if_neg h2] at hrd ⊢
      exact ⟨by simp, fun e => by simp at e, fun e => by simp at e, fun e => by simp at e, fun _ => ⟨_, hrd⟩⟩
  · rw [if_neg h1]
    by_cases h0 : exB F v = 0
    · rw [if_pos h0] at hrd ⊢
      rw [h0, Nat.zero_mul, Nat.zero_add] at hw hmod
      by_cases h2 : frB F v = 0
      · rw [if_pos h2]
        rw [h2] at hrd hw
        exact ⟨by simp, fun _ => ⟨⟨_, hrd⟩, hw⟩, fun e => by simp at e, fun e => by simp at e, fun e => by simp at e⟩
      · rw [if_neg h2]
        refine ⟨by simp, fun e => by simp at e, fun _ => ⟨hrd, h2, by dsimp only; omega, fun nn => ?_, by rw [← hmod]; exact hw⟩, fun e => by simp at e, fun e => by simp at e⟩
        rw [nearest_sub h nn hfl, ← hmod]
    · rw [if_neg h0] at hrd ⊢
      rw [if_pos (by omega)] at hrd
      refine ⟨by simp, fun e => by simp at e, fun _ => ⟨hrd, by dsimp only; omega, by dsimp only; omega, fun nn => ?_, by rw [← hmod]; exact hw⟩, fun e => by simp at e, fun e => by simp at e⟩
      rw [nearest_norm h nn (by omega) hfl, hmod]
end
end Go.Proofs.Qxb6500275aGreatDoor
