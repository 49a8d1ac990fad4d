import Derived.Test.Qxb6500275aGreatDoorFlc
set_option linter.unusedVariables false
set_option linter.unusedSimpArgs false
namespace Go.Proofs.Qxb6500275aGreatDoor
open Ieee
section
variable {F : Format} {bi : Nat}
theorem cmp_scale (x y : Int) {c : Int} (hc : 0 < c) : compare (x * c) (y * c) = compare x y := by
  show compareOfLessAndEq (x * c) (y * c) = compareOfLessAndEq x y
  unfold compareOfLessAndEq
  have e1 : (x * c < y * c) ↔ (x < y) := by
    constructor
    · intro h; exact Int.lt_of_mul_lt_mul_right h (Int.le_of_lt hc)
    · intro h; exact Int.mul_lt_mul_of_pos_right h hc
  have e2 : (x * c = y * c) ↔ (x = y) := by
    constructor
    · intro h; exact Int.eq_of_mul_eq_mul_right (by omega) h
    · intro h; rw [h]
  simp only [e1, e2]
/- a number's datum, by its rung -/
theorem Fmt.num (h : Fmt F bi) {v : Nat} (hv : v < 2 * F.signWeight) (he : exB F v ≠ 2 * bi + 1) : ∃ m i, F.read v = .number (sgB F v) m i ∧ F.leastPlace ≤ i ∧ m * 2 ^ (i - F.leastPlace).toNat = rgV F (v % F.signWeight) ∧ v % F.signWeight < F.infRung := by
  have hrd := h.read hv
  have hel := h.ex_lt v
  have hP : 0 < 2 ^ F.fractionBits := Nat.two_pow_pos _
  have hdm : exB F v * 2 ^ F.fractionBits + frB F v = v % F.signWeight := by
    unfold exB frB
    rw [Nat.mul_comm]
    exact Nat.div_add_mod _ _
  have hfl := Fmt.fr_lt F v
  have hlt : v % F.signWeight < F.infRung := by
    rw [h.inf]
    have : (exB F v + 1) * 2 ^ F.fractionBits ≤ (2 * bi + 1) * 2 ^ F.fractionBits := Nat.mul_le_mul_right _ (by omega)
    rw [Nat.add_mul] at this
    omega
  have ex : exB F v = v % F.signWeight / 2 ^ F.fractionBits := rfl
  have fr : frB F v = v % F.signWeight % 2 ^ F.fractionBits := rfl
  rw [h.least]
  by_cases h0 : exB F v = 0
  · rw [if_pos h0] at hrd
    refine ⟨_, _, hrd, by omega, ?_, hlt⟩
    unfold rgV
    rw [← ex, ← fr, if_pos h0, show (1 - (bi : Int) - F.fractionBits - (1 - (bi : Int) - F.fractionBits)).toNat = 0 by omega, Nat.pow_zero, Nat.mul_one, ← hdm, h0]
    omega
  · rw [if_neg h0, if_pos (by omega)] at hrd
    refine ⟨_, _, hrd, by omega, ?_, hlt⟩
    unfold rgV
    rw [← ex, ← fr, if_neg h0]
    congr 2
    omega
theorem Fmt.infd (h : Fmt F bi) {v : Nat} (hv : v < 2 * F.signWeight) (he : exB F v = 2 * bi + 1) (hf : frB F v = 0) : F.read v = .infinity (sgB F v) ∧ v % F.signWeight = F.infRung := by
  have hrd := h.read hv
  rw [if_neg (by omega), if_neg (by omega), if_pos hf] at hrd
  refine ⟨hrd, ?_⟩
  have hdm : exB F v * 2 ^ F.fractionBits + frB F v = v % F.signWeight := by
    unfold exB frB
    rw [Nat.mul_comm]
    exact Nat.div_add_mod _ _
  rw [h.inf, ← hdm, he, hf, Nat.add_zero]
/- THE ORDER OF TWO WORDS THAT ARE NO NaN -/
def isN (F : Format) (bi v : Nat) : Prop := exB F v = 2 * bi + 1 ∧ frB F v ≠ 0
theorem soft_order (hF : Fmt F bi) {a b : Nat} (ha : a < 2 * F.signWeight) (hb : b < 2 * F.signWeight) (na : ¬ isN F bi a) (nb : ¬ isN F bi b) : F.order a b = some (compare (sgR F a) (sgR F b)) := by
  unfold Format.order
  have hb1 := hF.b1
  have hinf : 0 < F.infRung := by rw [hF.inf]; exact Nat.mul_pos (by omega) (Nat.two_pow_pos _)
  by_cases ea : exB F a = 2 * bi + 1
  · have fa : frB F a = 0 := by
      refine Classical.byContradiction fun e => na ⟨ea, e⟩
    obtain ⟨r1, v1⟩ := hF.infd ha ea fa
    rw [r1]
    by_cases eb : exB F b = 2 * bi + 1
    · have fb : frB F b = 0 := by
        refine Classical.byContradiction fun e => nb ⟨eb, e⟩
      obtain ⟨r2, v2⟩ := hF.infd hb eb fb
      rw [r2]
      unfold sgR
      rw [v1, v2]
      simp only [Datum.order]
      congr 1
      generalize F.infRung = I at *
      cases sgB F a <;> cases sgB F b
      · simp
      · simp only [Bool.false_eq_true, if_false, if_true]
        show compareOfLessAndEq _ _ = compareOfLessAndEq _ _
        unfold compareOfLessAndEq
        rw [if_neg (by decide), if_neg (by decide), if_neg (by omega), if_neg (by omega)]
      · simp only [Bool.false_eq_true, if_false, if_true]
        show compareOfLessAndEq _ _ = compareOfLessAndEq _ _
        unfold compareOfLessAndEq
        rw [if_pos (by decide), if_pos (by omega)]
      · simp
    · obtain ⟨m, i, r2, _, _, v2⟩ := hF.num hb eb
      rw [r2]
      unfold sgR
      rw [v1]
      simp only [Datum.order]
      congr 1
      show _ = compareOfLessAndEq _ _
      unfold compareOfLessAndEq
      cases sgB F a
      · simp only [Bool.false_eq_true, if_false]
        rw [if_neg (by split <;> omega), if_neg (by split <;> omega)]
      · simp only [if_true]
        rw [if_pos (by split <;> omega)]
  · obtain ⟨m, i, r1, hi, g1, v1⟩ := hF.num ha ea
    rw [r1]
    by_cases eb : exB F b = 2 * bi + 1
    · have fb : frB F b = 0 := by
        refine Classical.byContradiction fun e => nb ⟨eb, e⟩
      obtain ⟨r2, v2⟩ := hF.infd hb eb fb
      rw [r2]
      unfold sgR
      rw [v2]
      simp only [Datum.order]
      congr 1
      show _ = compareOfLessAndEq _ _
      unfold compareOfLessAndEq
      cases sgB F b
      · simp only [Bool.false_eq_true, if_false]
        rw [if_pos (by split <;> omega)]
      · simp only [if_true]
        rw [if_neg (by split <;> omega), if_neg (by split <;> omega)]
    · obtain ⟨n, j, r2, hj, g2, v2⟩ := hF.num hb eb
      rw [r2]
      simp only [Datum.order]
      congr 1
      rw [← sgV_cmp]
      have hp : (0 : Int) < ((2 ^ (min i j - F.leastPlace).toNat : Nat) : Int) := by exact_mod_cast Nat.two_pow_pos _
      rw [← cmp_scale _ _ hp]
      have key : ∀ (s : Bool) (m : Nat) (i k : Int), F.leastPlace ≤ k → k ≤ i → signed s m (i - k).toNat * ((2 ^ (k - F.leastPlace).toNat : Nat) : Int) = if s = true then -((m * 2 ^ (i - F.leastPlace).toNat : Nat) : Int) else ((m * 2 ^ (i - F.leastPlace).toNat : Nat) : Int) := by
        intro s m i k h1 h2
        unfold signed
        have e : (m <<< (i - k).toNat) * 2 ^ (k - F.leastPlace).toNat = m * 2 ^ (i - F.leastPlace).toNat := by
          rw [Nat.shiftLeft_eq, Nat.mul_assoc, ← Nat.pow_add]
          congr 2
          omega
        rw [← e]
        cases s
        · simp
        · simp [Int.neg_mul]
      rw [key _ m i _ (by omega) (by omega), key _ n j _ (by omega) (by omega), g1, g2]
      rfl
end
end Go.Proofs.Qxb6500275aGreatDoor
