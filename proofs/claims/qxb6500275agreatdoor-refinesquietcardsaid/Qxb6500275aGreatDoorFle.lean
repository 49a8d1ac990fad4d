import Derived.Test.Qxb6500275aGreatDoorFld
set_option linter.unusedVariables false
set_option linter.unusedSimpArgs false
namespace Go.Proofs.Qxb6500275aGreatDoor
open Ieee
section
variable {F : Format} {bi : Nat}
/- WHOLE NUMBERS AS FLOATS: the rung of the whole number q (up to twice the binade) -/
def rungI (F : Format) (bi q : Nat) : Nat := if q = 0 then 0 else (bi + q.log2) * 2 ^ F.fractionBits + (q * 2 ^ F.fractionBits / 2 ^ q.log2 - 2 ^ F.fractionBits)
/- by the exponent: 2 ^ k <= q <= 2 ^ (k + 1) -/
theorem rungI_at {q k : Nat} (h1 : 2 ^ k ≤ q) (h2 : q ≤ 2 ^ (k + 1)) (hk : k ≤ F.fractionBits) : rungI F bi q = (bi + k) * 2 ^ F.fractionBits + (q * 2 ^ (F.fractionBits - k) - 2 ^ F.fractionBits) := by
  have hkp : 0 < 2 ^ k := Nat.two_pow_pos k
  have hq : q ≠ 0 := by omega
  have hsplit : 2 ^ F.fractionBits = 2 ^ (F.fractionBits - k) * 2 ^ k := by rw [← Nat.pow_add]; congr 1; omega
  unfold rungI
  rw [if_neg hq]
  by_cases hc : q = 2 ^ (k + 1)
  · have hl : q.log2 = k + 1 := by rw [hc, Nat.log2_two_pow]
    rw [hl, hc]
    rw [Nat.mul_comm (2 ^ (k + 1)), Nat.mul_div_cancel _ (Nat.two_pow_pos _), Nat.sub_self, Nat.add_zero]
    have e1 : 2 ^ (k + 1) * 2 ^ (F.fractionBits - k) = 2 * 2 ^ F.fractionBits := by
      rw [hsplit, Nat.pow_succ, Nat.mul_comm (2 ^ k) 2, Nat.mul_assoc, Nat.mul_comm (2 ^ k)]
    rw [e1, ← Nat.add_assoc, Nat.add_mul (bi + k), Nat.one_mul]
    omega
  · have hl : q.log2 = k := by
      have a1 := (Nat.le_log2 (k := k) hq).2 h1
      have a2 := (Nat.log2_lt (k := k + 1) hq).2 (by omega)
      omega
    rw [hl]
    congr 2
    rw [hsplit, ← Nat.mul_assoc, Nat.mul_div_cancel _ hkp]
theorem rgV_int (hF : Fmt F bi) {q : Nat} (h : q ≤ 2 ^ (F.fractionBits + 1)) : rgV F (rungI F bi q) = q * 2 ^ (bi + F.fractionBits - 1) := by
  have hb1 := hF.b1
  by_cases hq : q = 0
  · subst hq; unfold rungI; rw [if_pos rfl, rgV_zero, Nat.zero_mul]
  obtain ⟨k, hk, h1, h2⟩ : ∃ k, k ≤ F.fractionBits + 1 ∧ 2 ^ k ≤ q ∧ q < 2 ^ (k + 1) := by
    refine ⟨q.log2, ?_, Nat.log2_self_le hq, Nat.lt_log2_self⟩
    have : q < 2 ^ (F.fractionBits + 2) := by rw [show F.fractionBits + 2 = (F.fractionBits + 1) + 1 by omega, Nat.pow_succ]; have := Nat.two_pow_pos (F.fractionBits + 1); omega
    have := (Nat.log2_lt hq).2 this
    omega
  have hP0 : 0 < 2 ^ F.fractionBits := Nat.two_pow_pos _
  by_cases hk2 : k ≤ F.fractionBits
  · rw [rungI_at h1 (Nat.le_of_lt h2) hk2]
    have hsplit : 2 ^ F.fractionBits = 2 ^ k * 2 ^ (F.fractionBits - k) := by rw [← Nat.pow_add]; congr 1; omega
    have b1 : 2 ^ F.fractionBits ≤ q * 2 ^ (F.fractionBits - k) := by rw [hsplit]; exact Nat.mul_le_mul_right _ h1
    have b2 : q * 2 ^ (F.fractionBits - k) < 2 * 2 ^ F.fractionBits := by
      have := Nat.mul_lt_mul_of_pos_right h2 (Nat.two_pow_pos (F.fractionBits - k))
      rw [Nat.pow_succ, Nat.mul_right_comm, ← hsplit] at this
      omega
    unfold rgV
    generalize hM : q * 2 ^ (F.fractionBits - k) = M at *
    have e1 : ((bi + k) * 2 ^ F.fractionBits + (M - 2 ^ F.fractionBits)) / 2 ^ F.fractionBits = bi + k := by
      rw [Nat.mul_comm, Nat.mul_add_div hP0, Nat.div_eq_of_lt (by omega), Nat.add_zero]
    have e2 : ((bi + k) * 2 ^ F.fractionBits + (M - 2 ^ F.fractionBits)) % 2 ^ F.fractionBits = M - 2 ^ F.fractionBits := by
      rw [Nat.mul_comm, Nat.mul_add_mod, Nat.mod_eq_of_lt (by omega)]
    rw [e1, e2, if_neg (by omega), show 2 ^ F.fractionBits + (M - 2 ^ F.fractionBits) = M by omega, ← hM, Nat.mul_assoc, ← Nat.pow_add]
    congr 2
    omega
  · have hkk : k = F.fractionBits + 1 := by omega
    have hqq : q = 2 ^ (F.fractionBits + 1) := by rw [hkk] at h1; omega
    rw [rungI_at (k := F.fractionBits) (by rw [hqq, Nat.pow_succ]; omega) h (Nat.le_refl _)]
    rw [Nat.sub_self, Nat.pow_zero, Nat.mul_one]
    rw [hqq]
    unfold rgV
    have e0 : (bi + F.fractionBits) * 2 ^ F.fractionBits + (2 ^ (F.fractionBits + 1) - 2 ^ F.fractionBits) = (bi + F.fractionBits + 1) * 2 ^ F.fractionBits := by
      rw [Nat.add_mul _ 1, Nat.pow_succ]; omega
    rw [e0, Nat.mul_div_cancel _ hP0, Nat.mul_mod_left, if_neg (by omega), Nat.add_zero, ← Nat.pow_add, ← Nat.pow_add]
    congr 1
    omega
theorem rungI_lt (hF : Fmt F bi) {q : Nat} (hbig : F.fractionBits + 2 ≤ bi) (h : q ≤ 2 ^ (F.fractionBits + 1)) : rungI F bi q < F.infRung := by
  have hP0 : 0 < 2 ^ F.fractionBits := Nat.two_pow_pos _
  rw [hF.inf]
  by_cases hq : q = 0
  · subst hq; unfold rungI; rw [if_pos rfl]; exact Nat.mul_pos (by omega) hP0
  unfold rungI
  rw [if_neg hq]
  have hl : q.log2 ≤ F.fractionBits + 1 := by
    have : q < 2 ^ (F.fractionBits + 2) := by rw [show F.fractionBits + 2 = (F.fractionBits + 1) + 1 by omega, Nat.pow_succ]; have := Nat.two_pow_pos (F.fractionBits + 1); omega
    have := (Nat.log2_lt hq).2 this
    omega
  have h3 : q * 2 ^ F.fractionBits / 2 ^ q.log2 < 2 * 2 ^ F.fractionBits := by
    rw [Nat.div_lt_iff_lt_mul (Nat.two_pow_pos _), Nat.mul_right_comm, ← Nat.mul_comm (2 ^ q.log2), ← Nat.pow_succ]
    exact Nat.mul_lt_mul_of_pos_right Nat.lt_log2_self hP0
  have h4 : (bi + q.log2 + 1) * 2 ^ F.fractionBits ≤ (2 * bi + 1) * 2 ^ F.fractionBits := Nat.mul_le_mul_right _ (by omega)
  rw [Nat.add_mul _ 1] at h4
  omega
/- a whole number rounded: itself -/
theorem nearest_int (hF : Fmt F bi) (hbig : F.fractionBits + 2 ≤ bi) (s : Bool) {q : Nat} (h : q ≤ 2 ^ (F.fractionBits + 1)) : F.nearest s q 0 = F.word s (rungI F bi q) := by
  by_cases hq : q = 0
  · subst hq; rw [nearest_zero]; unfold rungI; rw [if_pos rfl]
  have hP0 : 0 < 2 ^ F.fractionBits := Nat.two_pow_pos _
  obtain ⟨k, hk, h1, h2⟩ : ∃ k, k ≤ F.fractionBits + 1 ∧ 2 ^ k ≤ q ∧ q < 2 ^ (k + 1) := by
    refine ⟨q.log2, ?_, Nat.log2_self_le hq, Nat.lt_log2_self⟩
    have : q < 2 ^ (F.fractionBits + 2) := by rw [show F.fractionBits + 2 = (F.fractionBits + 1) + 1 by omega, Nat.pow_succ]; have := Nat.two_pow_pos (F.fractionBits + 1); omega
    have := (Nat.log2_lt hq).2 this
    omega
  by_cases hk2 : k ≤ F.fractionBits
  · rw [rungI_at h1 (Nat.le_of_lt h2) hk2, ← nearest_scale F s q 0 (F.fractionBits - k)]
    have hsplit : 2 ^ F.fractionBits = 2 ^ k * 2 ^ (F.fractionBits - k) := by rw [← Nat.pow_add]; congr 1; omega
    have b1 : 2 ^ F.fractionBits ≤ q * 2 ^ (F.fractionBits - k) := by rw [hsplit]; exact Nat.mul_le_mul_right _ h1
    have b2 : q * 2 ^ (F.fractionBits - k) < 2 * 2 ^ F.fractionBits := by
      have := Nat.mul_lt_mul_of_pos_right h2 (Nat.two_pow_pos (F.fractionBits - k))
      rw [Nat.pow_succ, Nat.mul_right_comm, ← hsplit] at this
      omega
    generalize q * 2 ^ (F.fractionBits - k) = M at *
    have := nearest_norm hF s (E := bi + k) (fr := M - 2 ^ F.fractionBits) (by omega) (by omega)
    rw [← this, show 2 ^ F.fractionBits + (M - 2 ^ F.fractionBits) = M by omega]
    congr 1
    omega
  · have hkk : k = F.fractionBits + 1 := by omega
    have hqq : q = 2 ^ (F.fractionBits + 1) := by rw [hkk] at h1; omega
    rw [rungI_at (k := F.fractionBits) (by rw [hqq, Nat.pow_succ]; omega) h (Nat.le_refl _), Nat.sub_self, Nat.pow_zero, Nat.mul_one]
    have e0 : (bi + F.fractionBits) * 2 ^ F.fractionBits + (q - 2 ^ F.fractionBits) = (bi + F.fractionBits + 1) * 2 ^ F.fractionBits + 0 := by
      rw [Nat.add_mul _ 1, hqq, Nat.pow_succ]; omega
    have := nearest_norm hF s (E := bi + F.fractionBits + 1) (fr := 0) (by omega) (by omega)
    rw [e0, ← this, hqq]
    have e1 : (2 : Nat) ^ (F.fractionBits + 1) = 2 ^ F.fractionBits * 2 ^ 1 := by rw [Nat.pow_succ, Nat.pow_one]
    rw [e1, Nat.add_zero]
    have := nearest_scale F s (2 ^ F.fractionBits) 1 1
    rw [show ((1 : Int) - (1 : Nat)) = 0 by omega] at this
    rw [this]
    congr 1
    omega
theorem word_lt (hF : Fmt F bi) (s : Bool) {r : Nat} (h : r < F.signWeight) : F.word s r < 2 * F.signWeight ∧ sgB F (F.word s r) = s ∧ F.word s r % F.signWeight = r := by
  unfold Format.word sgB
  cases s
  · simp only [Bool.false_eq_true, if_false]
    exact ⟨by omega, decide_eq_false (by omega), Nat.mod_eq_of_lt h⟩
  · simp only [if_true]
    exact ⟨by omega, decide_eq_true (by omega), by rw [Nat.add_mod_left, Nat.mod_eq_of_lt h]⟩
theorem inf_sw (hF : Fmt F bi) : F.infRung < F.signWeight := by
  rw [hF.inf, hF.sw]
  exact Nat.mul_lt_mul_of_pos_right (by omega) (Nat.two_pow_pos _)
/- what a rung below the infinity is as a datum -/
theorem read_rung (hF : Fmt F bi) (s : Bool) {r : Nat} (h : r < F.infRung) : ∃ m i, F.read (F.word s r) = .number s m i ∧ F.leastPlace ≤ i ∧ m * 2 ^ (i - F.leastPlace).toNat = rgV F r := by
  obtain ⟨w1, w2, w3⟩ := word_lt hF s (r := r) (by have := inf_sw hF; omega)
  have hne : exB F (F.word s r) ≠ 2 * bi + 1 := by
    unfold exB
    rw [w3]
    intro e
    have := Nat.div_mul_le_self r (2 ^ F.fractionBits)
    rw [e, ← hF.inf] at this
    omega
  obtain ⟨m, i, e1, e2, e3, _⟩ := hF.num w1 hne
  rw [w2] at e1
  rw [w3] at e3
  exact ⟨m, i, e1, e2, e3⟩
/- sums of rungs, by their values -/
theorem sum_rung (hF : Fmt F bi) (s t : Bool) {a b : Nat} (ha : a < F.infRung) (hb : b < F.infRung) : F.add (F.word s a) (F.word t b) = some (totW F s t (tot s t (rgV F a) (rgV F b)) F.leastPlace) := by
  obtain ⟨m, i, e1, e2, e3⟩ := read_rung hF s ha
  obtain ⟨n, j, f1, f2, f3⟩ := read_rung hF t hb
  unfold Format.add
  rw [e1, f1, sum_at F s t m n i j F.leastPlace e2 f2, e3, f3]
theorem least_K (hF : Fmt F bi) : F.leastPlace = 0 - ((bi + F.fractionBits - 1 : Nat) : Int) := by
  have := hF.b1
  rw [hF.least]; omega
theorem add_int (hF : Fmt F bi) (hbig : F.fractionBits + 2 ≤ bi) (s : Bool) {a b : Nat} (h : a + b ≤ 2 ^ (F.fractionBits + 1)) : F.add (F.word s (rungI F bi a)) (F.word s (rungI F bi b)) = some (F.word s (rungI F bi (a + b))) := by
  rw [sum_rung hF s s (rungI_lt hF hbig (by omega)) (rungI_lt hF hbig (by omega)), rgV_int hF (by omega), rgV_int hF (by omega), ← nearest_int hF hbig s h]
  rw [← nearest_scale F s (a + b) 0 (bi + F.fractionBits - 1), ← least_K hF]
  have hp := Nat.two_pow_pos (bi + F.fractionBits - 1)
  generalize 2 ^ (bi + F.fractionBits - 1) = K at *
  congr 1
  have hz : ∀ x : Nat, 0 ≤ x * K := fun x => Nat.zero_le _
  rw [Nat.add_mul]
  generalize a * K = A
  generalize b * K = B
  unfold totW tot
  cases s
  · simp only [Bool.false_eq_true, if_false, Bool.and_self]
    have e : (A : Int) + B = ((A + B : Nat) : Int) := by omega
    rw [e, Int.natAbs_natCast]
    congr 1
    by_cases h0 : ((A + B : Nat) : Int) = 0
    · rw [if_pos h0]
    · rw [if_neg h0]; exact decide_eq_false (by omega)
  · simp only [if_true, Bool.and_self]
    have e : -(A : Int) + -(B : Int) = -((A + B : Nat) : Int) := by omega
    rw [e, Int.natAbs_neg, Int.natAbs_natCast]
    congr 1
    by_cases h0 : -((A + B : Nat) : Int) = 0
    · rw [if_pos h0]
    · rw [if_neg h0]; exact decide_eq_true (by omega)
theorem dif_int (hF : Fmt F bi) (hbig : F.fractionBits + 2 ≤ bi) {a b : Nat} (h : a ≤ 2 ^ (F.fractionBits + 1)) (hb : b ≤ a) : F.add (F.word false (rungI F bi a)) (F.word true (rungI F bi b)) = some (F.word false (rungI F bi (a - b))) := by
  rw [sum_rung hF false true (rungI_lt hF hbig (by omega)) (rungI_lt hF hbig (by omega)), rgV_int hF (by omega), rgV_int hF (by omega), ← nearest_int hF hbig false (by omega)]
  rw [← nearest_scale F false (a - b) 0 (bi + F.fractionBits - 1), ← least_K hF]
  generalize 2 ^ (bi + F.fractionBits - 1) = K at *
  congr 1
  have : b * K ≤ a * K := Nat.mul_le_mul_right _ hb
  rw [Nat.sub_mul]
  generalize a * K = A at *
  generalize b * K = B at *
  unfold totW tot
  simp only [Bool.false_eq_true, if_false, if_true, Bool.false_and]
  congr 1
  · split
    · rfl
    · exact decide_eq_false (by omega)
  · omega
end
end Go.Proofs.Qxb6500275aGreatDoor
