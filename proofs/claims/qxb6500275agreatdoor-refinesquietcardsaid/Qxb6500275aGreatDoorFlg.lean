import Derived.Test.Qxb6500275aGreatDoorFlf
set_option linter.unusedVariables false
set_option linter.unusedSimpArgs false
namespace Go.Proofs.Qxb6500275aGreatDoor
open Ieee
section
variable {F : Format} {bi : Nat}
theorem rnd_add (a n g : Nat) (hg : 0 < g) (ha : a % 2 = 0) : rnd (a * g + n) g = a + rnd n g := by
  unfold rnd
  have e1 : (a * g + n) / g = a + n / g := by rw [Nat.mul_comm, Nat.mul_add_div hg]
  have e2 : (a * g + n) % g = n % g := by rw [Nat.mul_comm, Nat.mul_add_mod]
  have e3 : (a + n / g) % 2 = n / g % 2 := by omega
  rw [e1, e2, e3, Nat.add_assoc]
theorem rnd_le {n g q : Nat} (hg : 0 < g) (h : n < q * g) : rnd n g ≤ q := by
  unfold rnd
  have : n / g < q := by rw [Nat.div_lt_iff_lt_mul hg]; exact h
  split <;> omega
/- a number below the binade and the binade's own: rounded to a whole number -/
theorem near_up (hF : Fmt F bi) (hbig : F.fractionBits + 2 ≤ bi) {body : Nat} (hv : rgV F body < 2 ^ F.fractionBits * 2 ^ (bi + F.fractionBits - 1)) (hi : body < F.infRung) :
    F.add (F.word false body) (F.word false (rungI F bi (2 ^ F.fractionBits))) = some (F.word false (rungI F bi (2 ^ F.fractionBits + rnd (rgV F body) (2 ^ (bi + F.fractionBits - 1))))) := by
  have hfb := hF.fb
  have hp1 : 2 ^ (F.fractionBits + 1) = 2 * 2 ^ F.fractionBits := by rw [Nat.pow_succ, Nat.mul_comm]
  have hP0 : 0 < 2 ^ F.fractionBits := Nat.two_pow_pos _
  rw [sum_rung hF false false hi (rungI_lt hF hbig (by omega)), rgV_int hF (by omega)]
  congr 1
  have hK0 : 0 < 2 ^ (bi + F.fractionBits - 1) := Nat.two_pow_pos _
  have hr := rnd_le hK0 hv
  have htot : totW F false false (tot false false (rgV F body) (2 ^ F.fractionBits * 2 ^ (bi + F.fractionBits - 1))) F.leastPlace = F.nearest false (2 ^ F.fractionBits * 2 ^ (bi + F.fractionBits - 1) + rgV F body) F.leastPlace := by
    have hpos : 0 < 2 ^ F.fractionBits * 2 ^ (bi + F.fractionBits - 1) := Nat.mul_pos hP0 hK0
    generalize 2 ^ F.fractionBits * 2 ^ (bi + F.fractionBits - 1) = B at *
    unfold totW tot
    simp only [Bool.false_eq_true, if_false]
    rw [show ((rgV F body : Int) + (B : Int)) = ((B + rgV F body : Nat) : Int) by omega, Int.natAbs_natCast, if_neg (by omega), decide_eq_false (by omega)]
  rw [htot]
  have hlog : (2 ^ F.fractionBits * 2 ^ (bi + F.fractionBits - 1) + rgV F body).log2 = F.fractionBits + (bi + F.fractionBits - 1) := by
    have hne : 2 ^ F.fractionBits * 2 ^ (bi + F.fractionBits - 1) + rgV F body ≠ 0 := by
      have := Nat.mul_pos hP0 hK0
      omega
    have a1 := (Nat.le_log2 (k := F.fractionBits + (bi + F.fractionBits - 1)) hne).2 (by rw [Nat.pow_add]; omega)
    have a2 := (Nat.log2_lt (k := F.fractionBits + (bi + F.fractionBits - 1) + 1) hne).2 (by rw [Nat.pow_succ, Nat.pow_add]; omega)
    omega
  have hkp : rnd (2 ^ F.fractionBits * 2 ^ (bi + F.fractionBits - 1) + rgV F body) (2 ^ (bi + F.fractionBits - 1)) = 2 ^ F.fractionBits + rnd (rgV F body) (2 ^ (bi + F.fractionBits - 1)) := by
    refine rnd_add _ _ _ hK0 ?_
    rw [show F.fractionBits = (F.fractionBits - 1) + 1 by omega, Nat.pow_succ, Nat.mul_mod_left]
  have hne : ¬ 2 ^ F.fractionBits * 2 ^ (bi + F.fractionBits - 1) + rgV F body = 0 := by
    have := Nat.mul_pos hP0 hK0
    omega
  unfold Format.nearest
  rw [if_neg hne, hlog]
  dsimp only
  have hl := least_K hF
  rw [show max (F.leastPlace + ((F.fractionBits + (bi + F.fractionBits - 1) : Nat) : Int) - (F.fractionBits : Int)) F.leastPlace = 0 by rw [hl]; omega]
  rw [cut_rnd, show ((0 : Int) - F.leastPlace).toNat = bi + F.fractionBits - 1 by omega, show (F.leastPlace - 0).toNat = 0 by omega, Nat.shiftLeft_zero, hkp]
  have hri := rungI_at (F := F) (bi := bi) (q := 2 ^ F.fractionBits + rnd (rgV F body) (2 ^ (bi + F.fractionBits - 1))) (k := F.fractionBits) (by omega) (by omega) (Nat.le_refl _)
  have hrl := rungI_lt hF hbig (q := 2 ^ F.fractionBits + rnd (rgV F body) (2 ^ (bi + F.fractionBits - 1))) (by omega)
  rw [Nat.sub_self, Nat.pow_zero, Nat.mul_one] at hri
  have hbin : F.binade = 2 ^ F.fractionBits := rfl
  rw [hbin]
  generalize rnd (rgV F body) (2 ^ (bi + F.fractionBits - 1)) = r at *
  have e : (bi + F.fractionBits - 1) * 2 ^ F.fractionBits + (2 ^ F.fractionBits + r) = rungI F bi (2 ^ F.fractionBits + r) := by
    rw [hri]
    have : (bi + F.fractionBits) * 2 ^ F.fractionBits = (bi + F.fractionBits - 1) * 2 ^ F.fractionBits + 2 ^ F.fractionBits := by
      rw [← Nat.succ_mul]; congr 1; omega
    omega
  rw [e, Nat.min_eq_left (by omega)]
theorem sub_word (hF : Fmt F bi) (x : Nat) {r : Nat} (hr : r < F.infRung) : F.sub x (F.word false r) = F.add x (F.word true r) := by
  unfold Format.sub Format.add
  have key : (F.read (F.word false r)).opposite = F.read (F.word true r) := by
    have hsw := inf_sw hF
    obtain ⟨a1, a2, a3⟩ := word_lt hF false (r := r) (by omega)
    obtain ⟨b1, b2, b3⟩ := word_lt hF true (r := r) (by omega)
    rw [hF.read a1, hF.read b1, a2, b2]
    have ex : exB F (F.word false r) = exB F (F.word true r) := by unfold exB; rw [a3, b3]
    have fr : frB F (F.word false r) = frB F (F.word true r) := by unfold frB; rw [a3, b3]
    rw [ex, fr]
    split
    · rfl
    · split
      · rfl
      · split <;> rfl
  rw [key]
/- the cut of a number below the binade -/
theorem magOf_val {m : Nat} {i : Int} (hi : F.leastPlace ≤ i) (hF : Fmt F bi) : m * 2 ^ i.toNat / 2 ^ (-i).toNat = m * 2 ^ (i - F.leastPlace).toNat / 2 ^ (bi + F.fractionBits - 1) := by
  have hl := least_K hF
  by_cases h : 0 ≤ i
  · rw [show (-i).toNat = 0 by omega, Nat.pow_zero, Nat.div_one, show (i - F.leastPlace).toNat = i.toNat + (bi + F.fractionBits - 1) by omega, Nat.pow_add, ← Nat.mul_assoc, Nat.mul_div_cancel _ (Nat.two_pow_pos _)]
  · rw [show i.toNat = 0 by omega, Nat.pow_zero, Nat.mul_one]
    have e : 2 ^ (bi + F.fractionBits - 1) = 2 ^ (-i).toNat * 2 ^ (i - F.leastPlace).toNat := by rw [← Nat.pow_add]; congr 1; omega
    rw [e, Nat.mul_div_mul_right _ _ (Nat.two_pow_pos _)]
/- THE CUT AS AN INTEGER -/
theorem toInt_word (hF : Fmt F bi) {v : Nat} (hv : v < 2 * F.signWeight) (he : exB F v ≠ 2 * bi + 1) : (F.read v).toInt .zero = some (if sgB F v = true then -((rgV F (v % F.signWeight) / 2 ^ (bi + F.fractionBits - 1) : Nat) : Int) else ((rgV F (v % F.signWeight) / 2 ^ (bi + F.fractionBits - 1) : Nat) : Int)) := by
  obtain ⟨m, i, e1, e2, e3, _⟩ := hF.num hv he
  rw [e1, ← e3, ← magOf_val e2 hF]
  unfold Datum.toInt Datum.integral
  have hc : ∀ (neg : Bool) (n drop : Nat), Toward.zero.cut neg n drop = n / 2 ^ drop := by
    intro neg n drop
    unfold Toward.cut
    simp only [Bool.toNat_false, Nat.add_zero, Nat.shiftLeft_eq, Nat.one_mul]
    by_cases h : drop ≤ n.log2 + 2
    · rw [Nat.min_eq_left h]
    · have h1 : n < 2 ^ (n.log2 + 2) := Nat.lt_of_lt_of_le (Nat.lt_log2_self (n := n)) (Nat.pow_le_pow_right (by decide) (by omega))
      have h2 : n < 2 ^ drop := Nat.lt_of_lt_of_le h1 (Nat.pow_le_pow_right (by decide) (by omega))
      rw [Nat.min_eq_right (by omega), Nat.div_eq_of_lt h1, Nat.div_eq_of_lt h2]
  simp only [hc, signed, Nat.shiftLeft_eq, Nat.pow_zero, Nat.mul_one]
/- the cut's place in the order -/
theorem cut_ord (hF : Fmt F bi) {body : Nat} (h : rgV F body / 2 ^ (bi + F.fractionBits - 1) ≤ 2 ^ (F.fractionBits + 1)) :
    (rungI F bi (rgV F body / 2 ^ (bi + F.fractionBits - 1)) < body ↔ rgV F body % 2 ^ (bi + F.fractionBits - 1) ≠ 0) ∧ rungI F bi (rgV F body / 2 ^ (bi + F.fractionBits - 1)) ≤ body := by
  have hg : 0 < 2 ^ (bi + F.fractionBits - 1) := Nat.two_pow_pos _
  have hdm := Nat.div_add_mod (rgV F body) (2 ^ (bi + F.fractionBits - 1))
  rw [Nat.mul_comm] at hdm
  have hv := rgV_int hF h
  constructor
  · rw [← rgV_lt F, hv]
    omega
  · refine Nat.le_of_not_lt fun hlt => ?_
    have := (rgV_lt F).2 hlt
    rw [hv] at this
    omega
end
end Go.Proofs.Qxb6500275aGreatDoor
