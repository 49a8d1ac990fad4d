import Derived.Test.Qxb6500275aGreatDoorNp1
set_option linter.unusedVariables false
set_option linter.unusedSimpArgs false
namespace Go.Proofs.Qxb6500275aGreatDoor
open Ieee
section
variable {F : Format} {bi : Nat}
/- the integer that a finite word is cut to -/
def cutI (F : Format) (bi v : Nat) : Int := if sgB F v = true then -((rgV F (v % F.signWeight) / 2 ^ (bi + F.fractionBits - 1) : Nat) : Int) else ((rgV F (v % F.signWeight) / 2 ^ (bi + F.fractionBits - 1) : Nat) : Int)
theorem cutI_lt (v : Nat) {B : Nat} (hB : 0 < B) : sgV F v < ((B * 2 ^ (bi + F.fractionBits - 1) : Nat) : Int) ↔ cutI F bi v < B := by
  have hg : 0 < 2 ^ (bi + F.fractionBits - 1) := Nat.two_pow_pos _
  have hp := Nat.mul_pos hB hg
  have hd := Nat.div_lt_iff_lt_mul hg (x := rgV F (v % F.signWeight)) (y := B)
  unfold sgV cutI
  generalize rgV F (v % F.signWeight) = val at *
  generalize B * 2 ^ (bi + F.fractionBits - 1) = Bg at *
  generalize val / 2 ^ (bi + F.fractionBits - 1) = q at *
  cases sgB F v
  · simp only [Bool.false_eq_true, if_false]; omega
  · simp only [if_true]; omega
theorem cutI_gt (v : Nat) {B : Nat} (hB : 0 < B) : -((B * 2 ^ (bi + F.fractionBits - 1) : Nat) : Int) < sgV F v ↔ -(B : Int) < cutI F bi v := by
  have hg : 0 < 2 ^ (bi + F.fractionBits - 1) := Nat.two_pow_pos _
  have hp := Nat.mul_pos hB hg
  have hd := Nat.div_lt_iff_lt_mul hg (x := rgV F (v % F.signWeight)) (y := B)
  unfold sgV cutI
  generalize rgV F (v % F.signWeight) = val at *
  generalize B * 2 ^ (bi + F.fractionBits - 1) = Bg at *
  generalize val / 2 ^ (bi + F.fractionBits - 1) = q at *
  cases sgB F v
  · simp only [Bool.false_eq_true, if_false]; omega
  · simp only [if_true]; omega
theorem cutI_ge (hF : Fmt F bi) (v : Nat) {B : Nat} (hB : 2 ^ F.fractionBits ≤ B) : -((B * 2 ^ (bi + F.fractionBits - 1) : Nat) : Int) ≤ sgV F v ↔ -(B : Int) ≤ cutI F bi v := by
  have hg : 0 < 2 ^ (bi + F.fractionBits - 1) := Nat.two_pow_pos _
  have hP0 : 0 < 2 ^ F.fractionBits := Nat.two_pow_pos _
  have hd : rgV F (v % F.signWeight) ≤ B * 2 ^ (bi + F.fractionBits - 1) ↔ rgV F (v % F.signWeight) / 2 ^ (bi + F.fractionBits - 1) ≤ B := by
    by_cases he : exB F v < bi + F.fractionBits
    · have h1 := val_lt hF he
      have h2 := q_lt hF he
      have h3 : 2 ^ F.fractionBits * 2 ^ (bi + F.fractionBits - 1) ≤ B * 2 ^ (bi + F.fractionBits - 1) := Nat.mul_le_mul_right _ hB
      constructor <;> intro <;> omega
    · have h1 := val_whole hF (v := v) (by omega)
      have h2 := Nat.div_add_mod (rgV F (v % F.signWeight)) (2 ^ (bi + F.fractionBits - 1))
      rw [h1, Nat.add_zero, Nat.mul_comm] at h2
      generalize rgV F (v % F.signWeight) / 2 ^ (bi + F.fractionBits - 1) = q at *
      rw [← h2]
      exact Nat.mul_le_mul_right_iff hg
  unfold sgV cutI
  generalize rgV F (v % F.signWeight) = val at *
  generalize B * 2 ^ (bi + F.fractionBits - 1) = Bg at *
  generalize val / 2 ^ (bi + F.fractionBits - 1) = q at *
  cases sgB F v
  · simp only [Bool.false_eq_true, if_false]; omega
  · simp only [if_true]; omega
theorem inf_val (hF : Fmt F bi) (h64 : 64 < bi) {v : Nat} (he : exB F v = 2 * bi + 1) : 18446744073709551616 * 2 ^ (bi + F.fractionBits - 1) ≤ rgV F (v % F.signWeight) := by
  have hmod : exB F v * 2 ^ F.fractionBits + frB F v = v % F.signWeight := by
    unfold exB frB; rw [Nat.mul_comm]; exact Nat.div_add_mod _ _
  rw [← hmod, rgV_big (by omega) (Fmt.fr_lt F v), he, show 2 * bi + 1 - 1 = 2 * bi by omega]
  have h1 : 2 ^ F.fractionBits * 2 ^ (2 * bi) ≤ (2 ^ F.fractionBits + frB F v) * 2 ^ (2 * bi) := Nat.mul_le_mul_right _ (by omega)
  refine Nat.le_trans ?_ h1
  rw [show (18446744073709551616 : Nat) = 2 ^ 64 by decide, ← Nat.pow_add, ← Nat.pow_add]
  exact Nat.pow_le_pow_right (by decide) (by omega)
theorem cutI_inf (hF : Fmt F bi) (h64 : 64 < bi) {v : Nat} (he : exB F v = 2 * bi + 1) : cutI F bi v ≤ -18446744073709551616 ∨ 18446744073709551616 ≤ cutI F bi v := by
  have hg : 0 < 2 ^ (bi + F.fractionBits - 1) := Nat.two_pow_pos _
  have h := (Nat.le_div_iff_mul_le hg).2 (inf_val hF h64 he)
  unfold cutI
  generalize rgV F (v % F.signWeight) / 2 ^ (bi + F.fractionBits - 1) = q at *
  cases sgB F v
  · simp only [Bool.false_eq_true, if_false]; omega
  · simp only [if_true]; omega
/- the same function once more: over the integer -/
theorem trunc_int (hF : Fmt F bi) (h64 : 64 < bi) {v : Nat} (hn : ¬ isN F bi v) :
    (truncP F bi 32 true v = if -2147483648 ≤ cutI F bi v ∧ cutI F bi v < 2147483648 then ((cutI F bi v % 4294967296).toNat, 0) else (0, 40)) ∧
    (truncP F bi 64 true v = if -9223372036854775808 ≤ cutI F bi v ∧ cutI F bi v < 9223372036854775808 then ((cutI F bi v % 18446744073709551616).toNat, 0) else (0, 40)) ∧
    (truncP F bi 32 false v = if -1 < cutI F bi v ∧ cutI F bi v < 4294967296 then ((cutI F bi v).toNat, 0) else (0, 40)) ∧
    (truncP F bi 64 false v = if -1 < cutI F bi v ∧ cutI F bi v < 18446744073709551616 then ((cutI F bi v).toNat, 0) else (0, 40)) := by
  unfold truncP
  by_cases he : exB F v = 2 * bi + 1
  · have hf : frB F v = 0 := Classical.byContradiction fun e => hn ⟨he, e⟩
    have hc := cutI_inf hF h64 he
    rw [if_pos he, if_pos hf, if_pos he, if_pos he, if_pos he]
    exact ⟨by rw [if_neg (by omega)], by rw [if_neg (by omega)], by rw [if_neg (by omega)], by rw [if_neg (by omega)]⟩
  · rw [if_neg he, if_neg he, if_neg he, if_neg he]
    unfold cutI fitS
    generalize rgV F (v % F.signWeight) / 2 ^ (bi + F.fractionBits - 1) = q
    cases sgB F v
    · simp only [Bool.false_eq_true, if_false, if_true]
      refine ⟨?_, ?_, ?_, ?_⟩
      · by_cases h : 2 ^ (32 - 1) ≤ q
        · rw [if_pos h, if_neg (by omega)]
        · rw [if_neg h, if_pos (by omega)]; congr 1; omega
      · by_cases h : 2 ^ (64 - 1) ≤ q
        · rw [if_pos h, if_neg (by omega)]
        · rw [if_neg h, if_pos (by omega)]; congr 1; omega
      · by_cases h : 2 ^ 32 - 1 < q
        · rw [if_pos h, if_neg (by omega)]
        · rw [if_neg h, if_pos (by omega)]; congr 1
      · by_cases h : 2 ^ 64 - 1 < q
        · rw [if_pos h, if_neg (by omega)]
        · rw [if_neg h, if_pos (by omega)]; congr 1
    · simp only [Bool.false_eq_true, if_false, if_true]
      refine ⟨?_, ?_, ?_, ?_⟩
      · by_cases h : 2 ^ (32 - 1) < q
        · rw [if_pos h, if_neg (by omega)]
        · rw [if_neg h, if_pos (by omega)]; congr 1; omega
      · by_cases h : 2 ^ (64 - 1) < q
        · rw [if_pos h, if_neg (by omega)]
        · rw [if_neg h, if_pos (by omega)]; congr 1; omega
      · by_cases h : q = 0
        · rw [if_pos h, if_pos (by omega)]; congr 1; omega
        · rw [if_neg h, if_neg (by omega)]
      · by_cases h : q = 0
        · rw [if_pos h, if_pos (by omega)]; congr 1; omega
        · rw [if_neg h, if_neg (by omega)]
theorem toInt_cut (hF : Fmt F bi) {v : Nat} (hv : v < 2 * F.signWeight) (he : exB F v ≠ 2 * bi + 1) : (F.read v).toInt .zero = some (cutI F bi v) := toInt_word hF hv he
/- comparisons with a power of two, by the integer -/
theorem ord_lt_pow (hF : Fmt F bi) {v : Nat} (hv : v < 2 * F.signWeight) (hn : ¬ isN F bi v) {j : Nat} (hj : j ≤ bi) : (F.order v (F.word false ((bi + j) * 2 ^ F.fractionBits)) == some .lt) = decide (cutI F bi v < ((2 ^ j : Nat) : Int)) := by
  have hle : (bi + j) * 2 ^ F.fractionBits ≤ F.infRung := by rw [hF.inf]; exact Nat.mul_le_mul_right _ (by omega)
  obtain ⟨c1, c2⟩ := word_num hF false hle
  rw [order_val hF hv c2 hn c1, sgV_word hF false hle, rgV_pow hF]
  simp only [Bool.false_eq_true, if_false]
  have := cutI_lt (F := F) (bi := bi) v (B := 2 ^ j) (Nat.two_pow_pos j)
  rw [Bool.eq_iff_iff, beq_iff_eq, Option.some.injEq, cmp_lt_iff, decide_eq_true_iff, this]
theorem ord_gt_neg (hF : Fmt F bi) {v : Nat} (hv : v < 2 * F.signWeight) (hn : ¬ isN F bi v) {j : Nat} (hj : j ≤ bi) : (F.order v (F.word true ((bi + j) * 2 ^ F.fractionBits)) == some .gt) = decide (-((2 ^ j : Nat) : Int) < cutI F bi v) := by
  have hle : (bi + j) * 2 ^ F.fractionBits ≤ F.infRung := by rw [hF.inf]; exact Nat.mul_le_mul_right _ (by omega)
  obtain ⟨c1, c2⟩ := word_num hF true hle
  rw [order_val hF hv c2 hn c1, sgV_word hF true hle, rgV_pow hF]
  simp only [if_true]
  have := cutI_gt (F := F) (bi := bi) v (B := 2 ^ j) (Nat.two_pow_pos j)
  rw [Bool.eq_iff_iff, beq_iff_eq, Option.some.injEq, cmp_gt_iff, decide_eq_true_iff, this]
theorem ord_ge_neg (hF : Fmt F bi) {v : Nat} (hv : v < 2 * F.signWeight) (hn : ¬ isN F bi v) {j : Nat} (hj : j ≤ bi) (hj2 : F.fractionBits ≤ j) : (F.order v (F.word true ((bi + j) * 2 ^ F.fractionBits)) == some .gt || F.order v (F.word true ((bi + j) * 2 ^ F.fractionBits)) == some .eq) = decide (-((2 ^ j : Nat) : Int) ≤ cutI F bi v) := by
  have hle : (bi + j) * 2 ^ F.fractionBits ≤ F.infRung := by rw [hF.inf]; exact Nat.mul_le_mul_right _ (by omega)
  obtain ⟨c1, c2⟩ := word_num hF true hle
  rw [order_val hF hv c2 hn c1, sgV_word hF true hle, rgV_pow hF]
  simp only [if_true]
  have := cutI_ge hF v (B := 2 ^ j) (Nat.pow_le_pow_right (by decide) hj2)
  rw [Bool.eq_iff_iff, Bool.or_eq_true, beq_iff_eq, beq_iff_eq, Option.some.injEq, Option.some.injEq, cmp_gt_iff, cmp_eq_iff, decide_eq_true_iff, ← this]
  omega
theorem ord_ge_pow (hF : Fmt F bi) {v : Nat} (hv : v < 2 * F.signWeight) (hn : ¬ isN F bi v) {j : Nat} (hj : j ≤ bi) : (F.order v (F.word false ((bi + j) * 2 ^ F.fractionBits)) == some .gt || F.order v (F.word false ((bi + j) * 2 ^ F.fractionBits)) == some .eq) = decide (((2 ^ j : Nat) : Int) ≤ cutI F bi v) := by
  have hle : (bi + j) * 2 ^ F.fractionBits ≤ F.infRung := by rw [hF.inf]; exact Nat.mul_le_mul_right _ (by omega)
  obtain ⟨c1, c2⟩ := word_num hF false hle
  rw [order_val hF hv c2 hn c1, sgV_word hF false hle, rgV_pow hF]
  simp only [Bool.false_eq_true, if_false]
  have := cutI_lt (F := F) (bi := bi) v (B := 2 ^ j) (Nat.two_pow_pos j)
  rw [Bool.eq_iff_iff, Bool.or_eq_true, beq_iff_eq, beq_iff_eq, Option.some.injEq, Option.some.injEq, cmp_gt_iff, cmp_eq_iff, decide_eq_true_iff]
  omega
/- and with the whole number -(2 ^ 31 + 1) -/
theorem ord_gt_int (hF : Fmt F bi) (hbig : F.fractionBits + 2 ≤ bi) {v : Nat} (hv : v < 2 * F.signWeight) (hn : ¬ isN F bi v) {B : Nat} (hB : 0 < B ∧ B ≤ 2 ^ (F.fractionBits + 1)) : (F.order v (F.word true (rungI F bi B)) == some .gt) = decide (-(B : Int) < cutI F bi v) := by
  have hle : rungI F bi B ≤ F.infRung := Nat.le_of_lt (rungI_lt hF hbig hB.2)
  obtain ⟨c1, c2⟩ := word_num hF true hle
  rw [order_val hF hv c2 hn c1, sgV_word hF true hle, rgV_int hF hB.2]
  simp only [if_true]
  have := cutI_gt (F := F) (bi := bi) v (B := B) hB.1
  rw [Bool.eq_iff_iff, beq_iff_eq, Option.some.injEq, cmp_gt_iff, decide_eq_true_iff, this]
theorem pw62 {bi fb : Nat} (h : 1 ≤ fb ∧ fb ≤ 52) (hb : 1 ≤ bi) : 2 ^ (bi + 62) = 2 ^ (63 - fb) * 2 ^ (bi + fb - 1) := by
  rw [← Nat.pow_add, show 63 - fb + (bi + fb - 1) = bi + 62 by omega]
theorem pw63 {fb : Nat} (h : 1 ≤ fb ∧ fb ≤ 52) : 2 ^ fb * 2 ^ (63 - fb) = 9223372036854775808 := by
  rw [← Nat.pow_add, show fb + (63 - fb) = 63 by omega]
/- from 2 ^ 63 on: the top bit is taken off -/
set_option maxHeartbeats 1000000 in
theorem top_off (hF : Fmt F bi) (h64 : 64 < bi) {v : Nat} (hv : v < 2 * F.signWeight) (h1 : 9223372036854775808 ≤ cutI F bi v) (h2 : cutI F bi v < 18446744073709551616) :
    ∃ r, F.sub v (F.word false ((bi + 63) * 2 ^ F.fractionBits)) = some r ∧ r < 2 * F.signWeight ∧ exB F r ≠ 2 * bi + 1 ∧ cutI F bi r = cutI F bi v - 9223372036854775808 := by
  have hfb := hF.fb
  have hb1 := hF.b1
  have hg : 0 < 2 ^ (bi + F.fractionBits - 1) := Nat.two_pow_pos _
  have hP0 : 0 < 2 ^ F.fractionBits := Nat.two_pow_pos _
  have hfl := Fmt.fr_lt F v
  have hmod : exB F v * 2 ^ F.fractionBits + frB F v = v % F.signWeight := by
    unfold exB frB; rw [Nat.mul_comm]; exact Nat.div_add_mod _ _
  have hs : sgB F v = false := by
    unfold cutI at h1
    cases hsg : sgB F v
    · rfl
    · rw [hsg, if_pos rfl] at h1
      generalize rgV F (v % F.signWeight) / 2 ^ (bi + F.fractionBits - 1) = q at h1
      omega
  have hwb := word_back hF hv
  rw [hmod, hs] at hwb
  have hc : cutI F bi v = ((rgV F (v % F.signWeight) / 2 ^ (bi + F.fractionBits - 1) : Nat) : Int) := by unfold cutI; rw [hs, if_neg (by simp)]
  rw [hc] at h1 h2
  -- its exponent is that of 2 ^ 63
  have hv1 : 2 ^ 63 * 2 ^ (bi + F.fractionBits - 1) ≤ rgV F (v % F.signWeight) := (Nat.le_div_iff_mul_le hg).1 (by omega)
  have hv2 : rgV F (v % F.signWeight) < 2 ^ 64 * 2 ^ (bi + F.fractionBits - 1) := (Nat.div_lt_iff_lt_mul hg).1 (by omega)
  rw [← rgV_pow hF 63] at hv1
  rw [← rgV_pow hF 64, rgV_lt] at hv2
  have hv1' : (bi + 63) * 2 ^ F.fractionBits ≤ v % F.signWeight := Nat.le_of_not_lt fun e => by have := rgV_mono F e; omega
  have hE : exB F v = bi + 63 := by
    have a1 : ¬ exB F v < bi + 63 := fun e => by have := (body_lt F v _).2 e; omega
    have a2 := (body_lt F v (bi + 64)).1 hv2
    omega
  have hbl : v % F.signWeight < F.infRung := by
    rw [hF.inf]
    have : (bi + 64) * 2 ^ F.fractionBits ≤ (2 * bi + 1) * 2 ^ F.fractionBits := Nat.mul_le_mul_right _ (by omega)
    omega
  have hcl : (bi + 63) * 2 ^ F.fractionBits < F.infRung := by
    rw [hF.inf]
    exact Nat.mul_lt_mul_of_pos_right (by omega) hP0
  have hval : rgV F (v % F.signWeight) = (2 ^ F.fractionBits + frB F v) * 2 ^ (bi + 62) := by
    rw [← hmod, hE, rgV_big (by omega) hfl]
    congr 2
  have hcv : rgV F ((bi + 63) * 2 ^ F.fractionBits) = 2 ^ F.fractionBits * 2 ^ (bi + 62) := by
    rw [rgV_pow hF, ← Nat.pow_add, ← Nat.pow_add]; congr 1; omega
  have hsum := sum_rung hF false true hbl hcl
  rw [← sub_word hF _ hcl, hwb, hval, hcv] at hsum
  have hl := least_K hF
  have hex := nearest_exact hF false (M := frB F v) (i := F.leastPlace + ((bi + 62 : Nat) : Int)) (by rw [Nat.pow_succ]; omega) (by omega) (by
    have : (frB F v).log2 ≤ F.fractionBits := by
      by_cases h0 : frB F v = 0
      · rw [h0]; simp
      · have := (Nat.log2_lt h0).2 hfl; omega
    omega)
  obtain ⟨R, hR1, hR2, hR3⟩ := hex
  have htot : totW F false true (tot false true ((2 ^ F.fractionBits + frB F v) * 2 ^ (bi + 62)) (2 ^ F.fractionBits * 2 ^ (bi + 62))) F.leastPlace = F.word false R := by
    rw [← hR2, ← nearest_scale F false (frB F v) _ (bi + 62)]
    rw [show F.leastPlace + ((bi + 62 : Nat) : Int) - ((bi + 62 : Nat) : Int) = F.leastPlace by omega]
    rw [Nat.add_mul]
    generalize 2 ^ F.fractionBits * 2 ^ (bi + 62) = A
    generalize frB F v * 2 ^ (bi + 62) = B
    unfold totW tot
    simp only [Bool.false_eq_true, if_false, if_true, Bool.false_and]
    rw [show ((A + B : Nat) : Int) + -(A : Int) = (B : Int) by omega, Int.natAbs_natCast]
    congr 1
    by_cases h0 : (B : Int) = 0
    · rw [if_pos h0]
    · rw [if_neg h0]; exact decide_eq_false (by omega)
  rw [htot] at hsum
  have hsw := inf_sw hF
  obtain ⟨w1, w2, w3⟩ := word_lt hF false (r := R) (by omega)
  refine ⟨_, hsum, w1, ?_, ?_⟩
  · intro e
    unfold exB at e
    rw [w3] at e
    have := Nat.div_mul_le_self R (2 ^ F.fractionBits)
    rw [e, ← hF.inf] at this
    omega
  · rw [hc]
    unfold cutI
    rw [w2, if_neg (by simp), w3, hR3, hval]
    rw [show (F.leastPlace + ((bi + 62 : Nat) : Int) - F.leastPlace).toNat = bi + 62 by omega]
    have e1 := pw62 (bi := bi) hfb hb1
    have e2 := pw63 hfb
    rw [e1]
    clear e1
    generalize 2 ^ (bi + F.fractionBits - 1) = g at *
    generalize 2 ^ (63 - F.fractionBits) = u at *
    have d1 : frB F v * (u * g) / g = frB F v * u := by rw [← Nat.mul_assoc, Nat.mul_div_cancel _ hg]
    have d2 : (2 ^ F.fractionBits + frB F v) * (u * g) / g = 9223372036854775808 + frB F v * u := by rw [← Nat.mul_assoc, Nat.mul_div_cancel _ hg, Nat.add_mul, e2]
    rw [d1, d2]
    clear hv1 hv2 hv1' h1 h2 d1 d2 htot hsum hR3 hval hcv
    generalize frB F v * u = X
    omega
end
end Go.Proofs.Qxb6500275aGreatDoor
