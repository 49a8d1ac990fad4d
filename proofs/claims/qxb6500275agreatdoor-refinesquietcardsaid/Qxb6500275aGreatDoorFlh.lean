import Derived.Test.Qxb6500275aGreatDoorFlg
set_option linter.unusedVariables false
set_option linter.unusedSimpArgs false
namespace Go.Proofs.Qxb6500275aGreatDoor
open Ieee
section
variable {F : Format} {bi : Nat}
/- what is no number becomes the one canonical -/
def canB (F : Format) (can r : Nat) : Nat := bif F.order r r != some .eq then can else r
theorem order_nan (hF : Fmt F bi) {a : Nat} (ha : a < 2 * F.signWeight) (na : isN F bi a) (b : Nat) : F.order a b = none := by
  have hrd := hF.read ha
  rw [if_neg (by have := na.1; omega), if_neg (by have := na.1; omega), if_neg na.2] at hrd
  unfold Format.order
  rw [hrd]
  rfl
theorem order_nan2 (hF : Fmt F bi) {a : Nat} (ha : a < 2 * F.signWeight) (na : isN F bi a) (b : Nat) : F.order b a = none := by
  have hrd := hF.read ha
  rw [if_neg (by have := na.1; omega), if_neg (by have := na.1; omega), if_neg na.2] at hrd
  unfold Format.order
  rw [hrd]
  cases F.read b <;> rfl
theorem canB_nan (hF : Fmt F bi) (can : Nat) {a : Nat} (ha : a < 2 * F.signWeight) (na : isN F bi a) : canB F can a = can := by
  unfold canB; rw [order_nan hF ha na]; rfl
theorem cmp_self (x : Int) : compare x x = .eq := by
  show compareOfLessAndEq x x = .eq
  unfold compareOfLessAndEq
  rw [if_neg (by omega), if_pos rfl]
theorem canB_num (hF : Fmt F bi) (can : Nat) {a : Nat} (ha : a < 2 * F.signWeight) (na : ¬ isN F bi a) : canB F can a = a := by
  unfold canB; rw [soft_order hF ha ha na na, cmp_self]; rfl
theorem word_num (hF : Fmt F bi) (s : Bool) {r : Nat} (h : r ≤ F.infRung) : ¬ isN F bi (F.word s r) ∧ F.word s r < 2 * F.signWeight := by
  have hsw := inf_sw hF
  obtain ⟨a1, a2, a3⟩ := word_lt hF s (r := r) (by omega)
  refine ⟨fun hn => ?_, a1⟩
  have hP0 : 0 < 2 ^ F.fractionBits := Nat.two_pow_pos _
  have h1 := hn.1
  have h2 := hn.2
  unfold exB at h1
  unfold frB at h2
  rw [a3] at h1 h2
  have := Nat.div_add_mod r (2 ^ F.fractionBits)
  rw [h1, Nat.mul_comm, ← hF.inf] at this
  omega
theorem sgR_word (hF : Fmt F bi) (s : Bool) {r : Nat} (h : r ≤ F.infRung) : sgR F (F.word s r) = if s = true then -(r : Int) else (r : Int) := by
  have hsw := inf_sw hF
  obtain ⟨a1, a2, a3⟩ := word_lt hF s (r := r) (by omega)
  unfold sgR
  rw [a2, a3]
theorem cmp_gt_iff (x y : Int) : compare x y = .gt ↔ y < x := by
  show compareOfLessAndEq x y = .gt ↔ y < x
  unfold compareOfLessAndEq
  by_cases h1 : x < y
  · rw [if_pos h1]; simp; omega
  · rw [if_neg h1]
    by_cases h2 : x = y
    · rw [if_pos h2]; simp; omega
    · rw [if_neg h2]; simp; omega
theorem cmp_lt_iff (x y : Int) : compare x y = .lt ↔ x < y := by
  show compareOfLessAndEq x y = .lt ↔ x < y
  unfold compareOfLessAndEq
  by_cases h1 : x < y
  · rw [if_pos h1]; simp; omega
  · rw [if_neg h1]
    by_cases h2 : x = y
    · rw [if_pos h2]; simp; omega
    · rw [if_neg h2]; simp; omega
theorem cmp_eq_iff (x y : Int) : compare x y = .eq ↔ x = y := by
  show compareOfLessAndEq x y = .eq ↔ x = y
  unfold compareOfLessAndEq
  by_cases h1 : x < y
  · rw [if_pos h1]; simp; omega
  · rw [if_neg h1]
    by_cases h2 : x = y
    · rw [if_pos h2]; simp; omega
    · rw [if_neg h2]; simp; omega
theorem rungI_bin (hF : Fmt F bi) : rungI F bi (2 ^ F.fractionBits) = (bi + F.fractionBits) * 2 ^ F.fractionBits := by
  rw [rungI_at (k := F.fractionBits) (Nat.le_refl _) (Nat.pow_le_pow_right (by decide) (by omega)) (Nat.le_refl _), Nat.sub_self, Nat.pow_zero, Nat.mul_one, Nat.sub_self, Nat.add_zero]
theorem body_lt (F : Format) (v E : Nat) : v % F.signWeight < E * 2 ^ F.fractionBits ↔ exB F v < E := by
  unfold exB
  exact (Nat.div_lt_iff_lt_mul (Nat.two_pow_pos _)).symm
/- between the two binades' own -/
theorem in_rng (hF : Fmt F bi) (hbig : F.fractionBits + 2 ≤ bi) {v : Nat} (hv : v < 2 * F.signWeight) :
    ((F.order v (F.word true (rungI F bi (2 ^ F.fractionBits))) == some .gt) = true ∧ (F.order v (F.word false (rungI F bi (2 ^ F.fractionBits))) == some .lt) = true) ↔ exB F v < bi + F.fractionBits := by
  have hle : rungI F bi (2 ^ F.fractionBits) ≤ F.infRung := Nat.le_of_lt (rungI_lt hF hbig (Nat.pow_le_pow_right (by decide) (by omega)))
  by_cases hn : isN F bi v
  · rw [order_nan hF hv hn, order_nan hF hv hn]
    have := hn.1
    simp
    omega
  · obtain ⟨t1, t2⟩ := word_num hF true hle
    obtain ⟨f1, f2⟩ := word_num hF false hle
    rw [soft_order hF hv t2 hn t1, soft_order hF hv f2 hn f1, sgR_word hF true hle, sgR_word hF false hle, rungI_bin hF]
    rw [beq_iff_eq, beq_iff_eq, Option.some.injEq, Option.some.injEq, cmp_gt_iff, cmp_lt_iff, ← body_lt]
    unfold sgR
    generalize (bi + F.fractionBits) * 2 ^ F.fractionBits = B
    cases sgB F v
    · simp only [Bool.false_eq_true, if_false, if_true]; omega
    · simp only [Bool.false_eq_true, if_false, if_true]; omega
/- the cut -/
def cutWd (F : Format) (bi v : Nat) : Nat := if exB F v < bi + F.fractionBits then F.word (sgB F v) (rungI F bi (rgV F (v % F.signWeight) / 2 ^ (bi + F.fractionBits - 1))) else v
theorem val_lt (hF : Fmt F bi) {v : Nat} (he : exB F v < bi + F.fractionBits) : rgV F (v % F.signWeight) < 2 ^ F.fractionBits * 2 ^ (bi + F.fractionBits - 1) := by
  rw [← rgV_int hF (Nat.pow_le_pow_right (by decide) (by omega)), rungI_bin hF]
  exact rgV_mono F ((body_lt F v _).2 he)
theorem q_lt (hF : Fmt F bi) {v : Nat} (he : exB F v < bi + F.fractionBits) : rgV F (v % F.signWeight) / 2 ^ (bi + F.fractionBits - 1) < 2 ^ F.fractionBits := by
  rw [Nat.div_lt_iff_lt_mul (Nat.two_pow_pos _)]
  exact val_lt hF he
theorem pow_1 (F : Format) : 2 ^ (F.fractionBits + 1) = 2 * 2 ^ F.fractionBits := by rw [Nat.pow_succ, Nat.mul_comm]
theorem notN_in (hbig : F.fractionBits + 2 ≤ bi) {v : Nat} (he : exB F v < bi + F.fractionBits) : ¬ isN F bi v := fun h => by have := h.1; omega
theorem cut_int (hF : Fmt F bi) (hbig : F.fractionBits + 2 ≤ bi) {v : Nat} (hv : v < 2 * F.signWeight) (he : exB F v < bi + F.fractionBits) {n : Int} (hn : (F.read v).toInt .zero = some n) :
    (n = 0 → cutWd F bi v = F.word (sgB F v) 0) ∧ (n ≠ 0 → F.nearest (decide (n < 0)) n.natAbs 0 = cutWd F bi v ∧ ¬ F.order (cutWd F bi v) 0 = some .eq) := by
  have hq := q_lt hF he
  have hp := pow_1 F
  rw [toInt_word hF hv (by omega)] at hn
  have hn2 := Option.some.inj hn
  unfold cutWd
  rw [if_pos he]
  generalize rgV F (v % F.signWeight) / 2 ^ (bi + F.fractionBits - 1) = q at *
  constructor
  · intro h0
    have : q = 0 := by
      rw [h0] at hn2
      by_cases hs : sgB F v = true
      · rw [if_pos hs] at hn2; omega
      · rw [if_neg hs] at hn2; omega
    subst this
    unfold rungI; rw [if_pos rfl]
  · intro h0
    have hq0 : q ≠ 0 := by
      rintro rfl
      apply h0
      rw [← hn2]
      split <;> rfl
    have e1 : decide (n < 0) = sgB F v := by
      rw [← hn2]
      cases sgB F v
      · simp only [Bool.false_eq_true, if_false]; exact decide_eq_false (by omega)
      · simp only [if_true]; exact decide_eq_true (by omega)
    have e2 : n.natAbs = q := by
      rw [← hn2]
      split <;> omega
    rw [e1, e2, nearest_int hF hbig _ (by omega)]
    refine ⟨rfl, ?_⟩
    have hrl := rungI_lt hF hbig (q := q) (by omega)
    obtain ⟨a1, a2⟩ := word_num hF (sgB F v) (r := rungI F bi q) (by omega)
    obtain ⟨z1, z2⟩ := word_num hF false (r := 0) (by omega)
    have hz : F.word false 0 = 0 := rfl
    have hs0 := sgR_word hF false (r := 0) (by omega)
    rw [hz] at z1 z2 hs0
    rw [soft_order hF a2 z2 a1 z1, sgR_word hF _ (by omega), hs0]
    intro h
    have h := (cmp_eq_iff _ _).1 (Option.some.inj h)
    have hr0 : rungI F bi q ≠ 0 := by
      intro e
      have := rgV_int hF (q := q) (by omega)
      rw [e, rgV_zero] at this
      have hK0 : 0 < 2 ^ (bi + F.fractionBits - 1) := Nat.two_pow_pos _
      have := Nat.mul_pos (Nat.pos_of_ne_zero hq0) hK0
      omega
    revert h
    cases sgB F v
    · simp only [Bool.false_eq_true, if_false]; omega
    · simp only [Bool.false_eq_true, if_false, if_true]; omega
theorem soft_out (hF : Fmt F bi) (can k : Nat) {v : Nat} (hv : v < 2 * F.signWeight) (he : ¬ exB F v < bi + F.fractionBits) : softWhole F bi can k v = canB F can v := by
  unfold softWhole
  by_cases hn : isN F bi v
  · rw [if_pos (show exB F v = 2 * bi + 1 ∧ frB F v ≠ 0 from hn), canB_nan hF can hv hn]
  · rw [if_neg (show ¬ (exB F v = 2 * bi + 1 ∧ frB F v ≠ 0) from hn), if_pos (.inl (by omega)), canB_num hF can hv hn]
theorem rungI_zero : rungI F bi 0 = 0 := by unfold rungI; rw [if_pos rfl]
theorem soft_in (hF : Fmt F bi) (hbig : F.fractionBits + 2 ≤ bi) (can k : Nat) {v : Nat} (hv : v < 2 * F.signWeight) (he : exB F v < bi + F.fractionBits) : softWhole F bi can k v = F.word (sgB F v) (rungI F bi (wholeN k (sgB F v) (rgV F (v % F.signWeight)) (2 ^ (bi + F.fractionBits - 1)))) := by
  unfold softWhole
  rw [if_neg (show ¬ (exB F v = 2 * bi + 1 ∧ frB F v ≠ 0) from notN_in hbig he)]
  by_cases h0 : v % F.signWeight = 0
  · rw [if_pos (.inr h0), h0, rgV_zero]
    have hg : 0 < 2 ^ (bi + F.fractionBits - 1) := Nat.two_pow_pos _
    have : wholeN k (sgB F v) 0 (2 ^ (bi + F.fractionBits - 1)) = 0 := by
      unfold wholeN rnd
      simp
    rw [this, rungI_zero]
    have hb := word_back hF hv
    have hmod : exB F v * 2 ^ F.fractionBits + frB F v = v % F.signWeight := by
      unfold exB frB; rw [Nat.mul_comm]; exact Nat.div_add_mod _ _
    rw [hmod, h0] at hb
    exact hb.symm
  · rw [if_neg (by omega)]
theorem wholeN_le (k : Nat) (s : Bool) {val g B : Nat} (hg : 0 < g) (h : val < B * g) : wholeN k s val g ≤ B := by
  unfold wholeN
  have : val / g < B := by rw [Nat.div_lt_iff_lt_mul hg]; exact h
  split
  · exact rnd_le hg h
  · split <;> omega
theorem canB_word (hF : Fmt F bi) (hbig : F.fractionBits + 2 ≤ bi) (can : Nat) (s : Bool) {q : Nat} (h : q ≤ 2 ^ (F.fractionBits + 1)) : canB F can (F.word s (rungI F bi q)) = F.word s (rungI F bi q) := by
  obtain ⟨a1, a2⟩ := word_num hF s (r := rungI F bi q) (Nat.le_of_lt (rungI_lt hF hbig h))
  exact canB_num hF can a2 a1
theorem cut_soft (hF : Fmt F bi) (hbig : F.fractionBits + 2 ≤ bi) (can : Nat) {v : Nat} (hv : v < 2 * F.signWeight) : canB F can (cutWd F bi v) = softWhole F bi can 4 v := by
  by_cases he : exB F v < bi + F.fractionBits
  · have hq := q_lt hF he
    have hp := pow_1 F
    rw [soft_in hF hbig can 4 hv he]
    unfold cutWd wholeN
    rw [if_pos he, canB_word hF hbig can _ (by omega), if_neg (by decide), if_neg (by simp), Nat.add_zero]
  · rw [soft_out hF can 4 hv he]
    unfold cutWd
    rw [if_neg he]
/- how the cut stands to the number -/
theorem cut_order (hF : Fmt F bi) (hbig : F.fractionBits + 2 ≤ bi) {v : Nat} (hv : v < 2 * F.signWeight) :
    ((F.order (cutWd F bi v) v == some .lt) = true ↔ exB F v < bi + F.fractionBits ∧ sgB F v = false ∧ rgV F (v % F.signWeight) % 2 ^ (bi + F.fractionBits - 1) ≠ 0) ∧
    ((F.order (cutWd F bi v) v == some .gt) = true ↔ exB F v < bi + F.fractionBits ∧ sgB F v = true ∧ rgV F (v % F.signWeight) % 2 ^ (bi + F.fractionBits - 1) ≠ 0) := by
  by_cases he : exB F v < bi + F.fractionBits
  · have hq := q_lt hF he
    have hp := pow_1 F
    have hn := notN_in hbig he
    have hrl := rungI_lt hF hbig (q := rgV F (v % F.signWeight) / 2 ^ (bi + F.fractionBits - 1)) (by omega)
    obtain ⟨a1, a2⟩ := word_num hF (sgB F v) (r := rungI F bi (rgV F (v % F.signWeight) / 2 ^ (bi + F.fractionBits - 1))) (by omega)
    obtain ⟨c1, c2⟩ := cut_ord hF (body := v % F.signWeight) (by omega)
    unfold cutWd
    rw [if_pos he, soft_order hF a2 hv a1 hn, sgR_word hF _ (by omega)]
    rw [beq_iff_eq, beq_iff_eq, Option.some.injEq, Option.some.injEq, cmp_gt_iff, cmp_lt_iff, ← c1]
    unfold sgR
    generalize rungI F bi (rgV F (v % F.signWeight) / 2 ^ (bi + F.fractionBits - 1)) = R at *
    cases sgB F v
    · simp only [Bool.false_eq_true, if_false]
      refine ⟨⟨fun e => ⟨he, trivial, by omega⟩, fun e => by omega⟩, ⟨fun e => ?_, fun e => ?_⟩⟩
      · omega
      · simp at e
    · simp only [if_true]
      refine ⟨⟨fun e => ?_, fun e => ?_⟩, ⟨fun e => ⟨he, trivial, by omega⟩, fun e => by omega⟩⟩
      · omega
      · simp at e
  · unfold cutWd
    rw [if_neg he]
    by_cases hn : isN F bi v
    · rw [order_nan hF hv hn]
      simp [he]
    · rw [soft_order hF hv hv hn hn, cmp_self]
      simp [he]
theorem one_word (hF : Fmt F bi) : rungI F bi 1 = bi * 2 ^ F.fractionBits := by
  rw [rungI_at (k := 0) (by decide) (by decide) (by omega)]
  simp
theorem ceil_soft (hF : Fmt F bi) (hbig : F.fractionBits + 2 ≤ bi) (can : Nat) {v : Nat} (hv : v < 2 * F.signWeight) :
    ((F.order (cutWd F bi v) v == some .lt) = true → ∃ r, F.add (cutWd F bi v) (bi * 2 ^ F.fractionBits) = some r ∧ canB F can r = softWhole F bi can 2 v) ∧
    ((F.order (cutWd F bi v) v == some .lt) = false → canB F can (cutWd F bi v) = softWhole F bi can 2 v) := by
  have ho := (cut_order hF hbig hv).1
  have hp := pow_1 F
  constructor
  · intro h
    obtain ⟨he, hs, hr⟩ := ho.1 h
    have hq := q_lt hF he
    have ha := add_int hF hbig false (a := rgV F (v % F.signWeight) / 2 ^ (bi + F.fractionBits - 1)) (b := 1) (by omega)
    rw [one_word hF] at ha
    refine ⟨_, ?_, canB_word hF hbig can false (q := rgV F (v % F.signWeight) / 2 ^ (bi + F.fractionBits - 1) + 1) (by omega) |>.trans ?_⟩
    · unfold cutWd
      rw [if_pos he, hs]
      exact ha
    · rw [soft_in hF hbig can 2 hv he, hs]
      unfold wholeN
      rw [if_neg (by decide), if_pos ⟨.inl ⟨rfl, rfl⟩, hr⟩]
  · intro h
    have h2 : ¬ (exB F v < bi + F.fractionBits ∧ sgB F v = false ∧ rgV F (v % F.signWeight) % 2 ^ (bi + F.fractionBits - 1) ≠ 0) := fun e => by rw [ho.2 e] at h; cases h
    by_cases he : exB F v < bi + F.fractionBits
    · have hq := q_lt hF he
      rw [soft_in hF hbig can 2 hv he]
      unfold cutWd wholeN
      rw [if_pos he, canB_word hF hbig can _ (by omega), if_neg (by decide), if_neg (by rintro ⟨e1 | e1, e2⟩; exact h2 ⟨he, e1.2, e2⟩; exact absurd e1.1 (by decide)), Nat.add_zero]
    · rw [soft_out hF can 2 hv he]
      unfold cutWd
      rw [if_neg he]
theorem floor_soft (hF : Fmt F bi) (hbig : F.fractionBits + 2 ≤ bi) (can : Nat) {v : Nat} (hv : v < 2 * F.signWeight) :
    ((F.order (cutWd F bi v) v == some .gt) = true → ∃ r, F.sub (cutWd F bi v) (bi * 2 ^ F.fractionBits) = some r ∧ canB F can r = softWhole F bi can 3 v) ∧
    ((F.order (cutWd F bi v) v == some .gt) = false → canB F can (cutWd F bi v) = softWhole F bi can 3 v) := by
  have ho := (cut_order hF hbig hv).2
  have hp := pow_1 F
  have hP0 : 0 < 2 ^ F.fractionBits := Nat.two_pow_pos _
  constructor
  · intro h
    obtain ⟨he, hs, hr⟩ := ho.1 h
    have hq := q_lt hF he
    have ha := add_int hF hbig true (a := rgV F (v % F.signWeight) / 2 ^ (bi + F.fractionBits - 1)) (b := 1) (by omega)
    have hsub := sub_word hF (F.word true (rungI F bi (rgV F (v % F.signWeight) / 2 ^ (bi + F.fractionBits - 1)))) (r := rungI F bi 1) (rungI_lt hF hbig (by omega))
    rw [← hsub, one_word hF] at ha
    refine ⟨_, ?_, canB_word hF hbig can true (q := rgV F (v % F.signWeight) / 2 ^ (bi + F.fractionBits - 1) + 1) (by omega) |>.trans ?_⟩
    · unfold cutWd
      rw [if_pos he, hs]
      exact ha
    · rw [soft_in hF hbig can 3 hv he, hs]
      unfold wholeN
      rw [if_neg (by decide), if_pos ⟨.inr ⟨rfl, rfl⟩, hr⟩]
  · intro h
    have h2 : ¬ (exB F v < bi + F.fractionBits ∧ sgB F v = true ∧ rgV F (v % F.signWeight) % 2 ^ (bi + F.fractionBits - 1) ≠ 0) := fun e => by rw [ho.2 e] at h; cases h
    by_cases he : exB F v < bi + F.fractionBits
    · have hq := q_lt hF he
      rw [soft_in hF hbig can 3 hv he]
      unfold cutWd wholeN
      rw [if_pos he, canB_word hF hbig can _ (by omega), if_neg (by decide), if_neg (by rintro ⟨e1 | e1, e2⟩; exact absurd e1.1 (by decide); exact h2 ⟨he, e1.2, e2⟩), Nat.add_zero]
    · rw [soft_out hF can 3 hv he]
      unfold cutWd
      rw [if_neg he]
/- to the nearest: the magnitude, put beside the binade's own and taken off again -/
theorem near_soft (hF : Fmt F bi) (hbig : F.fractionBits + 2 ≤ bi) (can : Nat) {v : Nat} (hv : v < 2 * F.signWeight) (he : exB F v < bi + F.fractionBits) :
    ∃ r1 r2, F.add (F.word false (v % F.signWeight)) ((bi + F.fractionBits) * 2 ^ F.fractionBits) = some r1 ∧ F.sub r1 ((bi + F.fractionBits) * 2 ^ F.fractionBits) = some r2 ∧ r2 < F.signWeight ∧ F.word (sgB F v) r2 = softWhole F bi can 5 v ∧ canB F can (F.word (sgB F v) r2) = softWhole F bi can 5 v := by
  have hp := pow_1 F
  have hP0 : 0 < 2 ^ F.fractionBits := Nat.two_pow_pos _
  have hK0 : 0 < 2 ^ (bi + F.fractionBits - 1) := Nat.two_pow_pos _
  have hval := val_lt hF he
  have hbl : v % F.signWeight < F.infRung := by
    have := (body_lt F v _).2 he
    have h2 : (bi + F.fractionBits) * 2 ^ F.fractionBits ≤ (2 * bi + 1) * 2 ^ F.fractionBits := Nat.mul_le_mul_right _ (by omega)
    rw [hF.inf]
    omega
  have h1 := near_up hF hbig hval hbl
  have hr := rnd_le hK0 hval
  have h2 := dif_int hF hbig (a := 2 ^ F.fractionBits + rnd (rgV F (v % F.signWeight)) (2 ^ (bi + F.fractionBits - 1))) (b := 2 ^ F.fractionBits) (by omega) (by omega)
  have hsub := sub_word hF (F.word false (rungI F bi (2 ^ F.fractionBits + rnd (rgV F (v % F.signWeight)) (2 ^ (bi + F.fractionBits - 1))))) (r := rungI F bi (2 ^ F.fractionBits)) (rungI_lt hF hbig (by omega))
  rw [← hsub, rungI_bin hF, Nat.add_sub_cancel_left] at h2
  rw [rungI_bin hF] at h1
  have hrl := rungI_lt hF hbig (q := rnd (rgV F (v % F.signWeight)) (2 ^ (bi + F.fractionBits - 1))) (by omega)
  have hsw := inf_sw hF
  have hs : F.word (sgB F v) (rungI F bi (rnd (rgV F (v % F.signWeight)) (2 ^ (bi + F.fractionBits - 1)))) = softWhole F bi can 5 v := by
    rw [soft_in hF hbig can 5 hv he]
    unfold wholeN
    rw [if_pos rfl]
  refine ⟨_, _, h1, h2, ?_, ?_, ?_⟩
  · show rungI F bi _ < _
    omega
  · exact hs
  · exact (canB_word hF hbig can _ (by omega)).trans hs
end
end Go.Proofs.Qxb6500275aGreatDoor
