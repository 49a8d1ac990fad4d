import Derived.Test.Qxb6500275aGreatDoorFl8
set_option linter.unusedVariables false
set_option linter.unusedSimpArgs false
namespace Go.Proofs.Qxb6500275aGreatDoor
open Ieee
/- a value cut off, its last digit telling whether anything fell off -/
def shr (B j : Nat) : Nat := 2 * (B / 2 ^ (j + 1)) + (if B % 2 ^ (j + 1) = 0 then 0 else 1)
theorem rnd_shr (B j T : Nat) (hT : 2 ≤ T) : rnd (shr B j) (2 ^ T) = rnd B (2 ^ (T + j)) := by
  obtain ⟨h, hh⟩ : ∃ h, T = h + 2 := ⟨T - 2, by omega⟩
  subst hh
  obtain ⟨t, ht⟩ : ∃ t, B / 2 ^ (j + 1) = t := ⟨_, rfl⟩
  obtain ⟨r, hr⟩ : ∃ r, B % 2 ^ (j + 1) = r := ⟨_, rfl⟩
  have hJ : 0 < 2 ^ (j + 1) := Nat.two_pow_pos _
  have hH : 0 < 2 ^ h := Nat.two_pow_pos _
  have hrl : r < 2 ^ (j + 1) := hr ▸ Nat.mod_lt _ hJ
  have eG : 2 ^ (h + 2) = 2 * (2 * 2 ^ h) := by rw [Nat.pow_succ, Nat.pow_succ]; omega
  have eg : 2 ^ (h + 2 + j) = 2 ^ (j + 1) * (2 * 2 ^ h) := by
    rw [show h + 2 + j = (j + 1) + (h + 1) by omega, Nat.pow_add, Nat.pow_succ 2 h, Nat.mul_comm (2 ^ h)]
  have hBq : B / 2 ^ (h + 2 + j) = t / (2 * 2 ^ h) := by rw [eg, ← Nat.div_div_eq_div_mul, ht]
  have hBr : B % 2 ^ (h + 2 + j) = t % (2 * 2 ^ h) * 2 ^ (j + 1) + r := by
    rw [eg, Nat.mod_mul, ht, hr, Nat.mul_comm]; omega
  obtain ⟨s, hs, hs1⟩ : ∃ s, (if r = 0 then 0 else 1) = s ∧ (s = 0 ∧ r = 0 ∨ s = 1 ∧ r ≠ 0) := by
    by_cases h0 : r = 0
    · exact ⟨0, by rw [if_pos h0], .inl ⟨rfl, h0⟩⟩
    · exact ⟨1, by rw [if_neg h0], .inr ⟨rfl, h0⟩⟩
  have hA : shr B j = 2 * t + s := by unfold shr; rw [ht, hr, hs]
  have hAq : (2 * t + s) / 2 ^ (h + 2) = t / (2 * 2 ^ h) := by
    rw [eG, ← Nat.div_div_eq_div_mul]
    congr 1
    omega
  have hAr : (2 * t + s) % 2 ^ (h + 2) = 2 * (t % (2 * 2 ^ h)) + s := by
    rw [eG, Nat.mod_mul]
    have e1 : (2 * t + s) / 2 = t := by omega
    have e2 : (2 * t + s) % 2 = s := by omega
    rw [e1, e2]
    omega
  unfold rnd
  rw [hA, hAq, hAr, hBq, hBr, eG, eg]
  generalize t % (2 * 2 ^ h) = τ
  generalize t / (2 * 2 ^ h) = q
  generalize 2 ^ h = H at *
  generalize 2 ^ (j + 1) = J at *
  have m1 : J * (2 * H) = 2 * (H * J) := by rw [Nat.mul_comm J, Nat.mul_assoc]
  rw [m1]
  rcases Nat.lt_trichotomy τ H with hc | hc | hc
  · have : (τ + 1) * J ≤ H * J := Nat.mul_le_mul_right _ hc
    rw [Nat.add_mul] at this
    rw [if_neg (by omega), if_neg (by omega)]
  · subst hc
    rcases hs1 with ⟨h1, h2⟩ | ⟨h1, h2⟩
    · subst h1 h2
      by_cases hq : q % 2 = 1
      · rw [if_pos (.inr ⟨by omega, hq⟩), if_pos (.inr ⟨by omega, hq⟩)]
      · rw [if_neg (by omega), if_neg (by omega)]
    · subst h1
      rw [if_pos (.inl (by omega)), if_pos (.inl (by omega))]
  · have : (H + 1) * J ≤ τ * J := Nat.mul_le_mul_right _ hc
    rw [Nat.add_mul] at this
    rw [if_pos (.inl (by omega)), if_pos (.inl (by omega))]
theorem nearest_shr (F : Format) (neg : Bool) (B j : Nat) (p : Int) (hB : 2 ^ (F.fractionBits + 1) ≤ B / 2 ^ (j + 1)) : F.nearest neg (shr B j) p = F.nearest neg B (p - j) := by
  obtain ⟨t, ht⟩ : ∃ t, B / 2 ^ (j + 1) = t := ⟨_, rfl⟩
  have hP : 0 < 2 ^ (F.fractionBits + 1) := Nat.two_pow_pos _
  have hJ : 0 < 2 ^ (j + 1) := Nat.two_pow_pos _
  have t0 : t ≠ 0 := by omega
  have hdm := Nat.div_add_mod B (2 ^ (j + 1))
  rw [ht, Nat.mul_comm] at hdm
  have hrl := Nat.mod_lt B hJ
  have lB : B.log2 = t.log2 + (j + 1) := log2_between t0 (by omega) (by rw [Nat.add_mul]; omega)
  have lA : (shr B j).log2 = t.log2 + 1 := by
    refine log2_between (k := 1) t0 ?_ ?_
    · unfold shr; rw [ht]; omega
    · unfold shr; rw [ht]; split <;> omega
  have hl : F.fractionBits + 1 ≤ t.log2 := (Nat.le_log2 t0).2 (ht ▸ hB)
  have A0 : shr B j ≠ 0 := by unfold shr; rw [ht]; omega
  have B0 : B ≠ 0 := by
    intro e
    subst e
    simp at ht
    omega
  unfold Format.nearest
  rw [if_neg A0, if_neg B0, lA, lB]
  dsimp only
  rw [show p - (j : Int) + ((t.log2 + (j + 1) : Nat) : Int) - (F.fractionBits : Int) = p + ((t.log2 + 1 : Nat) : Int) - (F.fractionBits : Int) by omega]
  have hm := Int.le_max_left (p + ((t.log2 + 1 : Nat) : Int) - (F.fractionBits : Int)) F.leastPlace
  generalize max (p + ((t.log2 + 1 : Nat) : Int) - (F.fractionBits : Int)) F.leastPlace = last at *
  rw [cut_rnd, cut_rnd, Nat.shiftLeft_eq, Nat.shiftLeft_eq, show (p - last).toNat = 0 by omega, show (p - j - last).toNat = 0 by omega, Nat.pow_zero, Nat.mul_one, Nat.mul_one, show (last - (p - j)).toNat = (last - p).toNat + j by omega, rnd_shr B j _ (by omega)]
/- the rounding of a mantissa with its mark is that of the mark as a digit -/
theorem soft_mark {F : Format} {bi : Nat} (hF : Fmt F bi) (neg : Bool) {q : Nat} {e : Int} (st : Bool) (h : 9007199254740992 ≤ q ∧ q < 18446744073709551616) : softRound F bi neg q e st = F.nearest neg (2 * q + (if st = true then 1 else 0)) (e - 1) := by
  symm
  refine soft_nearest hF neg (by omega) ?_
  rw [show (e - (e - 1)).toNat = 1 by omega, ]
  refine ⟨by omega, h.2, fun hs => ?_, fun hs => ⟨h.1, ?_⟩⟩
  · subst hs; simp; omega
  · subst hs; simp; omega
/- PRODUCTS -/
def softMul (F : Format) (bi can a b : Nat) : Nat :=
  let x := unpS F bi a
  let y := unpS F bi b
  if x.2.1 = 2 ∨ y.2.1 = 2 then (if x.2.1 = 0 ∨ y.2.1 = 0 then can else F.word (x.1 ^^ y.1) F.infRung)
  else if x.2.1 = 0 ∨ y.2.1 = 0 then F.word (x.1 ^^ y.1) 0
  else softRound F bi (x.1 ^^ y.1) (liftM x.2.2.1 63 * liftM y.2.2.1 63 / 18446744073709551616) (liftE x.2.2.1 x.2.2.2 63 + liftE y.2.2.1 y.2.2.2 63 + 64) (decide (liftM x.2.2.1 63 * liftM y.2.2.1 63 % 18446744073709551616 ≠ 0))
section
variable {F : Format} {bi : Nat}
theorem soft_mul (hF : Fmt F bi) (can : Nat) {a b : Nat} (ha : a < 2 * F.signWeight) (hb : b < 2 * F.signWeight) (na : (unpS F bi a).2.1 ≠ 3) (nb : (unpS F bi b).2.1 ≠ 3) : softMul F bi can a b = (F.mul a b).getD can := by
  have ua := unp_ok hF ha
  have ub := unp_ok hF hb
  unfold softMul Format.mul
  dsimp only
  generalize unpS F bi a = x at *
  generalize unpS F bi b = y at *
  obtain ⟨s, k, m, i⟩ := x
  obtain ⟨t, l, n, j⟩ := y
  dsimp only at ua ub na nb ⊢
  have hfb := hF.fb
  have k3 := ua.k3
  have l3 := ub.k3
  rcases (by omega : k = 0 ∨ k = 1 ∨ k = 2) with rfl | rfl | rfl <;> rcases (by omega : l = 0 ∨ l = 1 ∨ l = 2) with rfl | rfl | rfl
  · obtain ⟨⟨p, r1⟩, w1⟩ := ua.z rfl
    obtain ⟨⟨q, r2⟩, w2⟩ := ub.z rfl
    simp [r1, r2, Datum.product, Format.write, nearest_zero]
  · obtain ⟨⟨p, r1⟩, w1⟩ := ua.z rfl
    obtain ⟨r2, n0, nl, nw, w2⟩ := ub.f rfl
    simp [r1, r2, Datum.product, Format.write, nearest_zero]
  · obtain ⟨⟨p, r1⟩, w1⟩ := ua.z rfl
    obtain ⟨r2, w2⟩ := ub.i rfl
    simp [r1, r2, Datum.product]
  · obtain ⟨r1, m0, ml, mw, w1⟩ := ua.f rfl
    obtain ⟨⟨q, r2⟩, w2⟩ := ub.z rfl
    simp [r1, r2, Datum.product, Format.write, nearest_zero]
  · obtain ⟨r1, m0, ml, mw, w1⟩ := ua.f rfl
    obtain ⟨r2, n0, nl, nw, w2⟩ := ub.f rfl
    rw [if_neg (by omega), if_neg (by omega), r1, r2]
    simp only [Datum.product, Option.map_some, Option.getD_some, Format.write]
    have hl1 := log52 m0 ml hfb.2
    have hl2 := log52 n0 nl hfb.2
    have b1 := liftM_bd (at_ := 63) m0 (by omega)
    have b2 := liftM_bd (at_ := 63) n0 (by omega)
    have c1 : (2 ^ 63) * (2 ^ 63) ≤ liftM m 63 * liftM n 63 := Nat.mul_le_mul b1.1 b2.1
    have c2 : liftM m 63 * liftM n 63 < 2 ^ 64 * 2 ^ 64 := Nat.mul_lt_mul'' b1.2 b2.2
    symm
    have e0 : liftM m 63 * liftM n 63 = m * n * 2 ^ ((63 - m.log2) + (63 - n.log2)) := by
      unfold liftM
      rw [Nat.pow_add, Nat.mul_mul_mul_comm]
    have e1 : liftE m i 63 + liftE n j 63 = i + j - (((63 - m.log2) + (63 - n.log2) : Nat) : Int) := by
      unfold liftE; omega
    rw [← nearest_scale F (s ^^ t) (m * n) (i + j) ((63 - m.log2) + (63 - n.log2)), ← e0, ← e1]
    refine soft_nearest hF _ (by omega) ?_
    rw [show (liftE m i 63 + liftE n j 63 + 64 - (liftE m i 63 + liftE n j 63)).toNat = 64 by omega]
    generalize liftM m 63 * liftM n 63 = Pm at *
    refine ⟨by omega, by omega, fun hs => ?_, fun hs => ⟨by omega, ?_⟩⟩
    · have : Pm % 18446744073709551616 = 0 := by simpa using hs
      omega
    · have : Pm % 18446744073709551616 ≠ 0 := by simpa using hs
      omega
  · obtain ⟨r1, m0, ml, mw, w1⟩ := ua.f rfl
    obtain ⟨r2, w2⟩ := ub.i rfl
    simp [r1, r2, Datum.product, Format.write, m0, Bool.xor_comm]
  · obtain ⟨r1, w1⟩ := ua.i rfl
    obtain ⟨⟨q, r2⟩, w2⟩ := ub.z rfl
    simp [r1, r2, Datum.product]
  · obtain ⟨r1, w1⟩ := ua.i rfl
    obtain ⟨r2, n0, nl, nw, w2⟩ := ub.f rfl
    simp [r1, r2, Datum.product, Format.write, n0]
  · obtain ⟨r1, w1⟩ := ua.i rfl
    obtain ⟨r2, w2⟩ := ub.i rfl
    simp [r1, r2, Datum.product, Format.write]
end
end Go.Proofs.Qxb6500275aGreatDoor
