import Derived.Test.Qxb6500275aGreatDoorFl2
set_option linter.unusedVariables false
set_option linter.unusedSimpArgs false
namespace Go.Proofs.Qxb6500275aGreatDoor
open Ieee
/- (m + s) * 2 ^ k = A: s = 0, or something below 1 -/
structure Near (m k A : Nat) (sticky : Bool) : Prop where
  m0 : m ≠ 0
  m64 : m < 18446744073709551616
  ex : sticky = false → A = m * 2 ^ k
  st : sticky = true → 9007199254740992 ≤ m ∧ m * 2 ^ k < A ∧ A < (m + 1) * 2 ^ k
section
variable {m k A : Nat} {sticky : Bool}
theorem Near.bt (h : Near m k A sticky) : m * 2 ^ k ≤ A ∧ A < (m + 1) * 2 ^ k := by
  have hk : 0 < 2 ^ k := Nat.two_pow_pos k
  cases sticky with
  | false =>
    have := h.ex rfl
    rw [Nat.add_mul]
    omega
  | true =>
    have := h.st rfl
    omega
theorem Near.log (h : Near m k A sticky) : A.log2 = m.log2 + k := log2_between h.m0 h.bt.1 h.bt.2
theorem Near.l63 (h : Near m k A sticky) : m.log2 ≤ 63 := by
  have := (Nat.log2_lt h.m0).2 (show m < 2 ^ 64 from h.m64)
  omega
theorem Near.kept (h : Near m k A sticky) (keep : Nat) (hk : keep ≤ 53) (T : Int) (hT : T = (m.log2 : Int) + k + 1 - keep) : rnd (A * 2 ^ (-T).toNat) (2 ^ T.toNat) = upq (m * 2 ^ (63 - m.log2)) (64 - keep) sticky := by
  have hl := h.l63
  obtain ⟨s, hs⟩ : ∃ s, 63 - m.log2 = s := ⟨_, rfl⟩
  obtain ⟨c, hc⟩ : ∃ c, 64 - keep = c := ⟨_, rfl⟩
  rw [hs, hc]
  have key : rnd (A * 2 ^ s) (2 ^ c * 2 ^ k) = upq (m * 2 ^ s) c sticky := by
    cases sticky with
    | false =>
      rw [h.ex rfl, Nat.mul_right_comm, rnd_scale]
      exact upq_exact _ _ (by omega)
    | true =>
      obtain ⟨h1, h2, h3⟩ := h.st rfl
      have h53 : 53 ≤ m.log2 := (Nat.le_log2 h.m0).2 (show 2 ^ 53 ≤ m from h1)
      exact upq_sticky m s c k A (by omega) h2 h3
  rw [← key]
  by_cases hTs : 0 ≤ T
  · have e1 : (-T).toNat = 0 := by omega
    have e2 : c + k = T.toNat + s := by omega
    rw [e1, Nat.pow_zero, Nat.mul_one, ← Nat.pow_add, e2, Nat.pow_add, rnd_scale]
  · have e1 : T.toNat = 0 := by omega
    have e2 : s = (-T).toNat + (c + k) := by omega
    rw [e1, Nat.pow_zero, rnd_one, ← Nat.pow_add, e2, Nat.pow_add, ← Nat.mul_assoc]
    have : rnd (A * 2 ^ (-T).toNat * 2 ^ (c + k)) (1 * 2 ^ (c + k)) = rnd (A * 2 ^ (-T).toNat) 1 := rnd_scale _ _ _
    rw [Nat.one_mul] at this
    rw [this, rnd_one]
end
theorem upq_le (M c keep : Nat) (sticky : Bool) (hM : M < 2 ^ 64) (hc : c = 64 - keep) (hk : keep ≤ 64) : upq M c sticky ≤ 2 ^ keep := by
  have h1 : M / 2 ^ c < 2 ^ keep := by
    rw [Nat.div_lt_iff_lt_mul (Nat.two_pow_pos _), ← Nat.pow_add, hc]
    rw [show keep + (64 - keep) = 64 by omega]
    exact hM
  unfold upq
  split
  · omega
  · omega
theorem upq_ge (M c keep : Nat) (sticky : Bool) (hM : 2 ^ 63 ≤ M) (hc : c = 64 - keep) (hk : 1 ≤ keep ∧ keep ≤ 64) : 2 ^ (keep - 1) ≤ upq M c sticky := by
  have h1 : 2 ^ (keep - 1) ≤ M / 2 ^ c := by
    rw [Nat.le_div_iff_mul_le (Nat.two_pow_pos _), ← Nat.pow_add, hc]
    rw [show keep - 1 + (64 - keep) = 63 by omega]
    exact hM
  unfold upq
  split
  · omega
  · omega
/- a format of 24 or 53 digits -/
structure Fmt (F : Format) (bi : Nat) : Prop where
  fb : 1 ≤ F.fractionBits ∧ F.fractionBits ≤ 52
  eb : 2 ^ F.exponentBits = 2 * (bi + 1)
  e1 : 2 ^ (F.exponentBits - 1) = bi + 1
  b1 : 1 ≤ bi
theorem fmt_single : Fmt single 127 := ⟨by decide, by decide, by decide, by decide⟩
theorem fmt_double : Fmt double 1023 := ⟨by decide, by decide, by decide, by decide⟩
theorem Fmt.least {F : Format} {bi : Nat} (h : Fmt F bi) : F.leastPlace = 1 - (bi : Int) - F.fractionBits := by
  unfold Format.leastPlace
  have : ((2 ^ (F.exponentBits - 1) : Nat) : Int) = ((bi + 1 : Nat) : Int) := by rw [h.e1]
  simp at this
  rw [this]
  omega
theorem Fmt.inf {F : Format} {bi : Nat} (h : Fmt F bi) : F.infRung = (2 * bi + 1) * 2 ^ F.fractionBits := by
  unfold Format.infRung Format.binade
  rw [h.eb]
  congr 1
/- THE ROUNDING IS IEEE's -/
theorem soft_nearest {F : Format} {bi : Nat} (hF : Fmt F bi) (neg : Bool) {m A : Nat} {e place : Int} {sticky : Bool} (hpe : place ≤ e) (h : Near m (e - place).toNat A sticky) : F.nearest neg A place = softRound F bi neg m e sticky := by
  have hA0 : A ≠ 0 := by
    have := h.bt.1
    have : 0 < m * 2 ^ (e - place).toNat := Nat.mul_pos (by have := h.m0; omega) (Nat.two_pow_pos _)
    omega
  have hL := h.log
  have hl := h.l63
  have hfb := hF.fb
  have hM : m * 2 ^ (63 - m.log2) < 2 ^ 64 := by
    have : m < 2 ^ (m.log2 + 1) := Nat.lt_log2_self
    have h2 : m * 2 ^ (63 - m.log2) < 2 ^ (m.log2 + 1) * 2 ^ (63 - m.log2) := Nat.mul_lt_mul_of_pos_right this (Nat.two_pow_pos _)
    rw [← Nat.pow_add, show m.log2 + 1 + (63 - m.log2) = 64 by omega] at h2
    exact h2
  have hM2 : 2 ^ 63 ≤ m * 2 ^ (63 - m.log2) := by
    have : 2 ^ m.log2 ≤ m := Nat.log2_self_le h.m0
    have h2 : 2 ^ m.log2 * 2 ^ (63 - m.log2) ≤ m * 2 ^ (63 - m.log2) := Nat.mul_le_mul_right _ this
    rw [← Nat.pow_add, show m.log2 + (63 - m.log2) = 63 by omega] at h2
    exact h2
  unfold Format.nearest softRound
  rw [if_neg hA0, hF.least]
  dsimp only
  rw [cut_rnd, Nat.shiftLeft_eq, hF.inf]
  obtain ⟨ex, hex⟩ : ∃ ex : Int, e - ((63 - m.log2 : Nat) : Int) + 63 = ex := ⟨_, rfl⟩
  have hex2 : ex = place + A.log2 := by omega
  rw [hex]
  have hfp : 0 < 2 ^ F.fractionBits := Nat.two_pow_pos _
  by_cases hsub : ex < 1 - (bi : Int)
  · have hlast : max (place + (A.log2 : Int) - (F.fractionBits : Int)) (1 - (bi : Int) - F.fractionBits) = 1 - (bi : Int) - F.fractionBits := Int.max_eq_right (by omega)
    rw [hlast, if_pos hsub, if_pos hsub]
    have e0 : (1 - (bi : Int) - F.fractionBits - (1 - (bi : Int) - F.fractionBits)).toNat = 0 := by omega
    rw [e0, Nat.zero_mul, Nat.zero_add]
    by_cases hkp : (F.fractionBits : Int) + 1 - (1 - bi - ex) < 0
    · rw [if_pos hkp]
      have hz : rnd (A * 2 ^ (place - (1 - (bi : Int) - F.fractionBits)).toNat) (2 ^ (1 - (bi : Int) - F.fractionBits - place).toNat) = 0 := by
        rw [show (place - (1 - (bi : Int) - F.fractionBits)).toNat = 0 by omega, Nat.pow_zero, Nat.mul_one]
        apply rnd_small
        have h1 : A < 2 ^ (A.log2 + 1) := Nat.lt_log2_self
        have h2 : 2 ^ (A.log2 + 2) ≤ 2 ^ (1 - (bi : Int) - F.fractionBits - place).toNat := Nat.pow_le_pow_right (by decide) (by omega)
        rw [Nat.pow_succ] at h2
        omega
      rw [hz, Nat.min_eq_left (Nat.zero_le _)]
    · rw [if_neg hkp]
      obtain ⟨kp, hkpe⟩ : ∃ kp : Nat, (F.fractionBits : Int) + 1 - (1 - bi - ex) = kp := ⟨((F.fractionBits : Int) + 1 - (1 - bi - ex)).toNat, by omega⟩
      rw [hkpe, Int.toNat_natCast]
      have hk := h.kept kp (by omega) (1 - (bi : Int) - F.fractionBits - place) (by omega)
      rw [show (-(1 - (bi : Int) - F.fractionBits - place)) = place - (1 - (bi : Int) - F.fractionBits) by omega] at hk
      rw [hk]
      have hle := upq_le (m * 2 ^ (63 - m.log2)) (64 - kp) kp sticky hM rfl (by omega)
      have hle2 : 2 ^ kp ≤ 2 ^ F.fractionBits := Nat.pow_le_pow_right (by decide) (by omega)
      have hle3 : 1 * 2 ^ F.fractionBits ≤ (2 * bi + 1) * 2 ^ F.fractionBits := Nat.mul_le_mul_right _ (by omega)
      rw [Nat.min_eq_left (by omega)]
  · have hlast : max (place + (A.log2 : Int) - (F.fractionBits : Int)) (1 - (bi : Int) - F.fractionBits) = ex - F.fractionBits := by rw [Int.max_eq_left (by omega)]; omega
    rw [hlast, if_neg hsub, if_neg hsub, if_neg (by omega)]
    have ekp : ((F.fractionBits : Int) + 1).toNat = F.fractionBits + 1 := by omega
    rw [ekp]
    have hk := h.kept (F.fractionBits + 1) (by omega) (ex - F.fractionBits - place) (by omega)
    rw [show (-(ex - F.fractionBits - place)) = place - (ex - F.fractionBits) by omega] at hk
    rw [hk]
    have hle := upq_le (m * 2 ^ (63 - m.log2)) (64 - (F.fractionBits + 1)) (F.fractionBits + 1) sticky hM rfl (by omega)
    have hge := upq_ge (m * 2 ^ (63 - m.log2)) (64 - (F.fractionBits + 1)) (F.fractionBits + 1) sticky hM2 rfl (by omega)
    rw [show F.fractionBits + 1 - 1 = F.fractionBits by omega] at hge
    generalize upq (m * 2 ^ (63 - m.log2)) (64 - (F.fractionBits + 1)) sticky = q at *
    have hp2 : 2 ^ (F.fractionBits + 1) = 2 * 2 ^ F.fractionBits := by rw [Nat.pow_succ, Nat.mul_comm]
    obtain ⟨x, hx⟩ : ∃ x : Nat, ex + bi - 1 = x := ⟨(ex + bi - 1).toNat, by omega⟩
    have ex1 : (ex - F.fractionBits - (1 - (bi : Int) - F.fractionBits)).toNat = x := by omega
    have ex2 : (ex + bi - 1).toNat = x := by omega
    have ex3 : (ex + 1 + bi - 1).toNat = x + 1 := by omega
    rw [ex1, ex2, ex3]
    have hbin : F.binade = 2 ^ F.fractionBits := rfl
    rw [hbin, hp2]
    generalize 2 ^ F.fractionBits = P at *
    by_cases hq : q = 2 * P
    · rw [if_pos hq, hq]
      by_cases hb : (bi : Int) < ex + 1
      · rw [if_pos hb]
        congr 1
        have : (2 * bi + 1) * P ≤ (x + 2) * P := Nat.mul_le_mul_right _ (by omega)
        rw [Nat.add_mul x 2] at this
        rw [Nat.min_eq_right (by omega)]
      · rw [if_neg hb]
        congr 1
        have : (x + 2) * P ≤ (2 * bi + 1) * P := Nat.mul_le_mul_right _ (by omega)
        rw [Nat.add_mul x 2] at this
        rw [Nat.min_eq_left (by omega), Nat.add_mul x 1]
        omega
    · rw [if_neg hq]
      by_cases hb : (bi : Int) < ex
      · rw [if_pos hb]
        congr 1
        have : (2 * bi + 1) * P ≤ (x + 1) * P := Nat.mul_le_mul_right _ (by omega)
        rw [Nat.add_mul x 1] at this
        rw [Nat.min_eq_right (by omega)]
      · rw [if_neg hb]
        congr 1
        have : (x + 2) * P ≤ (2 * bi + 1) * P := Nat.mul_le_mul_right _ (by omega)
        rw [Nat.add_mul x 2] at this
        rw [Nat.min_eq_left (by omega)]
end Go.Proofs.Qxb6500275aGreatDoor
