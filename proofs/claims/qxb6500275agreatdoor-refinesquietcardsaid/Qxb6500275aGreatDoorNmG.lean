import Derived.Test.Qxb6500275aGreatDoorNmF
set_option maxRecDepth 20000
namespace Ieee
open Ieee

theorem read_num (f : Format) {x : Nat} {s : Bool} {m : Nat} {i : Int} (h : f.read x = .number s m i) :
    m < 2 * f.binade ∧ f.leastPlace ≤ i ∧ (i = f.leastPlace ∨ f.binade ≤ m) ∧ i + m.log2 ≤ f.leastPlace + max ((f.infRung - 1) / f.binade) 1 - 1 + f.fractionBits := by
  have hB : 0 < f.binade := Nat.two_pow_pos _
  have hlog : ∀ m : Nat, m < 2 * f.binade → m.log2 ≤ f.fractionBits := by
    intro m hm
    by_cases h0 : m = 0
    · subst h0; simp
    · have : m < 2 ^ (f.fractionBits + 1) := by unfold Format.binade at hm; rw [Nat.pow_succ]; omega
      have := (Nat.log2_lt h0).2 this
      omega
  unfold Format.read at h
  dsimp only at h
  generalize x % f.signWeight = R at h
  split at h
  · rename_i h1
    cases h
    have := hlog m (by omega)
    exact ⟨by omega, by omega, .inl rfl, by omega⟩
  · split at h
    · rename_i h1 h2
      cases h
      have hm := Nat.mod_lt R hB
      have hl := hlog (f.binade + R % f.binade) (by omega)
      have h3 : R / f.binade ≤ (f.infRung - 1) / f.binade := Nat.div_le_div_right (by omega)
      have h4 : 1 ≤ R / f.binade := (Nat.one_le_div_iff hB).2 (by omega)
      exact ⟨by omega, by omega, .inr (by omega), by omega⟩
    · split at h <;> cases h

theorem s_least : single.leastPlace = -149 := rfl
theorem d_least : double.leastPlace = -1074 := rfl
theorem s_bin : single.binade = 8388608 := rfl
theorem d_bin : double.binade = 4503599627370496 := rfl
theorem s_inf : (single.infRung - 1) / single.binade = 254 := by decide
theorem d_inf : (double.infRung - 1) / double.binade = 2046 := by
  show ((2 ^ 11 - 1) * 2 ^ 52 - 1) / 2 ^ 52 = 2046
  rfl

theorem read_single {x : Nat} {s : Bool} {m : Nat} {i : Int} (h : single.read x = .number s m i) :
    m < 16777216 ∧ -149 ≤ i ∧ (i = -149 ∨ 8388608 ≤ m) ∧ i + m.log2 ≤ 127 := by
  obtain ⟨h1, h2, h3, h4⟩ := read_num single h
  rw [s_inf] at h4
  rw [s_bin] at h1 h3
  rw [s_least] at h2 h3 h4
  have : (single.fractionBits : Int) = 23 := rfl
  exact ⟨by omega, by omega, by omega, by omega⟩

theorem read_double {x : Nat} {s : Bool} {m : Nat} {i : Int} (h : double.read x = .number s m i) :
    m < 9007199254740992 ∧ -1074 ≤ i ∧ (i = -1074 ∨ 4503599627370496 ≤ m) ∧ i + m.log2 ≤ 1023 := by
  obtain ⟨h1, h2, h3, h4⟩ := read_num double h
  rw [d_inf] at h4
  rw [d_bin] at h1 h3
  rw [d_least] at h2 h3 h4
  have : (double.fractionBits : Int) = 52 := rfl
  exact ⟨by omega, by omega, by omega, by omega⟩

theorem near_double (s : Bool) (m : Nat) (i : Int) (h : i + m.log2 ≤ 1000) : ∃ m' i', double.read (double.nearest s m i) = .number s m' i' ∧ i' + m'.log2 ≤ max (i + m.log2) (-1022) + 1 ∧
    (max (i + m.log2 - 52) (-1074) ≤ i → i' + m'.log2 ≤ max (i + m.log2) (-1022)) := by
  have e1 : (double.fractionBits : Int) = 52 := rfl
  have e2 : double.exponentBits = 11 := rfl
  obtain ⟨m', i', a, b, c⟩ := read_nearest double s m i (by rw [e1, e2, d_least]; omega)
  rw [e1, d_least] at b c
  exact ⟨m', i', a, by omega, fun hc => by have := c hc; omega⟩

theorem near_single (s : Bool) (m : Nat) (i : Int) (h : i + m.log2 ≤ 126) : ∃ m' i', single.read (single.nearest s m i) = .number s m' i' ∧ i' + m'.log2 ≤ max (i + m.log2) (-126) + 1 ∧
    (max (i + m.log2 - 23) (-149) ≤ i → i' + m'.log2 ≤ max (i + m.log2) (-126)) := by
  have e1 : (single.fractionBits : Int) = 23 := rfl
  have e2 : single.exponentBits = 8 := rfl
  obtain ⟨m', i', a, b, c⟩ := read_nearest single s m i (by rw [e1, e2, s_least]; omega)
  rw [e1, s_least] at b c
  exact ⟨m', i', a, by omega, fun hc => by have := c hc; omega⟩

/- f32.demote_f64 within its range -/
theorem demote_ok {x : Nat} {s : Bool} {m : Nat} {i : Int} (h : double.read x = .number s m i)
    (hlt : m * 2 ^ (i - min i 75).toNat < 9007198986305536 * 2 ^ (75 - min i 75).toNat) : ∃ m' i', single.read (single.nearest s m i) = .number s m' i' := by
  obtain ⟨h1, h2, h3, h4⟩ := read_double h
  by_cases hT : i + m.log2 ≤ 126
  · obtain ⟨m', i', a, _⟩ := near_single s m i hT
    exact ⟨m', i', a⟩
  have hm0 : m ≠ 0 := by rintro rfl; simp at hT; omega
  have hlog : m.log2 ≤ 52 := by
    have : m < 2 ^ 53 := by omega
    have := (Nat.log2_lt hm0).2 this
    omega
  have hi : 75 ≤ i := by omega
  have hm : 4503599627370496 ≤ m := by omega
  have hi75 : i = 75 := by
    refine Classical.byContradiction fun hne => ?_
    have e1 : min i 75 = 75 := by omega
    rw [e1] at hlt
    have e2 : (75 - 75 : Int).toNat = 0 := rfl
    rw [e2] at hlt
    have e3 : (i - 75).toNat = (i - 76).toNat + 1 := by omega
    rw [e3, Nat.pow_succ] at hlt
    have hp : 1 ≤ 2 ^ (i - 76).toNat := Nat.two_pow_pos _
    have : m * 1 ≤ m * 2 ^ (i - 76).toNat := Nat.mul_le_mul_left _ hp
    have e4 : m * (2 ^ (i - 76).toNat * 2) = m * 2 ^ (i - 76).toNat * 2 := by rw [Nat.mul_assoc]
    omega
  subst hi75
  have hlt' : m < 9007198986305536 := by simpa using hlt
  have hlog' : m.log2 = 52 := by
    have : 52 ≤ m.log2 := (Nat.le_log2 hm0).2 (by omega)
    omega
  have key : single.nearest s m 75 = single.word s (253 * 8388608 + Toward.even.cut s m 29) := by
    unfold Format.nearest
    rw [if_neg hm0, hlog']
    have e1 : max ((75 : Int) + (52 : Nat) - (single.fractionBits : Nat)) single.leastPlace = 104 := rfl
    simp only [e1]
    have e2 : ((75 : Int) - 104).toNat = 0 := rfl
    have e3 : ((104 : Int) - 75).toNat = 29 := rfl
    have e4 : ((104 : Int) - single.leastPlace).toNat = 253 := rfl
    rw [e2, e3, e4, s_bin, Nat.shiftLeft_zero]
    have : Toward.even.cut s m 29 ≤ m / 2 ^ 29 + 1 := cut_even_le s m 29
    have e5 : single.infRung = 2139095040 := rfl
    rw [e5, Nat.min_eq_left (by omega)]
  have hk : Toward.even.cut s m 29 ≤ 16777215 := by
    unfold Toward.cut
    rw [hlog']
    have e1 : min 29 (52 + 2) = 29 := rfl
    simp only [e1, Nat.shiftLeft_eq, Nat.one_mul]
    by_cases hq : m / 2 ^ 29 ≤ 16777214
    · have := Bool.toNat_le (decide (2 ^ 29 < 2 * (m % 2 ^ 29)) || (2 ^ 29 == 2 * (m % 2 ^ 29)) && m / 2 ^ 29 % 2 == 1)
      omega
    · have h5 : 2 * (m % 2 ^ 29) < 2 ^ 29 := by omega
      have h6 : (decide (2 ^ 29 < 2 * (m % 2 ^ 29)) || (2 ^ 29 == 2 * (m % 2 ^ 29)) && m / 2 ^ 29 % 2 == 1) = false := by
        have a1 : decide (2 ^ 29 < 2 * (m % 2 ^ 29)) = false := decide_eq_false (by omega)
        have a2 : (2 ^ 29 == 2 * (m % 2 ^ 29)) = false := beq_eq_false_iff_ne.2 (by omega)
        rw [a1, a2]; rfl
      rw [h6]
      simp
      omega
  rw [key]
  obtain ⟨m', i', e, _⟩ := read_word single s (253 * 8388608 + Toward.even.cut s m 29) (by
    have e5 : single.infRung = 2139095040 := rfl
    omega)
  exact ⟨m', i', e⟩
end Ieee
