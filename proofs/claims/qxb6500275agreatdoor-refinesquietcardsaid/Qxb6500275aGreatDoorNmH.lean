import Derived.Test.Qxb6500275aGreatDoorNmG
set_option maxRecDepth 20000
namespace Ieee
open Ieee

theorem rootFrom_lt (n : Nat) : ∀ (todo root : Nat), Datum.rootFrom n todo root < root + 2 ^ todo
  | 0, root => by simp [Datum.rootFrom]
  | t + 1, root => by
    unfold Datum.rootFrom
    dsimp only
    rw [Nat.shiftLeft_eq, Nat.one_mul, Nat.pow_succ]
    split
    · have := rootFrom_lt n t (root + 2 ^ t); omega
    · have := rootFrom_lt n t root; omega

theorem log2_le_of_lt {a k : Nat} (h : a < 2 ^ (k + 1)) : a.log2 ≤ k := by
  by_cases h0 : a = 0
  · subst h0; simp
  · have := (Nat.log2_lt h0).2 h
    omega

theorem root_top {digits m : Nat} {i : Int} {d : Datum} (h : (Datum.number false m i).root digits = some d) : ∃ q p, d = .number false q p ∧ p + q.log2 ≤ max ((i + m.log2) / 2) i := by
  unfold Datum.root at h
  split at h
  · rename_i hc; cases hc
  · rename_i hc; cases hc
  · rename_i hc
    cases hc
    split at h
    · rename_i h0
      cases h
      subst h0
      exact ⟨0, i, rfl, by simp; omega⟩
    · split at h
      · rename_i hf; cases hf
      · rename_i h0 _
        cases h
        generalize hk : (2 * digits - m.log2) + ((i - ((2 * digits - m.log2 : Nat) : Int)) % 2).toNat = more
        generalize hw : Datum.rootFrom (m <<< more) ((m <<< more).log2 / 2 + 1) 0 = whole
        have hlt : whole < 2 ^ ((m <<< more).log2 / 2 + 1) := by have := rootFrom_lt (m <<< more) ((m <<< more).log2 / 2 + 1) 0; omega
        have hn : (m <<< more).log2 ≤ m.log2 + more := by
          refine log2_le_of_lt ?_
          rw [Nat.shiftLeft_eq]
          have : m < 2 ^ (m.log2 + 1) := Nat.lt_log2_self
          have := Nat.mul_lt_mul_of_pos_right this (Nat.two_pow_pos more)
          rw [← Nat.pow_add] at this
          exact Nat.lt_of_lt_of_le this (Nat.pow_le_pow_right (by decide) (by omega))
        refine ⟨_, _, rfl, ?_⟩
        have hq : (2 * whole + (whole * whole != m <<< more).toNat).log2 ≤ (m <<< more).log2 / 2 + 1 := by
          refine log2_le_of_lt ?_
          have := Bool.toNat_le (whole * whole != m <<< more)
          rw [Nat.pow_succ]
          omega
        omega

theorem magOf_lt {m T : Nat} {i : Int} (h : i + m.log2 ≤ T) : magOf m i < 2 ^ (T + 1) := by
  unfold magOf
  have hm : m < 2 ^ (m.log2 + 1) := Nat.lt_log2_self
  by_cases hi : 0 ≤ i
  · have e1 : (-i).toNat = 0 := by omega
    rw [e1, Nat.pow_zero, Nat.div_one]
    have := Nat.mul_lt_mul_of_pos_right hm (Nat.two_pow_pos i.toNat)
    rw [← Nat.pow_add] at this
    exact Nat.lt_of_lt_of_le this (Nat.pow_le_pow_right (by decide) (by omega))
  · have e1 : i.toNat = 0 := by omega
    rw [e1, Nat.pow_zero, Nat.mul_one]
    refine Nat.div_lt_of_lt_mul ?_
    rw [← Nat.pow_add]
    exact Nat.lt_of_lt_of_le hm (Nat.pow_le_pow_right (by decide) (by omega))

/- the root of a float32, by way of float64, is a float32 -/
theorem sqrt_chain {x : Nat} {s : Bool} {m : Nat} {i : Int} (h : single.read x = .number s m i) {r : Nat} (hr : double.sqrt (double.nearest s m i) = some r) :
    ∃ s' m' i', double.read r = .number s' m' i' ∧ ∃ m'' i'', single.read (single.nearest s' m' i') = .number s' m'' i'' := by
  obtain ⟨_, _, _, h4⟩ := read_single h
  obtain ⟨m1, i1, e1, t1, _⟩ := near_double s m i (by omega)
  unfold Format.sqrt at hr
  rw [e1] at hr
  cases s with
  | true =>
    simp only [Datum.root, if_true] at hr
    split at hr
    · rename_i h0
      subst h0
      simp at hr
      subst hr
      unfold Format.write
      dsimp only
      have l0 : Nat.log2 0 = 0 := rfl
      rw [l0] at t1
      obtain ⟨_, _, hi2, _⟩ := read_double e1
      have hi3 : i1 = -1074 := by omega
      obtain ⟨m2, i2, e2, t2, _⟩ := near_double true 0 i1 (by rw [l0]; omega)
      rw [l0] at t2
      obtain ⟨m3, i3, e3, _⟩ := near_single true m2 i2 (by omega)
      exact ⟨true, m2, i2, e2, m3, i3, e3⟩
    · simp at hr
  | false =>
    cases hd : (Datum.number false m1 i1).root (double.fractionBits + 2) with
    | none => rw [hd] at hr; simp at hr
    | some d =>
      rw [hd] at hr
      obtain ⟨q, p, ed, tq⟩ := root_top hd
      subst ed
      simp only [Option.map_some, Option.some.injEq] at hr
      subst hr
      unfold Format.write
      dsimp only
      obtain ⟨hm1, hi1, hi2, _⟩ := read_double e1
      have hlog : m1.log2 = 52 ∨ i1 = -1074 := by
        rcases hi2 with hi2 | hi2
        · exact .inr hi2
        · refine .inl ?_
          have a : m1.log2 ≤ 52 := log2_le_of_lt (by omega)
          have b : 52 ≤ m1.log2 := (Nat.le_log2 (by omega)).2 (by omega)
          omega
      obtain ⟨m2, i2, e2, t2, _⟩ := near_double false q p (by omega)
      obtain ⟨m3, i3, e3, _⟩ := near_single false m2 i2 (by omega)
      exact ⟨false, m2, i2, e2, m3, i3, e3⟩

theorem single_63 : single.read 1593835520 = .number false 8388608 40 := by rfl
theorem single_64 : single.read 1602224128 = .number false 8388608 41 := by rfl
theorem single_top {x : Nat} (h1 : single.order x 1593835520 = some .gt ∨ single.order x 1593835520 = some .eq) (h2 : single.order x 1602224128 = some .lt) {r : Nat} (hr : single.sub x 1593835520 = some r) :
    ∃ v, (single.read r).toInt .zero = some v ∧ -9223372036854775808 ≤ v ∧ v ≤ 9223372036854775807 := by
  unfold Format.order at h1 h2
  unfold Format.sub at hr
  rw [single_63] at h1 hr
  rw [single_64] at h2
  cases hx : single.read x with
  | nan s f => rw [hx] at h2; simp [Datum.order] at h2
  | infinity s => rw [hx] at h1 h2; cases s <;> simp [Datum.order] at h1 h2
  | number s m i =>
    obtain ⟨hm, hi, hn, _⟩ := read_single hx
    rw [hx] at h1 h2 hr
    have hge : ∀ o, Datum.order (.number s m i) (.number false 8388608 40) = some o → o ≠ .lt → s = false ∧ 8388608 * 2 ^ (40 - min i 40).toNat ≤ m * 2 ^ (i - min i 40).toNat := by
      intro o ho hne
      simp only [Datum.order, signed, Bool.false_eq_true, if_false, Option.some.injEq, Nat.shiftLeft_eq] at ho
      have hge' : (((8388608 * 2 ^ (40 - min i 40).toNat : Nat)) : Int) ≤ (if s = true then -((m * 2 ^ (i - min i 40).toNat : Nat) : Int) else ((m * 2 ^ (i - min i 40).toNat : Nat) : Int)) := by
        cases o with
        | lt => exact absurd rfl hne
        | eq => have := cmp_eq ho; omega
        | gt => have := cmp_gt ho; omega
      have hpos : 0 < 8388608 * 2 ^ (40 - min i 40).toNat := Nat.mul_pos (by decide) (Nat.two_pow_pos _)
      cases s with
      | true => simp only [if_true] at hge'; omega
      | false => simp only [Bool.false_eq_true, if_false] at hge'; exact ⟨rfl, by exact_mod_cast hge'⟩
    obtain ⟨hs, hg⟩ : s = false ∧ 8388608 * 2 ^ (40 - min i 40).toNat ≤ m * 2 ^ (i - min i 40).toNat := by
      rcases h1 with h1 | h1
      · exact hge _ h1 (by decide)
      · exact hge _ h1 (by decide)
    subst hs
    simp only [Datum.order, signed, Bool.false_eq_true, if_false, Option.some.injEq, Nat.shiftLeft_eq] at h2
    have hl := cmp_lt h2
    have hl' : m * 2 ^ (i - min i 41).toNat < 8388608 * 2 ^ (41 - min i 41).toNat := by exact_mod_cast hl
    have hi40 : i = 40 := by
      rcases Int.lt_trichotomy i 40 with hlt | heq | hgt
      · exfalso
        have e1 : min i 40 = i := by omega
        rw [e1] at hg
        have e2 : (i - i).toNat = 0 := by omega
        have e3 : (40 - i).toNat = (39 - i).toNat + 1 := by omega
        rw [e2, e3, Nat.pow_succ, Nat.pow_zero, Nat.mul_one] at hg
        have := Nat.two_pow_pos (39 - i).toNat
        omega
      · exact heq
      · exfalso
        have e1 : min i 41 = 41 := by omega
        rw [e1] at hl'
        have e2 : ((41 : Int) - 41).toNat = 0 := rfl
        rw [e2, Nat.pow_zero, Nat.mul_one] at hl'
        have := Nat.mul_le_mul_left m (Nat.two_pow_pos (i - 41).toNat)
        omega
    subst hi40
    have e0 : min (40 : Int) 40 = 40 := rfl
    have e2 : ((40 : Int) - 40).toNat = 0 := rfl
    rw [e0, e2] at hg
    simp at hg
    simp only [Datum.opposite, Datum.sum, e0, e2, signed, Nat.shiftLeft_zero, Bool.not_false, if_true, Bool.false_eq_true, if_false, Option.map_some, Option.some.injEq] at hr
    subst hr
    unfold Format.write
    dsimp only
    generalize hneg : (if (m : Int) + -((8388608 : Nat) : Int) = 0 then false && true else decide ((m : Int) + -((8388608 : Nat) : Int) < 0)) = neg
    have hmag : ((m : Int) + -((8388608 : Nat) : Int)).natAbs < 8388608 := by omega
    generalize ((m : Int) + -((8388608 : Nat) : Int)).natAbs = mag at hmag
    have hlog : mag.log2 ≤ 22 := log2_le_of_lt (by omega)
    obtain ⟨m', i', e, _, t⟩ := near_single neg mag 40 (by omega)
    have t' := t (by omega)
    rw [e, toInt_number]
    have hM := magOf_lt (T := 62) (m := m') (i := i') (by omega)
    refine ⟨_, rfl, ?_⟩
    split <;> omega

theorem double_63 : double.read 4890909195324358656 = .number false 4503599627370496 11 := by rfl
theorem double_64 : double.read 4895412794951729152 = .number false 4503599627370496 12 := by rfl
theorem double_top {x : Nat} (h1 : double.order x 4890909195324358656 = some .gt ∨ double.order x 4890909195324358656 = some .eq) (h2 : double.order x 4895412794951729152 = some .lt) {r : Nat} (hr : double.sub x 4890909195324358656 = some r) :
    ∃ v, (double.read r).toInt .zero = some v ∧ -9223372036854775808 ≤ v ∧ v ≤ 9223372036854775807 := by
  unfold Format.order at h1 h2
  unfold Format.sub at hr
  rw [double_63] at h1 hr
  rw [double_64] at h2
  cases hx : double.read x with
  | nan s f => rw [hx] at h2; simp [Datum.order] at h2
  | infinity s => rw [hx] at h1 h2; cases s <;> simp [Datum.order] at h1 h2
  | number s m i =>
    obtain ⟨hm, hi, hn, _⟩ := read_double hx
    rw [hx] at h1 h2 hr
    have hge : ∀ o, Datum.order (.number s m i) (.number false 4503599627370496 11) = some o → o ≠ .lt → s = false ∧ 4503599627370496 * 2 ^ (11 - min i 11).toNat ≤ m * 2 ^ (i - min i 11).toNat := by
      intro o ho hne
      simp only [Datum.order, signed, Bool.false_eq_true, if_false, Option.some.injEq, Nat.shiftLeft_eq] at ho
      have hge' : (((4503599627370496 * 2 ^ (11 - min i 11).toNat : Nat)) : Int) ≤ (if s = true then -((m * 2 ^ (i - min i 11).toNat : Nat) : Int) else ((m * 2 ^ (i - min i 11).toNat : Nat) : Int)) := by
        cases o with
        | lt => exact absurd rfl hne
        | eq => have := cmp_eq ho; omega
        | gt => have := cmp_gt ho; omega
      have hpos : 0 < 4503599627370496 * 2 ^ (11 - min i 11).toNat := Nat.mul_pos (by decide) (Nat.two_pow_pos _)
      cases s with
      | true => simp only [if_true] at hge'; omega
      | false => simp only [Bool.false_eq_true, if_false] at hge'; exact ⟨rfl, by exact_mod_cast hge'⟩
    obtain ⟨hs, hg⟩ : s = false ∧ 4503599627370496 * 2 ^ (11 - min i 11).toNat ≤ m * 2 ^ (i - min i 11).toNat := by
      rcases h1 with h1 | h1
      · exact hge _ h1 (by decide)
      · exact hge _ h1 (by decide)
    subst hs
    simp only [Datum.order, signed, Bool.false_eq_true, if_false, Option.some.injEq, Nat.shiftLeft_eq] at h2
    have hl := cmp_lt h2
    have hl' : m * 2 ^ (i - min i 12).toNat < 4503599627370496 * 2 ^ (12 - min i 12).toNat := by exact_mod_cast hl
    have hi40 : i = 11 := by
      rcases Int.lt_trichotomy i 11 with hlt | heq | hgt
      · exfalso
        have e1 : min i 11 = i := by omega
        rw [e1] at hg
        have e2 : (i - i).toNat = 0 := by omega
        have e3 : (11 - i).toNat = (10 - i).toNat + 1 := by omega
        rw [e2, e3, Nat.pow_succ, Nat.pow_zero, Nat.mul_one] at hg
        have := Nat.two_pow_pos (10 - i).toNat
        omega
      · exact heq
      · exfalso
        have e1 : min i 12 = 12 := by omega
        rw [e1] at hl'
        have e2 : ((12 : Int) - 12).toNat = 0 := rfl
        rw [e2, Nat.pow_zero, Nat.mul_one] at hl'
        have := Nat.mul_le_mul_left m (Nat.two_pow_pos (i - 12).toNat)
        omega
    subst hi40
    have e0 : min (11 : Int) 11 = 11 := rfl
    have e2 : ((11 : Int) - 11).toNat = 0 := rfl
    rw [e0, e2] at hg
    simp at hg
    simp only [Datum.opposite, Datum.sum, e0, e2, signed, Nat.shiftLeft_zero, Bool.not_false, if_true, Bool.false_eq_true, if_false, Option.map_some, Option.some.injEq] at hr
    subst hr
    unfold Format.write
    dsimp only
    generalize hneg : (if (m : Int) + -((4503599627370496 : Nat) : Int) = 0 then false && true else decide ((m : Int) + -((4503599627370496 : Nat) : Int) < 0)) = neg
    have hmag : ((m : Int) + -((4503599627370496 : Nat) : Int)).natAbs < 4503599627370496 := by omega
    generalize ((m : Int) + -((4503599627370496 : Nat) : Int)).natAbs = mag at hmag
    have hlog : mag.log2 ≤ 51 := log2_le_of_lt (by omega)
    obtain ⟨m', i', e, _, t⟩ := near_double neg mag 11 (by omega)
    have t' := t (by omega)
    rw [e, toInt_number]
    have hM := magOf_lt (T := 62) (m := m') (i := i') (by omega)
    refine ⟨_, rfl, ?_⟩
    split <;> omega

end Ieee
