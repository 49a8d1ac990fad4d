import Derived.WalkLawsBesides
set_option maxRecDepth 20000
namespace Ieee
open Ieee

/- WHAT THE FLOATS' CORE GIVES: no Go here. -/
theorem cmp_lt {a b : Int} (h : compare a b = .lt) : a < b := by
  simp only [compare, compareOfLessAndEq] at h
  split at h
  · assumption
  · split at h <;> cases h
theorem cmp_eq {a b : Int} (h : compare a b = .eq) : a = b := by
  simp only [compare, compareOfLessAndEq] at h
  split at h
  · cases h
  · split at h
    · assumption
    · cases h
theorem cmp_gt {a b : Int} (h : compare a b = .gt) : b < a := by
  simp only [compare, compareOfLessAndEq] at h
  split at h
  · cases h
  · split at h
    · cases h
    · omega
theorem cut_zero (neg : Bool) (n drop : Nat) : Toward.zero.cut neg n drop = n / 2 ^ drop := by
  unfold Toward.cut
  simp only [Bool.toNat_false, Nat.add_zero, Nat.shiftLeft_eq, Nat.one_mul]
  by_cases h : drop ≤ n.log2 + 2
  · rw [Nat.min_eq_left h]
  · have h1 : n < 2 ^ (n.log2 + 2) := Nat.lt_of_lt_of_le (Nat.lt_log2_self (n := n)) (Nat.pow_le_pow_right (by decide) (by omega))
    have h2 : n < 2 ^ drop := Nat.lt_of_lt_of_le h1 (Nat.pow_le_pow_right (by decide) (by omega))
    rw [Nat.min_eq_right (by omega), Nat.div_eq_of_lt h1, Nat.div_eq_of_lt h2]

/- the whole part's magnitude -/
def magOf (m : Nat) (i : Int) : Nat := m * 2 ^ i.toNat / 2 ^ (-i).toNat

theorem toInt_number (s : Bool) (m : Nat) (i : Int) : (Datum.number s m i).toInt .zero = some (if s then -(magOf m i : Int) else (magOf m i : Int)) := by
  unfold Datum.toInt Datum.integral
  simp only [cut_zero, signed, Nat.shiftLeft_eq, magOf, Nat.pow_zero, Nat.mul_one]

theorem mag_lt {m n : Nat} {i j : Int} (hj : 0 ≤ j) (h : m * 2 ^ (i - min i j).toNat < n * 2 ^ (j - min i j).toNat) : magOf m i < n * 2 ^ j.toNat := by
  unfold magOf
  by_cases hi : 0 ≤ i
  · have e1 : (-i).toNat = 0 := by omega
    rw [e1, Nat.pow_zero, Nat.div_one]
    have hb : 0 ≤ min i j := by omega
    have e2 : i.toNat = (i - min i j).toNat + (min i j).toNat := by omega
    have e3 : j.toNat = (j - min i j).toNat + (min i j).toNat := by omega
    rw [e2, e3, Nat.pow_add, Nat.pow_add, ← Nat.mul_assoc, ← Nat.mul_assoc]
    exact Nat.mul_lt_mul_of_pos_right h (Nat.two_pow_pos _)
  · have e1 : i.toNat = 0 := by omega
    have e2 : min i j = i := by omega
    rw [e2] at h
    have e3 : (i - i).toNat = 0 := by omega
    have e4 : (j - i).toNat = j.toNat + (-i).toNat := by omega
    rw [e3, e4, Nat.pow_zero, Nat.mul_one, Nat.pow_add, ← Nat.mul_assoc] at h
    rw [e1, Nat.pow_zero, Nat.mul_one]
    exact Nat.div_lt_of_lt_mul (by rwa [Nat.mul_comm])

theorem mag_le {m n : Nat} {i j : Int} (hj : 0 ≤ j) (h : m * 2 ^ (i - min i j).toNat ≤ n * 2 ^ (j - min i j).toNat) : magOf m i ≤ n * 2 ^ j.toNat := by
  rcases Nat.lt_or_eq_of_le h with h | h
  · exact Nat.le_of_lt (mag_lt hj h)
  · have : m * 2 ^ (i - min i j).toNat < (n + 1) * 2 ^ (j - min i j).toNat := by
      rw [h]; exact Nat.mul_lt_mul_of_pos_right (Nat.lt_succ_self n) (Nat.two_pow_pos _)
    unfold magOf
    by_cases hi : 0 ≤ i
    · have e1 : (-i).toNat = 0 := by omega
      rw [e1, Nat.pow_zero, Nat.div_one]
      have e2 : i.toNat = (i - min i j).toNat + (min i j).toNat := by omega
      have e3 : j.toNat = (j - min i j).toNat + (min i j).toNat := by omega
      rw [e2, e3, Nat.pow_add, Nat.pow_add, ← Nat.mul_assoc, ← Nat.mul_assoc, h]
      exact Nat.le_refl _
    · have e1 : i.toNat = 0 := by omega
      have e2 : min i j = i := by omega
      rw [e2] at h
      have e3 : (i - i).toNat = 0 := by omega
      have e4 : (j - i).toNat = j.toNat + (-i).toNat := by omega
      rw [e3, e4, Nat.pow_zero, Nat.mul_one, Nat.pow_add, ← Nat.mul_assoc] at h
      rw [e1, Nat.pow_zero, Nat.mul_one, h]
      rw [Nat.mul_div_cancel _ (Nat.two_pow_pos _)]
      exact Nat.le_refl _

/- below a whole bound that is above nought: the whole part is below it; it is there -/
theorem toInt_lt {d : Datum} {n : Nat} {j : Int} (hj : 0 ≤ j) (hn : 0 < n) (h : d.order (.number false n j) = some .lt) {v : Int} (hv : d.toInt .zero = some v) : v < n * 2 ^ j.toNat := by
  cases d with
  | nan s f => simp [Datum.order] at h
  | infinity s => simp [Datum.toInt, Datum.integral] at hv
  | number s m i =>
    rw [toInt_number] at hv
    have hpos : (0 : Int) < n * 2 ^ j.toNat := by exact_mod_cast Nat.mul_pos hn (Nat.two_pow_pos _)
    cases s with
    | true => simp at hv; subst hv; omega
    | false =>
      simp at hv; subst hv
      simp only [Datum.order, signed, Bool.false_eq_true, if_false, Option.some.injEq, Nat.shiftLeft_eq] at h
      have h' := cmp_lt h
      have := mag_lt hj (by exact_mod_cast h' : m * 2 ^ (i - min i j).toNat < n * 2 ^ (j - min i j).toNat)
      exact_mod_cast this

theorem toInt_gt {d : Datum} {n : Nat} {j : Int} (hj : 0 ≤ j) (hn : 0 < n) (h : d.order (.number true n j) = some .gt) {v : Int} (hv : d.toInt .zero = some v) : -(n * 2 ^ j.toNat : Int) < v := by
  cases d with
  | nan s f => simp [Datum.order] at h
  | infinity s => simp [Datum.toInt, Datum.integral] at hv
  | number s m i =>
    rw [toInt_number] at hv
    have hpos : (0 : Int) < n * 2 ^ j.toNat := by exact_mod_cast Nat.mul_pos hn (Nat.two_pow_pos _)
    cases s with
    | false => simp at hv; subst hv; omega
    | true =>
      simp at hv; subst hv
      simp only [Datum.order, signed, if_true, Option.some.injEq, Nat.shiftLeft_eq] at h
      have h' := cmp_gt h
      have h2 : m * 2 ^ (i - min i j).toNat < n * 2 ^ (j - min i j).toNat := by
        have : ((m * 2 ^ (i - min i j).toNat : Nat) : Int) < ((n * 2 ^ (j - min i j).toNat : Nat) : Int) := by omega
        exact_mod_cast this
      have := mag_lt hj h2
      have : (magOf m i : Int) < n * 2 ^ j.toNat := by exact_mod_cast this
      omega

theorem toInt_ge {d : Datum} {n : Nat} {j : Int} (hj : 0 ≤ j) (hn : 0 < n) (h : d.order (.number true n j) = some .eq) {v : Int} (hv : d.toInt .zero = some v) : -(n * 2 ^ j.toNat : Int) ≤ v := by
  cases d with
  | nan s f => simp [Datum.order] at h
  | infinity s => simp [Datum.toInt, Datum.integral] at hv
  | number s m i =>
    rw [toInt_number] at hv
    have hpos : (0 : Int) < n * 2 ^ j.toNat := by exact_mod_cast Nat.mul_pos hn (Nat.two_pow_pos _)
    cases s with
    | false => simp at hv; subst hv; omega
    | true =>
      simp at hv; subst hv
      simp only [Datum.order, signed, if_true, Option.some.injEq, Nat.shiftLeft_eq] at h
      have h' := cmp_eq h
      have h2 : m * 2 ^ (i - min i j).toNat ≤ n * 2 ^ (j - min i j).toNat := by
        have : ((m * 2 ^ (i - min i j).toNat : Nat) : Int) = ((n * 2 ^ (j - min i j).toNat : Nat) : Int) := by omega
        have : m * 2 ^ (i - min i j).toNat = n * 2 ^ (j - min i j).toNat := by exact_mod_cast this
        omega
      have := mag_le hj h2
      have : (magOf m i : Int) ≤ n * 2 ^ j.toNat := by exact_mod_cast this
      omega

/- between two numbers: a number -/
theorem toInt_there {d : Datum} {s t : Bool} {n n' : Nat} {j j' : Int} (h : d.order (.number s n j) = some .lt) (h' : d.order (.number t n' j') = some .gt ∨ d.order (.number t n' j') = some .eq) : ∃ v, d.toInt .zero = some v := by
  cases d with
  | nan s f => simp [Datum.order] at h
  | infinity q => cases q <;> simp [Datum.order] at h h'
  | number s m i => exact ⟨_, toInt_number ..⟩

/- A word that is written and read again -/
theorem cut_even_le (neg : Bool) (n drop : Nat) : Toward.even.cut neg n drop ≤ n / 2 ^ drop + 1 := by
  unfold Toward.cut
  simp only [Nat.shiftLeft_eq, Nat.one_mul]
  by_cases h : drop ≤ n.log2 + 2
  · rw [Nat.min_eq_left h]
    have := Bool.toNat_le (decide (2 ^ drop < 2 * (n % 2 ^ drop)) || (2 ^ drop == 2 * (n % 2 ^ drop)) && n / 2 ^ drop % 2 == 1)
    omega
  · have h1 : n < 2 ^ (n.log2 + 2) := Nat.lt_of_lt_of_le (Nat.lt_log2_self (n := n)) (Nat.pow_le_pow_right (by decide) (by omega))
    rw [Nat.min_eq_right (by omega), Nat.div_eq_of_lt h1]
    have := Bool.toNat_le (decide (2 ^ (n.log2 + 2) < 2 * (n % 2 ^ (n.log2 + 2))) || (2 ^ (n.log2 + 2) == 2 * (n % 2 ^ (n.log2 + 2))) && 0 % 2 == 1)
    have h3 := Nat.zero_le (n / 2 ^ drop)
    generalize n / 2 ^ drop = z at h3 ⊢
    omega

theorem cut_even_0 (neg : Bool) (n : Nat) : Toward.even.cut neg n 0 = n := by
  unfold Toward.cut
  simp [Nat.mod_one]

theorem mul_div_pow (a u d : Nat) (h : u = 0 ∨ d = 0) {k : Nat} (ha : a < 2 ^ (k + d)) (hb : d = 0 → a * 2 ^ u < 2 ^ k) : a * 2 ^ u / 2 ^ d < 2 ^ k := by
  rcases h with rfl | rfl
  · rw [Nat.pow_zero, Nat.mul_one]
    refine Nat.div_lt_of_lt_mul ?_
    rw [← Nat.pow_add, Nat.add_comm]; exact ha
  · rw [Nat.pow_zero, Nat.div_one]; exact hb rfl

/- the rung that a number is rounded to -/
theorem kept_le (f : Format) (neg : Bool) (mag : Nat) (place : Int) :
    Toward.even.cut neg (mag <<< (place - max (place + mag.log2 - f.fractionBits) f.leastPlace).toNat) (max (place + mag.log2 - f.fractionBits) f.leastPlace - place).toNat ≤ 2 * f.binade ∧
    (max (place + mag.log2 - f.fractionBits) f.leastPlace ≤ place →
      Toward.even.cut neg (mag <<< (place - max (place + mag.log2 - f.fractionBits) f.leastPlace).toNat) (max (place + mag.log2 - f.fractionBits) f.leastPlace - place).toNat < 2 * f.binade) := by
  generalize hl : max (place + mag.log2 - f.fractionBits) f.leastPlace = last
  have hm : mag < 2 ^ (mag.log2 + 1) := Nat.lt_log2_self
  have e2 : 2 * f.binade = 2 ^ (f.fractionBits + 1) := by unfold Format.binade; rw [Nat.pow_succ, Nat.mul_comm]
  rw [e2, Nat.shiftLeft_eq]
  have hb : (last - place).toNat = 0 → mag * 2 ^ (place - last).toNat < 2 ^ (f.fractionBits + 1) := by
    intro h0
    have : mag * 2 ^ (place - last).toNat < 2 ^ (mag.log2 + 1) * 2 ^ (place - last).toNat := Nat.mul_lt_mul_of_pos_right hm (Nat.two_pow_pos _)
    rw [← Nat.pow_add] at this
    exact Nat.lt_of_lt_of_le this (Nat.pow_le_pow_right (by decide) (by omega))
  have key : mag * 2 ^ (place - last).toNat / 2 ^ (last - place).toNat < 2 ^ (f.fractionBits + 1) := by
    refine mul_div_pow _ _ _ (by omega) ?_ hb
    exact Nat.lt_of_lt_of_le hm (Nat.pow_le_pow_right (by decide) (by omega))
  constructor
  · have := cut_even_le neg (mag * 2 ^ (place - last).toNat) (last - place).toNat
    omega
  · intro h
    have e0 : (last - place).toNat = 0 := by omega
    rw [e0, cut_even_0]
    exact hb e0

theorem read_word (f : Format) (neg : Bool) (R : Nat) (h : R < f.infRung) :
    ∃ m i, f.read (f.word neg R) = .number neg m i ∧ m < 2 * f.binade ∧ i + m.log2 ≤ f.leastPlace + max (R / f.binade) 1 - 1 + f.fractionBits ∧ f.leastPlace ≤ i ∧ (i = f.leastPlace ∨ f.binade ≤ m) := by
  have hs := f.infRung_lt
  have hB : 0 < f.binade := Nat.two_pow_pos _
  have e1 : f.word neg R / f.signWeight % 2 = if neg then 1 else 0 := by
    unfold Format.word
    cases neg with
    | true => simp only [if_true]; rw [Nat.add_div_left _ (by omega), Nat.div_eq_of_lt (by omega)]
    | false => simp only [Bool.false_eq_true, if_false]; rw [Nat.div_eq_of_lt (by omega)]
  have e2 : f.word neg R % f.signWeight = R := by
    unfold Format.word
    cases neg with
    | true => simp only [if_true]; rw [Nat.add_mod_left, Nat.mod_eq_of_lt (by omega)]
    | false => simp only [Bool.false_eq_true, if_false]; rw [Nat.mod_eq_of_lt (by omega)]
  unfold Format.read
  rw [e1, e2]
  have e3 : ((if neg = true then 1 else 0) == 1) = neg := by cases neg <;> rfl
  simp only [e3]
  have hlog : ∀ m : Nat, m < 2 * f.binade → m.log2 ≤ f.fractionBits := by
    intro m hm
    by_cases h0 : m = 0
    · subst h0; simp
    · have : m < 2 ^ (f.fractionBits + 1) := by unfold Format.binade at hm; rw [Nat.pow_succ]; omega
      have := (Nat.log2_lt h0).2 this
      omega
  by_cases h1 : R < f.binade
  · rw [if_pos h1]
    refine ⟨R, f.leastPlace, rfl, by omega, ?_, by omega, .inl rfl⟩
    have := hlog R (by omega)
    rw [Nat.div_eq_of_lt h1]
    simp
    omega
  · rw [if_neg h1, if_pos h]
    have hm := Nat.mod_lt R hB
    refine ⟨_, _, rfl, by omega, ?_, by omega, .inr (by omega)⟩
    have := hlog (f.binade + R % f.binade) (by omega)
    have h3 : 1 ≤ R / f.binade := (Nat.one_le_div_iff hB).2 (by omega)
    rw [Nat.max_eq_left h3]
    omega

theorem read_nearest (f : Format) (neg : Bool) (mag : Nat) (place : Int) (h : max (place + mag.log2 - f.fractionBits) f.leastPlace - f.leastPlace + 2 < 2 ^ f.exponentBits - 1) :
    ∃ m i, f.read (f.nearest neg mag place) = .number neg m i ∧ i + m.log2 ≤ max (place + mag.log2 - f.fractionBits) f.leastPlace + f.fractionBits + 1 ∧
      (max (place + mag.log2 - f.fractionBits) f.leastPlace ≤ place → i + m.log2 ≤ max (place + mag.log2 - f.fractionBits) f.leastPlace + f.fractionBits) := by
  have hB : 0 < f.binade := Nat.two_pow_pos _
  have hI : f.infRung = (2 ^ f.exponentBits - 1) * f.binade := rfl
  have hp : (2 : Int) ^ f.exponentBits = ((2 ^ f.exponentBits : Nat) : Int) := by simp
  rw [hp] at h
  unfold Format.nearest
  by_cases h0 : mag = 0
  · rw [if_pos h0]
    obtain ⟨m, i, e, _, hi, _, _⟩ := read_word f neg 0 (by rw [hI]; exact Nat.mul_pos (by omega) hB)
    simp at hi
    exact ⟨m, i, e, by omega, by omega⟩
  rw [if_neg h0]
  have hk := kept_le f neg mag place
  generalize hl : max (place + mag.log2 - f.fractionBits) f.leastPlace = last at h hk ⊢
  dsimp only
  generalize Toward.even.cut neg (mag <<< (place - last).toNat) (last - place).toNat = kept at hk ⊢
  have hlast : f.leastPlace ≤ last := by omega
  obtain ⟨q, hq⟩ : ∃ q : Nat, last - f.leastPlace = q := ⟨(last - f.leastPlace).toNat, by omega⟩
  have eq : (last - f.leastPlace).toNat = q := by omega
  rw [eq]
  have hlt : q + 2 < 2 ^ f.exponentBits - 1 := by omega
  have hR : q * f.binade + kept < f.infRung := by
    have : (q + 2) * f.binade < (2 ^ f.exponentBits - 1) * f.binade := Nat.mul_lt_mul_of_pos_right hlt hB
    rw [Nat.add_mul] at this
    rw [hI]; omega
  rw [Nat.min_eq_left (Nat.le_of_lt hR)]
  obtain ⟨m, i, e, _, hi, _, _⟩ := read_word f neg _ hR
  refine ⟨m, i, e, ?_, ?_⟩
  · have : (q * f.binade + kept) / f.binade ≤ q + 2 := by
      refine Nat.div_le_of_le_mul ?_
      rw [Nat.mul_comm q, Nat.mul_add]; omega
    omega
  · intro hle
    have hk' := hk.2 hle
    have : (q * f.binade + kept) / f.binade < q + 2 := by
      refine Nat.div_lt_of_lt_mul ?_
      rw [Nat.mul_comm q, Nat.mul_add]; omega
    omega
end Ieee
