import Derived.Test.Qxb6500275aGreatDoorFl3
import Derived.Laws.FloatBits
set_option linter.unusedVariables false
set_option linter.unusedSimpArgs false
namespace Go.Proofs.Qxb6500275aGreatDoor
open Ieee
/- the rounding knows no scale -/
theorem nearest_scale (F : Format) (neg : Bool) (A : Nat) (place : Int) (j : Nat) : F.nearest neg (A * 2 ^ j) (place - j) = F.nearest neg A place := by
  have hj : 0 < 2 ^ j := Nat.two_pow_pos j
  unfold Format.nearest
  by_cases hA : A = 0
  · subst hA; simp
  have hA2 : A * 2 ^ j ≠ 0 := by
    have := Nat.mul_pos (Nat.pos_of_ne_zero hA) hj
    omega
  rw [if_neg hA, if_neg hA2]
  dsimp only
  have hl : (A * 2 ^ j).log2 = A.log2 + j := log2_between hA (Nat.le_refl _) (by rw [Nat.add_mul]; omega)
  rw [hl, cut_rnd, cut_rnd, Nat.shiftLeft_eq, Nat.shiftLeft_eq]
  have e0 : place - (j : Int) + ((A.log2 + j : Nat) : Int) - (F.fractionBits : Int) = place + (A.log2 : Int) - (F.fractionBits : Int) := by omega
  rw [e0]
  generalize max (place + (A.log2 : Int) - (F.fractionBits : Int)) F.leastPlace = last
  have key : rnd (A * 2 ^ j * 2 ^ (place - j - last).toNat) (2 ^ (last - (place - j)).toNat) = rnd (A * 2 ^ (place - last).toNat) (2 ^ (last - place).toNat) := by
    by_cases h1 : place ≤ last
    · rw [show (place - j - last).toNat = 0 by omega, show (place - last).toNat = 0 by omega, show (last - (place - j)).toNat = (last - place).toNat + j by omega, Nat.pow_zero, Nat.mul_one, Nat.mul_one, Nat.pow_add, rnd_scale]
    · by_cases h2 : last ≤ place - j
      · rw [show (last - (place - j)).toNat = 0 by omega, show (last - place).toNat = 0 by omega, Nat.pow_zero, rnd_one, rnd_one, Nat.mul_assoc, ← Nat.pow_add]
        congr 2
        omega
      · rw [show (place - j - last).toNat = 0 by omega, show (last - place).toNat = 0 by omega, Nat.pow_zero, Nat.mul_one, rnd_one]
        have e : j = (place - last).toNat + (last - (place - j)).toNat := by omega
        have e2 : A * 2 ^ j = A * 2 ^ (place - last).toNat * 2 ^ (last - (place - j)).toNat := by
          rw [Nat.mul_assoc, ← Nat.pow_add, ← e]
        rw [e2]
        have := rnd_scale (A * 2 ^ (place - last).toNat) 1 (last - (place - j)).toNat
        rw [Nat.one_mul] at this
        rw [this, rnd_one]
  rw [key]
/- a number by its word's fields -/
section
variable {F : Format} {bi : Nat}
theorem Fmt.sw (h : Fmt F bi) : F.signWeight = 2 * (bi + 1) * 2 ^ F.fractionBits := by
  unfold Format.signWeight
  rw [Nat.pow_add, h.eb]
/- v: a word: its sign, its exponent field, its fraction field -/
def sgB (F : Format) (v : Nat) : Bool := decide (F.signWeight ≤ v)
def exB (F : Format) (v : Nat) : Nat := v % F.signWeight / 2 ^ F.fractionBits
def frB (F : Format) (v : Nat) : Nat := v % F.signWeight % 2 ^ F.fractionBits
theorem Fmt.read (h : Fmt F bi) {v : Nat} (hv : v < 2 * F.signWeight) : F.read v = if exB F v = 0 then .number (sgB F v) (frB F v) (1 - (bi : Int) - F.fractionBits) else if exB F v < 2 * bi + 1 then .number (sgB F v) (2 ^ F.fractionBits + frB F v) ((exB F v : Int) - bi - F.fractionBits) else if frB F v = 0 then .infinity (sgB F v) else .nan (sgB F v) (frB F v) := by
  have hP : 0 < 2 ^ F.fractionBits := Nat.two_pow_pos _
  have hsw := h.sw
  have hsp : 0 < F.signWeight := by rw [hsw]; exact Nat.mul_pos (by omega) hP
  have hsg : (v / F.signWeight % 2 == 1) = sgB F v := by
    unfold sgB
    by_cases hc : F.signWeight ≤ v
    · have : v / F.signWeight = 1 := Nat.div_eq_of_lt_le (by omega) (by omega)
      rw [this, decide_eq_true hc]; rfl
    · have : v / F.signWeight = 0 := Nat.div_eq_of_lt (by omega)
      rw [this, decide_eq_false hc]; rfl
  unfold Format.read
  dsimp only
  rw [hsg]
  have hr : v % F.signWeight < F.signWeight := Nat.mod_lt _ hsp
  have hdm := Nat.div_add_mod (v % F.signWeight) (2 ^ F.fractionBits)
  have hfr : frB F v < 2 ^ F.fractionBits := Nat.mod_lt _ hP
  have hex : exB F v = v % F.signWeight / 2 ^ F.fractionBits := rfl
  have hfr2 : frB F v = v % F.signWeight % 2 ^ F.fractionBits := rfl
  rw [← hex, ← hfr2] at hdm
  have hbin : F.binade = 2 ^ F.fractionBits := rfl
  rw [hbin, ← hex, ← hfr2, h.inf, h.least]
  have hexlt : exB F v < 2 * bi + 2 := by
    rw [hex, Nat.div_lt_iff_lt_mul hP]
    have h2 : F.signWeight = (2 * bi + 2) * 2 ^ F.fractionBits := by rw [hsw]; congr 1
    rw [← h2]
    exact hr
  generalize v % F.signWeight = R at *
  generalize exB F v = E at *
  generalize frB F v = fr at *
  generalize 2 ^ F.fractionBits = P at *
  by_cases h0 : E = 0
  · subst h0
    rw [if_pos (by omega), if_pos rfl]
    congr 1
    omega
  · rw [if_neg h0]
    have hge : 1 * P ≤ E * P := Nat.mul_le_mul_right _ (by omega)
    rw [Nat.mul_comm P E] at hdm
    rw [if_neg (by omega)]
    by_cases h1 : E < 2 * bi + 1
    · have : (E + 1) * P ≤ (2 * bi + 1) * P := Nat.mul_le_mul_right _ (by omega)
      rw [Nat.add_mul] at this
      rw [if_pos h1, if_pos (by omega)]
      congr 1
      omega
    · have hE : E = 2 * bi + 1 := by omega
      rw [if_neg h1]
      subst hE
      by_cases h2 : fr = 0
      · rw [if_neg (by omega), if_pos (by omega), if_pos h2]
      · rw [if_neg (by omega), if_neg (by omega), if_neg h2]
        congr 1
        omega
end
end Go.Proofs.Qxb6500275aGreatDoor
