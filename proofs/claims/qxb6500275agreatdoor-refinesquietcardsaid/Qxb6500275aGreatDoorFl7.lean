import Derived.Test.Qxb6500275aGreatDoorFl6
set_option linter.unusedVariables false
set_option linter.unusedSimpArgs false
namespace Go.Proofs.Qxb6500275aGreatDoor
open Ieee
/- two magnitudes with their signs, summed -/
def tot (s t : Bool) (A B : Nat) : Int := (if s = true then -(A : Int) else A) + (if t = true then -(B : Int) else B)
def totW (F : Format) (s t : Bool) (T : Int) (p : Int) : Nat := F.nearest (if T = 0 then s && t else decide (T < 0)) T.natAbs p
theorem tot_scale (s t : Bool) (A B k : Nat) : tot s t (A * 2 ^ k) (B * 2 ^ k) = tot s t A B * (2 ^ k : Nat) := by
  unfold tot
  rw [Int.add_mul]
  congr 1
  · split
    · rw [Int.neg_mul]; simp
    · simp
  · split
    · rw [Int.neg_mul]; simp
    · simp
theorem totW_scale (F : Format) (s t : Bool) (A B k : Nat) (p : Int) : totW F s t (tot s t (A * 2 ^ k) (B * 2 ^ k)) (p - k) = totW F s t (tot s t A B) p := by
  rw [tot_scale]
  generalize tot s t A B = T
  have hk : (0 : Int) < ((2 ^ k : Nat) : Int) := by exact_mod_cast Nat.two_pow_pos k
  unfold totW
  have h1 : (T * ((2 ^ k : Nat) : Int)).natAbs = T.natAbs * 2 ^ k := by rw [Int.natAbs_mul]; simp
  rw [h1, nearest_scale]
  congr 1
  by_cases h0 : T = 0
  · subst h0; simp
  · have h2 : T * ((2 ^ k : Nat) : Int) ≠ 0 := Int.mul_ne_zero h0 (by omega)
    rw [if_neg h0, if_neg h2]
    by_cases h3 : T < 0
    · rw [decide_eq_true h3, decide_eq_true (Int.mul_neg_of_neg_of_pos h3 hk)]
    · have : 0 ≤ T * ((2 ^ k : Nat) : Int) := Int.mul_nonneg (by omega) (by omega)
      rw [decide_eq_false h3, decide_eq_false (by omega)]
theorem signed_tot (s t : Bool) (m n i j : Nat) : signed s m i + signed t n j = tot s t (m * 2 ^ i) (n * 2 ^ j) := by
  unfold signed tot
  rw [Nat.shiftLeft_eq, Nat.shiftLeft_eq]
/- IEEE's sum of two numbers, in units of any lower place -/
theorem sum_at (F : Format) (s t : Bool) (m n : Nat) (i j p : Int) (hi : p ≤ i) (hj : p ≤ j) : (Datum.sum (.number s m i) (.number t n j)).map F.write = some (totW F s t (tot s t (m * 2 ^ (i - p).toNat) (n * 2 ^ (j - p).toNat)) p) := by
  unfold Datum.sum
  dsimp only
  rw [Option.map_some]
  congr 1
  rw [signed_tot]
  have e1 : (i - p).toNat = (i - min i j).toNat + (min i j - p).toNat := by omega
  have e2 : (j - p).toNat = (j - min i j).toNat + (min i j - p).toNat := by omega
  rw [e1, e2, Nat.pow_add, Nat.pow_add, ← Nat.mul_assoc, ← Nat.mul_assoc]
  have e3 : p = min i j - ((min i j - p).toNat : Int) := by omega
  conv => rhs; rw [e3]
  rw [show (min i j - (min i j - ((min i j - p).toNat : Int))).toNat = (min i j - p).toNat by omega]
  rw [totW_scale]
  rfl
theorem tot_comm (s t : Bool) (A B : Nat) : tot s t A B = tot t s B A := by unfold tot; omega
theorem totW_comm (F : Format) (s t : Bool) (T p : Int) : totW F s t T p = totW F t s T p := by unfold totW; rw [Bool.and_comm]
section
variable {F : Format} {bi : Nat}
theorem word_zero (F : Format) : F.word false 0 = 0 := rfl
/- the greater first -/
theorem core_tot (hF : Fmt F bi) (n1 n2 : Bool) {m1 m2 d : Nat} {e1 : Int} (h1 : 2305843009213693952 ≤ m1 ∧ m1 < 4611686018427387904) (h2 : 2305843009213693952 ≤ m2 ∧ m2 < 4611686018427387904) (h8 : m2 % 512 = 0) (hge : d = 0 → m2 ≤ m1) :
    addCore F bi n1 n2 m1 m2 e1 d = totW F n1 n2 (tot n1 n2 (m1 * 2 ^ d) m2) (e1 - d) := by
  have hle : m2 ≤ m1 * 2 ^ d := by
    by_cases hd : d = 0
    · subst hd; simpa using hge rfl
    · have : 2 ^ 1 ≤ 2 ^ d := Nat.pow_le_pow_right (by decide) (by omega)
      have := Nat.mul_le_mul_left m1 this
      omega
  by_cases hn : n1 = n2
  · subst hn
    rw [add_same hF n1 h1 (by omega)]
    unfold totW tot
    cases n1
    · simp only [Bool.false_eq_true, if_false]
      rw [if_neg (by omega), decide_eq_false (by omega)]
      congr 1
    · simp only [if_true]
      rw [if_neg (by omega), decide_eq_true (by omega)]
      congr 1
      omega
  · rw [add_diff hF n1 n2 hn h1 (by omega) h8 hle]
    unfold totW tot
    by_cases he : m1 * 2 ^ d = m2
    · rw [if_pos he, he]
      have hz : ((if n1 = true then -(m2 : Int) else (m2 : Int)) + if n2 = true then -(m2 : Int) else (m2 : Int)) = 0 := by
        cases n1 <;> cases n2 <;> simp at hn ⊢ <;> omega
      rw [hz, if_pos rfl]
      have hb : (n1 && n2) = false := by cases n1 <;> cases n2 <;> simp at hn ⊢
      rw [hb]
      unfold Format.nearest
      simp [Format.word]
    · rw [if_neg he]
      cases n1 <;> cases n2 <;> simp at hn
      · simp only [Bool.false_eq_true, if_false, if_true]
        rw [if_neg (by omega), decide_eq_false (by omega)]
        congr 1
        omega
      · simp only [Bool.false_eq_true, if_false, if_true]
        rw [if_neg (by omega), decide_eq_true (by omega)]
        congr 1
        omega
end
end Go.Proofs.Qxb6500275aGreatDoor
