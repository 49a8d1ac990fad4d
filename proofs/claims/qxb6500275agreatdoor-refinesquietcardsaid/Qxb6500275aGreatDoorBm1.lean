import Derived.Test.Qxb6500275aGreatDoorRe2
set_option linter.unusedVariables false
set_option linter.unusedSimpArgs false
namespace Go.Proofs.Qxb6500275aGreatDoor
open Go Go.RowKit
/- THE MODEL'S READER OF NUMBERS: n bits, signed or not; k groups are read -/
def lebEnd (left start k v b q : Nat) (sg : Bool) : R Int :=
  if b / 2 ^ left = (if sg = true ∧ b % 2 ^ left / 2 ^ (left - 1) = 1 then 2 ^ (7 - left) - 1 else 0) then .ok (((v + b % 2 ^ left * 2 ^ (7 * k) : Nat) : Int), q + 1) else .error (4, start)
def lebL (s : ByteArray) (e start n : Nat) (sg : Bool) : Nat → Nat → Nat → Nat → R Int
  | 0, k, v, q => .ok ((v : Int), q)
  | m + 1, k, v, q => if q < e then (if n - 7 * k < 7 then lebEnd (n - 7 * k) start k v (bAt s q) q sg
      else if bAt s q < 128 then .ok (((if sg = true ∧ 64 ≤ bAt s q then v + bAt s q % 128 * 2 ^ (7 * k) + (2 ^ n - 2 ^ (7 * k + 7)) else v + bAt s q % 128 * 2 ^ (7 * k) : Nat) : Int), q + 1)
      else lebL s e start n sg m (k + 1) (v + bAt s q % 128 * 2 ^ (7 * k)) (q + 1)) else .error (3, e)
theorem grp {v k b : Nat} (hv : v < 2 ^ (7 * k)) : v + b % 128 * 2 ^ (7 * k) < 2 ^ (7 * (k + 1)) := by
  have e : 2 ^ (7 * (k + 1)) = 128 * 2 ^ (7 * k) := by rw [show 7 * (k + 1) = 7 * k + 7 by omega, Nat.pow_add, Nat.mul_comm]
  have h1 : b % 128 * 2 ^ (7 * k) ≤ 127 * 2 ^ (7 * k) := Nat.mul_le_mul_right _ (by omega)
  omega
theorem lebU {s : ByteArray} {e start : Nat} : ∀ (n k v q : Nat), n + k = 4 → v < 2 ^ (7 * k) → lebL s e start 32 false (n + 1) k v q = u32L s e start (n + 1) (v : Int) q
  | 0, k, v, q, hk, hv => by
    have : k = 4 := by omega
    subst this
    unfold lebL u32L
    by_cases hq : q < e
    · rw [if_pos hq, if_pos hq, if_pos (by decide)]
      unfold lebEnd
      have hb := bAt_lt s q
      generalize bAt s q = b at *
      rw [if_neg (show ¬ (false = true ∧ _) by simp)]
      by_cases h : 15 < b
      · rw [if_pos (show 0 = 0 ∧ 15 < b from ⟨rfl, h⟩), if_neg (show ¬ b / 2 ^ (32 - 7 * 4) = 0 by simp; omega)]
      · rw [if_neg (show ¬ (0 = 0 ∧ 15 < b) by omega), if_pos (show b / 2 ^ (32 - 7 * 4) = 0 by simp; omega), if_pos (show b < 128 by omega)]
        have e4 : (2 : Nat) ^ (7 * 4) = 268435456 := by decide
        have := orAt_add (c := b) hv (by rw [e4] at hv ⊢; omega)
        rw [show 4 - 0 = 4 from rfl, this, Nat.mod_eq_of_lt (show b < 128 by omega), Nat.mod_eq_of_lt (show b < 2 ^ (32 - 7 * 4) by simp; omega)]
    · rw [if_neg hq, if_neg hq]
  | n + 1, k, v, q, hk, hv => by
    rw [lebL, u32L]
    by_cases hq : q < e
    · rw [if_pos hq, if_pos hq, if_neg (by omega), if_neg (show ¬ (n + 1 = 0 ∧ _) by omega)]
      have hg := grp (b := bAt s q) hv
      have h28 : 2 ^ (7 * (k + 1)) ≤ 2 ^ 28 := Nat.pow_le_pow_right (by decide) (by omega)
      rw [show 4 - (n + 1) = k by omega, orAt_add hv (by omega)]
      by_cases hb : bAt s q < 128
      · rw [if_pos hb, if_pos hb, if_neg (show ¬ (false = true ∧ _) by simp)]
      · rw [if_neg hb, if_neg hb]
        exact lebU n (k + 1) _ _ (by omega) hg
    · rw [if_neg hq, if_neg hq]
theorem lebU_all (s : ByteArray) (e p : Nat) : lebL s e p 32 false 5 0 0 p = u32S s p e := lebU 4 0 0 p (by omega) (by decide)
/- the sign spread -/
theorem xV_nat {v j : Nat} (hj : j + 1 ≤ 9) (hv : v < 128 ^ (j + 1)) : xV (v : Int) (j + 1) = if v < 64 * 128 ^ j then (v : Int) else (v : Int) - 128 ^ (j + 1) := by
  have e : (128 : Nat) ^ (j + 1) = 128 * 128 ^ j := by rw [Nat.pow_succ, Nat.mul_comm]
  have ei : (128 : Int) ^ (j + 1) = 128 * 128 ^ j := by rw [Int.pow_succ, Int.mul_comm]
  have ec : (((128 : Nat) ^ j : Nat) : Int) = (128 : Int) ^ j := by push_cast; rfl
  have hp : 0 < (128 : Nat) ^ j := Nat.pow_pos (by decide)
  generalize hT : (128 : Nat) ^ j = T at *
  generalize hTi : (128 : Int) ^ j = Ti at *
  by_cases h : v < 64 * T
  · rw [if_pos h]
    have := xV_of (x := (v : Int)) hj (by rw [hTi]; omega) (by rw [hTi]; omega)
    rw [ei, Int.emod_eq_of_lt (by omega) (by omega)] at this
    simpa using this
  · rw [if_neg h]
    have := xV_of (x := (v : Int) - 128 * Ti) hj (by rw [hTi]; omega) (by rw [hTi]; omega)
    rw [ei] at this ⊢
    have h2 : ((v : Int) - 128 * Ti) % (128 * Ti) = v := by
      rw [Int.sub_emod_right, Int.emod_eq_of_lt (by omega) (by omega)]
    rw [h2] at this
    simpa using this
def slebR (s : ByteArray) (e start bt f k : Nat) (v : Int) (q : Nat) : R Int :=
  match slebL s e start bt f k v q with
  | .error f => .error f
  | .ok (k, cc, v, q) => slebEnd bt start k cc v q
theorem slebS_R (s : ByteArray) (p e bt : Nat) : slebS s p e bt = slebR s e p bt 11 0 0 p := rfl
theorem lebS_mid {s : ByteArray} {e start bt m f k v q : Nat} (hbt : bt = 32 ∨ bt = 64) (hk : 7 ≤ bt - 7 * k) (hv : v < 2 ^ (7 * k)) (hq : q < e) (hb : bAt s q < 128) :
    lebL s e start bt true (m + 1) k v q = slebR s e start bt (f + 1) k (v : Int) q := by
  unfold lebL slebR slebL
  have hk9 : k ≤ 8 := by omega
  rw [if_pos hq, if_neg (show ¬ bt - 7 * k < 7 by omega), if_pos hb, if_neg (show ¬ bt ≤ 7 * k by omega)]
  simp only [if_pos hq, if_pos hb]
  have hg := grp (b := bAt s q) hv
  have hg2 : v + bAt s q % 128 * 2 ^ (7 * k) < 128 ^ (k + 1) := by rw [← p128]; exact hg
  have h63 : 2 ^ (7 * (k + 1)) ≤ 2 ^ 63 := Nat.pow_le_pow_right (by decide) (by omega)
  have e63 : (2 : Nat) ^ 63 = 9223372036854775808 := by decide
  rw [or64_add (by omega) hv, Nat.mod_eq_of_lt (show v + bAt s q % 128 * 2 ^ (7 * k) < 18446744073709551616 by omega)]
  unfold slebEnd
  rw [if_neg (show ¬ 64 < 7 * (k + 1) by omega), xV_nat (by omega) hg2]
  have eT : (2 : Nat) ^ (7 * k) = 128 ^ k := p128 k
  have eT1 : (2 : Nat) ^ (7 * k + 7) = 128 * 128 ^ k := by rw [Nat.pow_add, eT, Nat.mul_comm]
  have eT2 : (128 : Int) ^ (k + 1) = ((128 * 128 ^ k : Nat) : Int) := by rw [Int.pow_succ, Int.mul_comm]; push_cast; rfl
  have e7 : 7 * (k + 1) = 7 * k + 7 := by omega
  rw [e7, eT1] at hg h63
  rw [eT] at hv hg ⊢
  rw [eT1, eT2]
  have hlt : (v + bAt s q % 128 * 128 ^ k < 64 * 128 ^ k) ↔ ¬ (64 ≤ bAt s q) := by
    have hm : bAt s q % 128 = bAt s q := Nat.mod_eq_of_lt hb
    rw [hm]
    constructor
    · intro h h2
      have := Nat.mul_le_mul_right (128 ^ k) h2
      omega
    · intro h
      have : bAt s q * 128 ^ k ≤ 63 * 128 ^ k := Nat.mul_le_mul_right _ (by omega)
      omega
  have h28 : bt = 32 → 128 * 128 ^ k ≤ 268435456 := fun hb32 => by
    have : 2 ^ (7 * k + 7) ≤ 2 ^ 28 := Nat.pow_le_pow_right (by decide) (by omega)
    rw [eT1] at this
    exact this
  generalize hV : v + bAt s q % 128 * 128 ^ k = V at *
  generalize hT : (128 : Nat) ^ k = T at *
  by_cases h64 : 64 ≤ bAt s q
  · rw [if_pos ⟨trivial, h64⟩, if_neg (fun h => hlt.1 h h64)]
    have hge : ¬ V < 64 * T := fun h => hlt.1 h h64
    rcases hbt with rfl | rfl
    · have := h28 rfl
      rw [if_pos rfl, if_neg (by omega)]
      congr 2
      have h2 : (2 : Nat) ^ 32 = 4294967296 := by decide
      rw [h2]
      omega
    · rw [if_neg (by decide)]
      congr 2
      have h2 : (2 : Nat) ^ 64 = 18446744073709551616 := by decide
      rw [h2, IntKind.wrap_u64]
      omega
  · rw [if_neg (fun h => h64 h.2), if_pos (hlt.2 h64)]
    have hl := hlt.2 h64
    rcases hbt with rfl | rfl
    · have := h28 rfl
      rw [if_pos rfl, if_neg (by omega)]
      congr 2
      omega
    · rw [if_neg (by decide)]
      congr 2
      rw [IntKind.wrap_u64]
      omega
theorem lebS_last32 {s : ByteArray} {e start m f v q : Nat} (hv : v < 2 ^ 28) : lebL s e start 32 true (m + 1) 4 v q = slebR s e start 32 (f + 2) 4 (v : Int) q := by
  unfold lebL slebR
  rw [slebL, if_neg (show ¬ 32 ≤ 7 * 4 by omega)]
  by_cases hq : q < e
  · simp only [if_pos hq]
    rw [if_pos (show 32 - 7 * 4 < 7 by decide)]
    have hb := bAt_lt s q
    unfold lebEnd
    by_cases h : bAt s q < 128
    · rw [if_pos h]
      dsimp only
      rw [or64_add (by omega) (by exact hv)]
      unfold slebEnd
      rw [if_neg (show ¬ 64 < 7 * (4 + 1) by decide), if_pos (show 32 = 32 from rfl)]
      generalize bAt s q = b at *
      have hm : b % 128 = b := Nat.mod_eq_of_lt h
      rw [hm]
      have e4 : (2 : Nat) ^ (7 * 4) = 268435456 := by decide
      have e28 : (2 : Nat) ^ 28 = 268435456 := by decide
      rw [e28] at hv
      have p5 : (128 : Nat) ^ (4 + 1) = 34359738368 := by decide
      rw [e4, Nat.mod_eq_of_lt (show v + b * 268435456 < 18446744073709551616 by omega), xV_nat (j := 4) (by omega) (by rw [p5]; omega)]
      have p1 : (64 : Nat) * 128 ^ 4 = 17179869184 := by decide
      have p2 : (128 : Int) ^ (4 + 1) = 34359738368 := by decide
      rw [p1, p2]
      simp only [show (32 - 7 * 4 : Nat) = 4 from rfl, show (2 : Nat) ^ 4 = 16 from rfl, show (4 - 1 : Nat) = 3 from rfl, show (2 : Nat) ^ 3 = 8 from rfl, show (7 - 4 : Nat) = 3 from rfl, show (8 - 1 : Nat) = 7 from rfl, true_and]
      by_cases h8 : b < 8
      · rw [if_neg (show ¬ (b % 16 / 8 = 1) by omega), if_pos (show b / 16 = 0 by omega), if_pos (show v + b * 268435456 < 17179869184 by omega), if_neg (by omega)]
        congr 2
        omega
      · by_cases h120 : 120 ≤ b
        · rw [if_neg (show ¬ (v + b * 268435456 < 17179869184) by omega)]
          rw [if_pos (show b % 16 / 8 = 1 by omega), if_pos (show b / 16 = 7 by omega)]
          rw [if_neg (by omega)]
          congr 2
          omega
        · by_cases hlt : v + b * 268435456 < 17179869184
          · rw [if_pos hlt]
            by_cases hw : b % 16 / 8 = 1
            · rw [if_pos hw, if_neg (show ¬ b / 16 = 7 by omega), if_pos (by omega)]
            · rw [if_neg hw, if_neg (show ¬ b / 16 = 0 by omega), if_pos (by omega)]
          · rw [if_neg hlt]
            by_cases hw : b % 16 / 8 = 1
            · rw [if_pos hw, if_neg (show ¬ b / 16 = 7 by omega), if_pos (by omega)]
            · rw [if_neg hw, if_neg (show ¬ b / 16 = 0 by omega), if_pos (by omega)]
    · rw [if_neg h, slebL, if_pos (show 32 ≤ 7 * (4 + 1) by omega)]
      simp only [show (32 - 7 * 4 : Nat) = 4 from rfl, show (2 : Nat) ^ 4 = 16 from rfl, show (7 - 4 : Nat) = 3 from rfl, show (2 : Nat) ^ 3 = 8 from rfl, show (8 - 1 : Nat) = 7 from rfl, true_and]
      by_cases hw : (bAt s q % 16 / 2 ^ (4 - 1) = 1)
      · rw [if_pos hw, if_neg (by omega)]
      · rw [if_neg hw, if_neg (by omega)]
  · simp only [if_neg hq]
theorem lebS_last64 {s : ByteArray} {e start m f v q : Nat} (hv : v < 2 ^ 63) : lebL s e start 64 true (m + 1) 9 v q = slebR s e start 64 (f + 2) 9 (v : Int) q := by
  unfold lebL slebR
  rw [slebL, if_neg (show ¬ 64 ≤ 7 * 9 by omega)]
  have e63 : (2 : Nat) ^ 63 = 9223372036854775808 := by decide
  by_cases hq : q < e
  · simp only [if_pos hq]
    rw [if_pos (show 64 - 7 * 9 < 7 by decide)]
    have hb := bAt_lt s q
    unfold lebEnd
    by_cases h : bAt s q < 128
    · rw [if_pos h]
      dsimp only
      rw [or64_add (by omega) (by exact hv)]
      unfold slebEnd
      rw [if_pos (show 64 < 7 * (9 + 1) by decide)]
      generalize bAt s q = b at *
      have hm : b % 128 = b := Nat.mod_eq_of_lt h
      rw [hm]
      have e4 : (2 : Nat) ^ (7 * 9) = 9223372036854775808 := by decide
      rw [e63] at hv
      rw [e4]
      simp only [show (64 - 7 * 9 : Nat) = 1 from rfl, show (2 : Nat) ^ 1 = 2 from rfl, show (1 - 1 : Nat) = 0 from rfl, show (2 : Nat) ^ 0 = 1 from rfl, show (7 - 1 : Nat) = 6 from rfl, show (2 : Nat) ^ 6 = 64 from rfl, show (64 - 1 : Nat) = 63 from rfl, Nat.div_one, true_and]
      by_cases hw : b % 2 = 1
      · rw [if_pos hw]
        by_cases h127 : b = 127
        · rw [if_pos (by omega), if_pos (by omega)]
          congr 2
          omega
        · rw [if_neg (by omega), if_neg (by omega)]
      · rw [if_neg hw]
        by_cases h0 : b = 0
        · rw [if_pos (by omega), if_pos (by omega)]
          congr 2
          omega
        · rw [if_neg (by omega), if_neg (by omega)]
    · rw [if_neg h, slebL, if_pos (show 64 ≤ 7 * (9 + 1) by omega)]
      simp only [show (64 - 7 * 9 : Nat) = 1 from rfl, show (2 : Nat) ^ 1 = 2 from rfl, show (7 - 1 : Nat) = 6 from rfl, show (2 : Nat) ^ 6 = 64 from rfl, show (64 - 1 : Nat) = 63 from rfl, true_and]
      by_cases hw : (bAt s q % 2 / 2 ^ (1 - 1) = 1)
      · rw [if_pos hw, if_neg (by omega)]
      · rw [if_neg hw, if_neg (by omega)]
  · simp only [if_neg hq]
theorem lebS_gen {s : ByteArray} {e start bt last : Nat} (hbt : bt = 32 ∧ last = 4 ∨ bt = 64 ∧ last = 9) : ∀ (n k v q f : Nat), n + k = last → n + 2 ≤ f → v < 2 ^ (7 * k) → lebL s e start bt true (n + 1) k v q = slebR s e start bt f k (v : Int) q
  | 0, k, v, q, f, hk, hf, hv => by
    obtain ⟨f, rfl⟩ : ∃ f', f = f' + 2 := ⟨f - 2, by omega⟩
    rcases hbt with ⟨rfl, rfl⟩ | ⟨rfl, rfl⟩
    · have : k = 4 := by omega
      subst this
      exact lebS_last32 (by simpa using hv)
    · have : k = 9 := by omega
      subst this
      exact lebS_last64 (by simpa using hv)
  | n + 1, k, v, q, f, hk, hf, hv => by
    obtain ⟨f, rfl⟩ : ∃ f', f = f' + 1 := ⟨f - 1, by omega⟩
    by_cases hq : q < e
    · by_cases hb : bAt s q < 128
      · exact lebS_mid (by omega) (by omega) hv hq hb
      · have hg := grp (b := bAt s q) hv
        have h63 : 2 ^ (7 * (k + 1)) ≤ 2 ^ 63 := Nat.pow_le_pow_right (by decide) (by omega)
        have e63 : (2 : Nat) ^ 63 = 9223372036854775808 := by decide
        rw [lebL, if_pos hq, if_neg (show ¬ bt - 7 * k < 7 by omega), if_neg hb]
        rw [lebS_gen hbt n (k + 1) _ _ f (by omega) (by omega) hg]
        unfold slebR
        conv => rhs; rw [slebL, if_neg (show ¬ bt ≤ 7 * k by omega), if_pos hq, if_neg hb, or64_add (by omega) hv, Nat.mod_eq_of_lt (by omega)]
    · unfold lebL slebR slebL
      rw [if_neg (show ¬ bt ≤ 7 * k by omega)]
      simp only [if_neg hq]
theorem lebS_32 (s : ByteArray) (e p : Nat) : lebL s e p 32 true 5 0 0 p = slebS s p e 32 := by rw [slebS_R]; exact lebS_gen (.inl ⟨rfl, rfl⟩) 4 0 0 p 11 (by omega) (by omega) (by decide)
theorem lebS_64 (s : ByteArray) (e p : Nat) : lebL s e p 64 true 10 0 0 p = slebS s p e 64 := by rw [slebS_R]; exact lebS_gen (.inr ⟨rfl, rfl⟩) 9 0 0 p 11 (by omega) (by omega) (by decide)
end Go.Proofs.Qxb6500275aGreatDoor
