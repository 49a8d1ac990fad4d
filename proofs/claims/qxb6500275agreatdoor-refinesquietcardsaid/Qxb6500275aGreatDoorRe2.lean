import Derived.Test.Qxb6500275aGreatDoorRe1
set_option linter.unusedVariables false
set_option linter.unusedSimpArgs false
namespace Go.Proofs.Qxb6500275aGreatDoor
open Go Go.RowKit
/- the shortest signed number -/
abbrev sEnd (x : Int) : Prop := (x / 128 = 0 ∧ x % 128 < 64) ∨ (x / 128 = -1 ∧ 64 ≤ x % 128)
def sLebN : Nat → Int → List Nat
  | 0, _ => []
  | n + 1, x => if sEnd x then [(x % 128).toNat] else ((x % 128).toNat + 128) :: sLebN n (x / 128)
def sLeb (x : Int) : List Nat := sLebN 10 x
theorem sEnd_iff (x : Int) : sEnd x ↔ -64 ≤ x ∧ x < 64 := by unfold sEnd; omega
theorem sLebN_by : ∀ (n : Nat) (x : Int), ∀ b ∈ sLebN n x, b < 256
  | 0, x, b, h => by simp [sLebN] at h
  | n + 1, x, b, h => by
    unfold sLebN at h
    split at h
    · simp at h; omega
    · rcases List.mem_cons.1 h with h | h
      · omega
      · exact sLebN_by n _ b h
theorem sLebN_len : ∀ (m n : Nat) (x : Int), -(64 * 128 ^ m : Int) ≤ x → x < (64 * 128 ^ m : Int) → m + 1 ≤ n → (sLebN n x).length ≤ m + 1
  | 0, n + 1, x, h1, h2, hn => by
    have : sEnd x := (sEnd_iff x).2 (by omega)
    unfold sLebN
    rw [if_pos this]; simp
  | m + 1, n + 1, x, h1, h2, hn => by
    unfold sLebN
    split
    · simp
    · have e : (128 : Int) ^ (m + 1) = 128 ^ m * 128 := Int.pow_succ _ _
      rw [e] at h1 h2
      have := sLebN_len m n (x / 128) (by omega) (by omega) (by omega)
      simp only [List.length_cons]; omega
/- one group more -/
theorem or64_add {v k c : Nat} (hk : k ≤ 9) (hv : v < 2 ^ (7 * k)) : or64 (v : Int) k c = (((v + c % 128 * 2 ^ (7 * k)) % 18446744073709551616 : Nat) : Int) := by
  unfold or64
  have hp : 2 ^ (7 * k) ≤ 2 ^ 63 := Nat.pow_le_pow_right (by decide) (by omega)
  have hp2 : 2 ^ 63 = 9223372036854775808 := by decide
  have e : IntKind.u64.wrap ((c : Int) % 128 * 2 ^ (7 * k)) = ((c % 128 * 2 ^ (7 * k) % 18446744073709551616 : Nat) : Int) := by
    have : ((c : Int) % 128 * 2 ^ (7 * k)) = ((c % 128 * 2 ^ (7 * k) : Nat) : Int) := by push_cast; rfl
    rw [this, IntKind.wrap_u64]; omega
  rw [e, bits_or_u64_nat _ _ (by omega) (by omega)]
  congr 1
  obtain ⟨d, hd⟩ : ∃ d, c % 128 * 2 ^ (7 * k) % 18446744073709551616 = 2 ^ (7 * k) * d := by
    have h64 : 18446744073709551616 = 2 ^ (7 * k) * 2 ^ (64 - 7 * k) := by rw [← Nat.pow_add, show 7 * k + (64 - 7 * k) = 64 by omega]
    rw [h64, Nat.mul_comm (c % 128), Nat.mul_mod_mul_left]
    exact ⟨_, rfl⟩
  rw [Nat.add_mod, hd, Nat.mod_eq_of_lt (a := v) (by omega), Nat.or_comm, ← Nat.two_pow_add_eq_or_of_lt hv]
  have h1 : 2 ^ (7 * k) * d < 18446744073709551616 := by rw [← hd]; omega
  have h2 : v + 2 ^ (7 * k) * d < 18446744073709551616 := by
    have h64 : 18446744073709551616 = 2 ^ (7 * k) * 2 ^ (64 - 7 * k) := by rw [← Nat.pow_add, show 7 * k + (64 - 7 * k) = 64 by omega]
    have : d < 2 ^ (64 - 7 * k) := by
      rw [h64] at h1
      exact Nat.lt_of_mul_lt_mul_left h1
    have h3 : 2 ^ (7 * k) * (d + 1) ≤ 2 ^ (7 * k) * 2 ^ (64 - 7 * k) := Nat.mul_le_mul_left _ (by omega)
    rw [Nat.mul_add, ← h64] at h3
    omega
  rw [Nat.mod_eq_of_lt h2]; omega
theorem p128 (k : Nat) : (2 : Nat) ^ (7 * k) = 128 ^ k := by rw [Nat.pow_mul]
/- reading it back: j + 1 groups -/
theorem slebL_leb {s : ByteArray} {e start bt : Nat} : ∀ (m n f k v q : Nat) (x : Int), -(64 * 128 ^ m : Int) ≤ x → x < (64 * 128 ^ m : Int) → k + m ≤ 9 → 7 * (k + m) < bt → m + 1 ≤ n → m + 1 ≤ f → v < 128 ^ k →
    Lies s q (sLebN f x) → q + (sLebN f x).length ≤ e →
    ∃ j : Nat, j ≤ m ∧ (sLebN f x).length = j + 1 ∧ -(64 * 128 ^ j : Int) ≤ x ∧ x < (64 * 128 ^ j : Int) ∧
      slebL s e start bt n k (v : Int) q = .ok (k + j + 1, (x / 128 ^ j % 128).toNat, (((v + (x % 128 ^ (j + 1)).toNat * 128 ^ k) % 18446744073709551616 : Nat) : Int), q + j + 1) := by
  intro m
  induction m with
  | zero =>
    intro n f k v q x h1 h2 hk hb hn hf hv hl he
    obtain ⟨n, rfl⟩ : ∃ n', n = n' + 1 := ⟨n - 1, by omega⟩
    obtain ⟨f, rfl⟩ : ∃ f', f = f' + 1 := ⟨f - 1, by omega⟩
    have hs : sEnd x := (sEnd_iff x).2 (by omega)
    unfold sLebN at hl he ⊢
    rw [if_pos hs] at hl he ⊢
    simp only [List.length_singleton] at he ⊢
    have hc := hl 0 _ rfl
    rw [Nat.add_zero] at hc
    refine ⟨0, Nat.le_refl _, rfl, h1, h2, ?_⟩
    have hm : (x % 128).toNat % 128 = (x % 128).toNat := by omega
    unfold slebL
    rw [if_neg (by omega), if_pos (by omega), hc, if_pos (by omega), or64_add (by omega) (by rw [p128]; exact hv), p128, hm]
    simp
  | succ m ih =>
    intro n f k v q x h1 h2 hk hb hn hf hv hl he
    obtain ⟨n, rfl⟩ : ∃ n', n = n' + 1 := ⟨n - 1, by omega⟩
    obtain ⟨f, rfl⟩ : ∃ f', f = f' + 1 := ⟨f - 1, by omega⟩
    have hm : (x % 128).toNat % 128 = (x % 128).toNat := by omega
    unfold sLebN at hl he ⊢
    by_cases hs : sEnd x
    · rw [if_pos hs] at hl he ⊢
      simp only [List.length_singleton] at he ⊢
      have hc := hl 0 _ rfl
      rw [Nat.add_zero] at hc
      have hx := (sEnd_iff x).1 hs
      refine ⟨0, by omega, rfl, by omega, by omega, ?_⟩
      unfold slebL
      rw [if_neg (by omega), if_pos (by omega), hc, if_pos (by omega), or64_add (by omega) (by rw [p128]; exact hv), p128, hm]
      simp
    · rw [if_neg hs] at hl he ⊢
      simp only [List.length_cons] at he ⊢
      obtain ⟨hc, hl2⟩ := hl.cons
      have e128 : (128 : Int) ^ (m + 1) = 128 ^ m * 128 := Int.pow_succ _ _
      rw [e128] at h1 h2
      have hp : 128 ^ (k + 1) = 128 ^ k * 128 := Nat.pow_succ _ _
      have hp9 : 128 ^ (k + 1) ≤ 128 ^ 9 := Nat.pow_le_pow_right (by decide) (by omega)
      have hp9' : 128 ^ 9 = 9223372036854775808 := by decide
      have hlt : (x % 128).toNat * 128 ^ k ≤ 127 * 128 ^ k := Nat.mul_le_mul_right _ (by omega)
      have hm2 : ((x % 128).toNat + 128) % 128 = (x % 128).toNat := by omega
      obtain ⟨j, j1, j2, j3, j4, j5⟩ := ih n f (k + 1) (v + (x % 128).toNat * 128 ^ k) (q + 1) (x / 128) (by omega) (by omega) (by omega) (by omega) (by omega) (by omega) (by omega) hl2 (by omega)
      have ej : (128 : Int) ^ (j + 1) = 128 ^ j * 128 := Int.pow_succ _ _
      have ej2 : (128 : Int) ^ (j + 1 + 1) = 128 * 128 ^ (j + 1) := by rw [Int.pow_succ, Int.mul_comm]
      refine ⟨j + 1, by omega, by omega, by rw [ej]; omega, by rw [ej]; omega, ?_⟩
      unfold slebL
      rw [if_neg (by omega), if_pos (by omega), hc, if_neg (by omega), or64_add (by omega) (by rw [p128]; exact hv), p128, hm2, Nat.mod_eq_of_lt (a := v + (x % 128).toNat * 128 ^ k) (by omega), j5]
      have hA : x / 128 / 128 ^ j % 128 = x / 128 ^ (j + 1) % 128 := by
        rw [Int.ediv_ediv_of_nonneg (by decide), ej, Int.mul_comm]
      have hP : (0 : Int) < 128 ^ (j + 1) := Int.pow_pos (by decide)
      have hB : x % 128 ^ (j + 1 + 1) = x % 128 + 128 * (x / 128 % 128 ^ (j + 1)) := by
        rw [ej2]
        generalize (128 : Int) ^ (j + 1) = P at hP
        have g1 : x % (128 * P) = x - 128 * P * (x / (128 * P)) := Int.emod_def _ _
        have g2 : x / 128 % P = x / 128 - P * (x / 128 / P) := Int.emod_def _ _
        rw [← Int.ediv_ediv_of_nonneg (by decide : (0 : Int) ≤ 128)] at g1
        rw [g1, g2, Int.mul_assoc]
        generalize P * (x / 128 / P) = t
        omega
      have hB0 : 0 ≤ x / 128 % 128 ^ (j + 1) := Int.emod_nonneg _ (by omega)
      have hBn : (x % 128 ^ (j + 1 + 1)).toNat = (x % 128).toNat + (x / 128 % 128 ^ (j + 1)).toNat * 128 := by omega
      have hV : v + (x % 128).toNat * 128 ^ k + (x / 128 % 128 ^ (j + 1)).toNat * 128 ^ (k + 1) = v + (x % 128 ^ (j + 1 + 1)).toNat * 128 ^ k := by
        rw [hBn, hp, Nat.add_mul, Nat.mul_assoc, Nat.mul_comm 128 (128 ^ k)]; omega
      rw [hA, hV, show k + 1 + j + 1 = k + (j + 1) + 1 by omega, show q + 1 + j + 1 = q + (j + 1) + 1 by omega]
/- the value of k groups, their sign spread -/
theorem xV_of {x : Int} {j : Nat} (hj : j + 1 ≤ 9) (h1 : -(64 * 128 ^ j : Int) ≤ x) (h2 : x < (64 * 128 ^ j : Int)) : xV (((x % 128 ^ (j + 1)).toNat : Nat) : Int) (j + 1) = x := by
  unfold xV
  have hP : (0 : Int) < 128 ^ (j + 1) := Int.pow_pos (by decide)
  have hc : (((x % 128 ^ (j + 1)).toNat : Nat) : Int) = x % 128 ^ (j + 1) := by have := Int.emod_nonneg x (Int.ne_of_gt hP); omega
  rw [hc]
  have e1 : (128 : Int) ^ (j + 1) = 2 ^ (7 * (j + 1)) := by rw [Int.pow_mul]; rfl
  have e2 : (64 : Int) * 128 ^ j * 2 ^ (64 - 7 * (j + 1)) = 9223372036854775808 := by
    have : (128 : Int) ^ j = 2 ^ (7 * j) := by rw [Int.pow_mul]; rfl
    rw [this, show (64 : Int) = 2 ^ 6 from rfl, ← Int.pow_add, ← Int.pow_add, show 6 + 7 * j + (64 - 7 * (j + 1)) = 63 by omega]; rfl
  have e3 : (128 : Int) ^ (j + 1) * 2 ^ (64 - 7 * (j + 1)) = 18446744073709551616 := by
    rw [e1, ← Int.pow_add, show 7 * (j + 1) + (64 - 7 * (j + 1)) = 64 by omega]; rfl
  have hT : (0 : Int) < 2 ^ (64 - 7 * (j + 1)) := Int.pow_pos (by decide)
  generalize (2 : Int) ^ (64 - 7 * (j + 1)) = T at *
  have e4 : x % 128 ^ (j + 1) * T = x * T - 18446744073709551616 * (x / 128 ^ (j + 1)) := by
    rw [Int.emod_def, Int.sub_mul, Int.mul_right_comm, e3]
  have b1 : -9223372036854775808 ≤ x * T := by
    rw [← e2, ← Int.neg_mul]; exact Int.mul_le_mul_of_nonneg_right h1 (by omega)
  have b2 : x * T < 9223372036854775808 := by
    rw [← e2]; exact Int.mul_lt_mul_of_pos_right h2 hT
  have e5 : wrap64 (IntKind.u64.wrap (x % 128 ^ (j + 1) * T)) = x * T := by
    rw [e4, IntKind.wrap_u64]
    unfold wrap64
    omega
  rw [e5, Int.mul_ediv_cancel _ (by omega)]
theorem sLebN_le : ∀ (n : Nat) (x : Int), (sLebN n x).length ≤ n
  | 0, x => by simp [sLebN]
  | n + 1, x => by
    unfold sLebN
    split
    · simp
    · have := sLebN_le n (x / 128)
      simp only [List.length_cons]; omega
def sg32 (y : Int) : Int := if y % 4294967296 < 2147483648 then y % 4294967296 else y % 4294967296 - 4294967296
theorem slebS_leb32 {s : ByteArray} {q e : Nat} {y : Int} (hy : 0 ≤ y ∧ y < 4294967296) (hl : Lies s q (sLeb (sg32 y))) (he : q + (sLeb (sg32 y)).length ≤ e) : slebS s q e 32 = .ok (y, q + (sLeb (sg32 y)).length) := by
  have hx : -2147483648 ≤ sg32 y ∧ sg32 y < 2147483648 ∧ sg32 y % 4294967296 = y := by unfold sg32; split <;> omega
  generalize sg32 y = x at *
  obtain ⟨j, j1, j2, j3, j4, j5⟩ := slebL_leb (s := s) (e := e) (start := q) (bt := 32) 4 11 10 0 0 q x (by omega) (by omega) (by omega) (by omega) (by omega) (by omega) (by decide) hl he
  unfold slebS
  have hl0 : (sLeb x).length = j + 1 := j2
  rw [show ((0 : Nat) : Int) = 0 from rfl] at j5
  rw [j5, hl0]
  have hP : (128 : Int) ^ (j + 1) ≤ 128 ^ 5 := by
    have h1 : 128 ^ (j + 1) ≤ 128 ^ 5 := Nat.pow_le_pow_right (by decide) (by omega)
    exact_mod_cast h1
  have hP0 : (0 : Int) < 128 ^ (j + 1) := Int.pow_pos (by decide)
  have hr := Int.emod_lt_of_pos x hP0
  have hr0 := Int.emod_nonneg x (Int.ne_of_gt hP0)
  have h5 : (128 : Int) ^ 5 = 34359738368 := by decide
  have hv : (0 + (x % 128 ^ (j + 1)).toNat * 128 ^ 0) % 18446744073709551616 = (x % 128 ^ (j + 1)).toNat := by
    rw [Nat.pow_zero, Nat.mul_one, Nat.zero_add]
    exact Nat.mod_eq_of_lt (by omega)
  dsimp only
  rw [hv, Nat.zero_add]
  unfold slebEnd
  rw [if_neg (by omega), if_pos rfl, xV_of (by omega) j3 j4, if_neg (by omega), hx.2.2]
  rfl
theorem slebS_leb64 {s : ByteArray} {q e : Nat} {y : Int} (hy : 0 ≤ y ∧ y < 18446744073709551616) (hl : Lies s q (sLeb (wrap64 y))) (he : q + (sLeb (wrap64 y)).length ≤ e) : slebS s q e 64 = .ok (y, q + (sLeb (wrap64 y)).length) := by
  have hx : -9223372036854775808 ≤ wrap64 y ∧ wrap64 y < 9223372036854775808 ∧ wrap64 y % 18446744073709551616 = y := by unfold wrap64; omega
  generalize wrap64 y = x at *
  obtain ⟨j, j1, j2, j3, j4, j5⟩ := slebL_leb (s := s) (e := e) (start := q) (bt := 64) 9 11 10 0 0 q x (by omega) (by omega) (by omega) (by omega) (by omega) (by omega) (by decide) hl he
  unfold slebS
  have hl0 : (sLeb x).length = j + 1 := j2
  rw [show ((0 : Nat) : Int) = 0 from rfl] at j5
  rw [j5, hl0]
  dsimp only
  rw [Nat.pow_zero, Nat.mul_one, Nat.zero_add, Nat.zero_add]
  unfold slebEnd
  by_cases h9 : j = 9
  · subst h9
    rw [if_pos (by omega)]
    have hc : (x / 128 ^ 9 % 128).toNat = 0 ∨ (x / 128 ^ 9 % 128).toNat = 127 := by
      rw [show (128 : Int) ^ 9 = 9223372036854775808 by decide]; omega
    rw [if_pos hc]
    have hv : (((x % 128 ^ (9 + 1)).toNat % 18446744073709551616 : Nat) : Int) = y := by
      rw [show (128 : Int) ^ (9 + 1) = 1180591620717411303424 by decide]; omega
    rw [hv]
  · have hP : (128 : Int) ^ (j + 1) ≤ 128 ^ 9 := by
      have h1 : 128 ^ (j + 1) ≤ 128 ^ 9 := Nat.pow_le_pow_right (by decide) (by omega)
      exact_mod_cast h1
    have hP0 : (0 : Int) < 128 ^ (j + 1) := Int.pow_pos (by decide)
    have hr := Int.emod_lt_of_pos x hP0
    have hr0 := Int.emod_nonneg x (Int.ne_of_gt hP0)
    have h5 : (128 : Int) ^ 9 = 9223372036854775808 := by decide
    rw [if_neg (by omega), if_neg (by decide), Nat.mod_eq_of_lt (by omega), xV_of (by omega) j3 j4, IntKind.wrap_u64, hx.2.2]
    rfl
/- what was read is no shorter -/
theorem slebL_len {s : ByteArray} {e start bt : Nat} : ∀ (n k : Nat) (v : Int) (q k' cc : Nat) (v' : Int) (q' : Nat), slebL s e start bt n k v q = .ok (k', cc, v', q') → k < k' ∧ q' = q + (k' - k) ∧ 7 * (k' - 1) < bt
  | 0, k, v, q, k', cc, v', q', h => by simp [slebL] at h
  | n + 1, k, v, q, k', cc, v', q', h => by
    unfold slebL at h
    split at h
    · simp at h
    · rename_i hb
      split at h
      · split at h
        · simp at h
          obtain ⟨rfl, _, _, rfl⟩ := h
          exact ⟨by omega, by omega, by simpa using hb⟩
        · have := slebL_len n _ _ _ _ _ _ _ h
          exact ⟨by omega, by omega, this.2.2⟩
      · simp at h
theorem xV_r {v : Int} {j : Nat} (hj : j + 1 ≤ 9) : -(64 * 128 ^ j : Int) ≤ xV v (j + 1) ∧ xV v (j + 1) < (64 * 128 ^ j : Int) := by
  unfold xV
  have e2 : (64 : Int) * 128 ^ j * 2 ^ (64 - 7 * (j + 1)) = 9223372036854775808 := by
    have : (128 : Int) ^ j = 2 ^ (7 * j) := by rw [Int.pow_mul]; rfl
    rw [this, show (64 : Int) = 2 ^ 6 from rfl, ← Int.pow_add, ← Int.pow_add, show 6 + 7 * j + (64 - 7 * (j + 1)) = 63 by omega]; rfl
  have hT : (0 : Int) < 2 ^ (64 - 7 * (j + 1)) := Int.pow_pos (by decide)
  generalize (2 : Int) ^ (64 - 7 * (j + 1)) = T at *
  have hw : -9223372036854775808 ≤ wrap64 (IntKind.u64.wrap (v * T)) ∧ wrap64 (IntKind.u64.wrap (v * T)) < 9223372036854775808 := by unfold wrap64; omega
  generalize wrap64 (IntKind.u64.wrap (v * T)) = z at hw
  constructor
  · rw [Int.le_ediv_iff_mul_le hT, Int.neg_mul, e2]; exact hw.1
  · rw [Int.ediv_lt_iff_lt_mul hT, e2]; exact hw.2
theorem slebS_len32 {s : ByteArray} {q e : Nat} {y : Int} {r : Nat} (h : slebS s q e 32 = .ok (y, r)) : (sLeb (sg32 y)).length ≤ r - q ∧ q < r ∧ 0 ≤ y ∧ y < 4294967296 := by
  unfold slebS at h
  split at h
  · simp at h
  · rename_i k cc v q' hl
    obtain ⟨h1, h2, h3⟩ := slebL_len _ _ _ _ _ _ _ _ hl
    obtain ⟨j, rfl⟩ : ∃ j, k = j + 1 := ⟨k - 1, by omega⟩
    unfold slebEnd at h
    rw [if_neg (by omega), if_pos rfl] at h
    split at h
    · simp at h
    · rename_i hr
      simp at h
      obtain ⟨rfl, rfl⟩ := h
      have hx := xV_r (v := v) (j := j) (by omega)
      generalize xV v (j + 1) = x at *
      have e : sg32 (x % 4294967296) = x := by unfold sg32; split <;> omega
      rw [e]
      have := sLebN_len j 10 x hx.1 hx.2 (by omega)
      exact ⟨by unfold sLeb; omega, by omega, by omega, by omega⟩
theorem slebS_len64 {s : ByteArray} {q e : Nat} {y : Int} {r : Nat} (h : slebS s q e 64 = .ok (y, r)) : (sLeb (wrap64 y)).length ≤ r - q ∧ q < r ∧ 0 ≤ y ∧ y < 18446744073709551616 := by
  have h0 := slebS_ok h
  unfold slebS at h
  split at h
  · simp at h
  · rename_i k cc v q' hl
    obtain ⟨h1, h2, h3⟩ := slebL_len _ _ _ _ _ _ _ _ hl
    obtain ⟨j, rfl⟩ : ∃ j, k = j + 1 := ⟨k - 1, by omega⟩
    refine ⟨?_, by omega, h0.1.1, h0.1.2⟩
    unfold slebEnd at h
    split at h
    · have hl10 := sLebN_le 10 (wrap64 y)
      split at h
      · simp at h
        obtain ⟨rfl, rfl⟩ := h
        unfold sLeb; omega
      · simp at h
    · rw [if_neg (by decide)] at h
      simp at h
      obtain ⟨rfl, rfl⟩ := h
      have hx := xV_r (v := v) (j := j) (by omega)
      have hP : (128 : Int) ^ j ≤ 128 ^ 8 := by
        have h1 : 128 ^ j ≤ 128 ^ 8 := Nat.pow_le_pow_right (by decide) (by omega)
        exact_mod_cast h1
      have h5 : (128 : Int) ^ 8 = 72057594037927936 := by decide
      have e : wrap64 (IntKind.u64.wrap (xV v (j + 1))) = xV v (j + 1) := by
        rw [IntKind.wrap_u64]; unfold wrap64; omega
      rw [e]
      have := sLebN_len j 10 _ hx.1 hx.2 (by omega)
      unfold sLeb; omega
end Go.Proofs.Qxb6500275aGreatDoor
