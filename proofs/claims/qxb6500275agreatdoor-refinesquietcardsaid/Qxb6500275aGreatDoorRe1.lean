import Derived.Test.Qxb6500275aGreatDoorSp1
import Derived.Laws.BitsAllLaws
import Derived.Laws.Bits64b
set_option linter.unusedVariables false
set_option linter.unusedSimpArgs false
namespace Go.Proofs.Qxb6500275aGreatDoor
open Go Go.RowKit
/- the bytes l lie in s at p -/
def Lies (s : ByteArray) (p : Nat) (l : List Nat) : Prop := ∀ i x, l[i]? = some x → bAt s (p + i) = x
theorem Lies.nil (s : ByteArray) (p : Nat) : Lies s p [] := fun i x h => by simp at h
theorem Lies.cons {s : ByteArray} {p a : Nat} {l : List Nat} (h : Lies s p (a :: l)) : bAt s p = a ∧ Lies s (p + 1) l :=
  ⟨h 0 a rfl, fun i x hx => by have := h (i + 1) x (by simpa using hx); rwa [show p + 1 + i = p + (i + 1) by omega]⟩
theorem Lies.app {s : ByteArray} {p : Nat} {a b : List Nat} (h : Lies s p (a ++ b)) : Lies s p a ∧ Lies s (p + a.length) b := by
  constructor
  · intro i x hx
    refine h i x ?_
    have hl : i < a.length := by
      rcases Nat.lt_or_ge i a.length with h | h
      · exact h
      · rw [List.getElem?_eq_none h] at hx; simp at hx
    rw [List.getElem?_append_left hl]; exact hx
  · intro i x hx
    have := h (a.length + i) x (by rw [List.getElem?_append_right (by omega)]; rwa [show a.length + i - a.length = i by omega])
    rwa [Nat.add_assoc]
/- the shortest unsigned number -/
def uLebF : Nat → Nat → List Nat
  | 0, v => [v]
  | n + 1, v => if v < 128 then [v] else (v % 128 + 128) :: uLebF n (v / 128)
def uLeb (v : Nat) : List Nat := uLebF v v
theorem uLebF_lt {v : Nat} (h : v < 128) : ∀ n, uLebF n v = [v]
  | 0 => rfl
  | n + 1 => by rw [uLebF, if_pos h]
theorem uLebF_more : ∀ (n m v : Nat), v ≤ n → v ≤ m → uLebF n v = uLebF m v
  | 0, m, v, h1, h2 => by rw [uLebF_lt (by omega), uLebF_lt (by omega)]
  | n + 1, 0, v, h1, h2 => by rw [uLebF_lt (by omega), uLebF_lt (by omega)]
  | n + 1, m + 1, v, h1, h2 => by
    by_cases h : v < 128
    · rw [uLebF_lt h, uLebF_lt h]
    · rw [uLebF, uLebF, if_neg h, if_neg h, uLebF_more n m (v / 128) (by omega) (by omega)]
theorem uLeb_lt {v : Nat} (h : v < 128) : uLeb v = [v] := uLebF_lt h v
theorem uLeb_ge {v : Nat} (h : ¬ v < 128) : uLeb v = (v % 128 + 128) :: uLeb (v / 128) := by
  obtain ⟨n, rfl⟩ : ∃ n, v = n + 1 := ⟨v - 1, by omega⟩
  show uLebF (n + 1) (n + 1) = _
  rw [uLebF, if_neg h, uLebF_more n ((n + 1) / 128) ((n + 1) / 128) (by omega) (Nat.le_refl _)]
  rfl
theorem uLeb_pos (v : Nat) : 0 < (uLeb v).length := by
  by_cases h : v < 128
  · rw [uLeb_lt h]; simp
  · rw [uLeb_ge h]; simp
theorem uLeb_le (k : Nat) : ∀ v, v < 2 ^ (7 * (k + 1)) → (uLeb v).length ≤ k + 1 := by
  induction k with
  | zero => intro v h; rw [uLeb_lt (by simpa using h)]; simp
  | succ k ih =>
    intro v h
    by_cases hv : v < 128
    · rw [uLeb_lt hv]; simp
    · rw [uLeb_ge hv]
      have := ih (v / 128) (by
        rw [Nat.div_lt_iff_lt_mul (by decide)]
        have e : 2 ^ (7 * (k + 1 + 1)) = 2 ^ (7 * (k + 1)) * 128 := by rw [show 7 * (k + 1 + 1) = 7 * (k + 1) + 7 by omega, Nat.pow_add]
        omega)
      simp only [List.length_cons]; omega
theorem uLeb_by (v : Nat) : ∀ x ∈ uLeb v, x < 256 := by
  induction v using Nat.strongRecOn with
  | ind v ih =>
    intro x hx
    by_cases hv : v < 128
    · rw [uLeb_lt hv] at hx; simp at hx; omega
    · rw [uLeb_ge hv] at hx
      rcases List.mem_cons.1 hx with h | h
      · omega
      · exact ih _ (by omega) x h
/- one group more -/
theorem orAt_add {v k c : Nat} (hv : v < 2 ^ (7 * k)) (hs : v + c % 128 * 2 ^ (7 * k) < 4294967296) : orAt (v : Int) k c = ((v + c % 128 * 2 ^ (7 * k) : Nat) : Int) := by
  unfold orAt
  have e : ((c : Int) % 128 * 2 ^ (7 * k) % 4294967296) = ((c % 128 * 2 ^ (7 * k) : Nat) : Int) := by
    have : ((c : Int) % 128 * 2 ^ (7 * k)) = ((c % 128 * 2 ^ (7 * k) : Nat) : Int) := by push_cast; rfl
    rw [this]; omega
  rw [e, u32_or_nat _ _ (by omega) (by omega)]
  congr 1
  rw [Nat.or_comm, Nat.mul_comm (c % 128), ← Nat.two_pow_add_eq_or_of_lt hv]
  omega
theorem u32L_leb {s : ByteArray} {e start : Nat} : ∀ (n v x q : Nat), n ≤ 4 → v < 2 ^ (7 * (4 - n)) → v + x * 2 ^ (7 * (4 - n)) < 4294967296 → Lies s q (uLeb x) → q + (uLeb x).length ≤ e →
    u32L s e start (n + 1) (v : Int) q = .ok (((v + x * 2 ^ (7 * (4 - n)) : Nat) : Int), q + (uLeb x).length) := by
  intro n
  induction n with
  | zero =>
    intro v x q hn hv hs hl he
    have hx : x < 16 := by
      have : x * 2 ^ (7 * (4 - 0)) < 4294967296 := by omega
      simp at this; omega
    rw [uLeb_lt (by omega)] at hl he ⊢
    simp only [List.length_singleton] at he ⊢
    have hb := hl 0 x rfl
    rw [Nat.add_zero] at hb
    unfold u32L
    rw [if_pos (by omega), hb, if_neg (by omega), if_pos (by omega), orAt_add hv (by rw [Nat.mod_eq_of_lt (by omega)]; exact hs), Nat.mod_eq_of_lt (by omega)]
  | succ n ih =>
    intro v x q hn hv hs hl he
    unfold u32L
    by_cases hx : x < 128
    · rw [uLeb_lt hx] at hl he ⊢
      simp only [List.length_singleton] at he ⊢
      have hb := hl 0 x rfl
      rw [Nat.add_zero] at hb
      rw [if_pos (by omega), hb, if_neg (by omega), if_pos (by omega), orAt_add hv (by rw [Nat.mod_eq_of_lt (by omega)]; exact hs), Nat.mod_eq_of_lt (by omega)]
    · rw [uLeb_ge hx] at hl he ⊢
      simp only [List.length_cons] at he ⊢
      obtain ⟨hb, hl2⟩ := hl.cons
      have e1 : 2 ^ (7 * (4 - n)) = 128 * 2 ^ (7 * (4 - (n + 1))) := by
        rw [show 7 * (4 - n) = 7 + 7 * (4 - (n + 1)) by omega, Nat.pow_add]
      have e2 : x * 2 ^ (7 * (4 - (n + 1))) = x % 128 * 2 ^ (7 * (4 - (n + 1))) + x / 128 * 2 ^ (7 * (4 - n)) := by
        rw [e1, ← Nat.mul_assoc, ← Nat.add_mul]
        congr 1
        omega
      have hm : (x % 128 + 128) % 128 = x % 128 := by omega
      have hlt : x % 128 * 2 ^ (7 * (4 - (n + 1))) ≤ 127 * 2 ^ (7 * (4 - (n + 1))) := Nat.mul_le_mul_right _ (by omega)
      rw [if_pos (by omega), hb, if_neg (by omega), if_neg (by omega), orAt_add hv (by rw [hm]; omega), hm,
        ih (v + x % 128 * 2 ^ (7 * (4 - (n + 1)))) (x / 128) (q + 1) (by omega) (by rw [e1]; omega) (by omega) hl2 (by omega)]
      congr 2
      · rw [e2]; congr 1; omega
      · omega
theorem u32S_leb {s : ByteArray} {x q e : Nat} (hx : x < 4294967296) (hl : Lies s q (uLeb x)) (he : q + (uLeb x).length ≤ e) : u32S s q e = .ok ((x : Int), q + (uLeb x).length) := by
  have := u32L_leb (start := q) (e := e) 4 0 x q (by omega) (by decide) (by omega) hl he
  simpa [u32S] using this
/- what was read is no shorter -/
theorem u32L_len {s : ByteArray} {e start : Nat} : ∀ (n v q : Nat) (x : Int) (r : Nat), n ≤ 4 → v < 2 ^ (7 * (4 - n)) → u32L s e start (n + 1) (v : Int) q = .ok (x, r) →
    ∃ k y : Nat, k ≤ n ∧ r = q + k + 1 ∧ y < 2 ^ (7 * (k + 1)) ∧ x = ((v + y * 2 ^ (7 * (4 - n)) : Nat) : Int) ∧ x < 4294967296 := by
  intro n
  induction n with
  | zero =>
    intro v q x r hn hv h
    unfold u32L at h
    split at h
    · split at h
      · simp at h
      · rename_i h15
        split at h
        · simp only [Except.ok.injEq, Prod.mk.injEq] at h
          obtain ⟨rfl, rfl⟩ := h
          have hc : bAt s q ≤ 15 := by omega
          rw [orAt_add hv (by rw [Nat.mod_eq_of_lt (by omega)]; simp at hv ⊢; omega), Nat.mod_eq_of_lt (by omega)]
          refine ⟨0, bAt s q, by omega, rfl, by simp; omega, rfl, ?_⟩
          simp at hv ⊢; omega
        · unfold u32L at h; simp at h
    · simp at h
  | succ n ih =>
    intro v q x r hn hv h
    have hlt : bAt s q % 128 * 2 ^ (7 * (4 - (n + 1))) ≤ 127 * 2 ^ (7 * (4 - (n + 1))) := Nat.mul_le_mul_right _ (by omega)
    have hp : 2 ^ (7 * (4 - (n + 1))) ≤ 2 ^ 21 := Nat.pow_le_pow_right (by decide) (by omega)
    have hp2 : 2 ^ 21 = 2097152 := by decide
    have e1 : 2 ^ (7 * (4 - n)) = 128 * 2 ^ (7 * (4 - (n + 1))) := by
      rw [show 7 * (4 - n) = 7 + 7 * (4 - (n + 1)) by omega, Nat.pow_add]
    unfold u32L at h
    split at h
    · split at h
      · omega
      · split at h
        · simp only [Except.ok.injEq, Prod.mk.injEq] at h
          obtain ⟨rfl, rfl⟩ := h
          rw [orAt_add hv (by omega)]
          exact ⟨0, bAt s q % 128, by omega, rfl, by simp; omega, rfl, by omega⟩
        · rw [orAt_add hv (by omega)] at h
          obtain ⟨k, y, h1, h2, h3, h4, h5⟩ := ih _ _ x r (by omega) (by rw [e1]; omega) h
          refine ⟨k + 1, bAt s q % 128 + y * 128, by omega, by omega, ?_, ?_, h5⟩
          · have e2 : 2 ^ (7 * (k + 1 + 1)) = 2 ^ (7 * (k + 1)) * 128 := by rw [show 7 * (k + 1 + 1) = 7 * (k + 1) + 7 by omega, Nat.pow_add]
            omega
          · rw [h4, e1, Nat.add_mul, Nat.mul_assoc y]
            congr 1; omega
    · simp at h
theorem u32S_len {s : ByteArray} {q e : Nat} {x : Int} {r : Nat} (h : u32S s q e = .ok (x, r)) : (uLeb x.toNat).length ≤ r - q ∧ q < r ∧ 0 ≤ x ∧ x < 4294967296 := by
  have h0 := u32S_ok h
  obtain ⟨k, y, h1, h2, h3, h4, h5⟩ := u32L_len (s := s) (e := e) (start := q) 4 0 q x r (by omega) (by decide) h
  have : x.toNat = y := by rw [h4]; simp
  rw [this]
  have := uLeb_le k y h3
  exact ⟨by omega, by omega, by omega, h5⟩
end Go.Proofs.Qxb6500275aGreatDoor
