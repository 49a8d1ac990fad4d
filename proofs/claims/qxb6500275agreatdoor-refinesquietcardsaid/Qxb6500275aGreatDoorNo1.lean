import Derived.Test.Qxb6500275aGreatDoorNqL
set_option maxRecDepth 100000
set_option linter.unusedVariables false
set_option linter.unusedSimpArgs false
namespace Go.Proofs.Qxb6500275aGreatDoor
/- bits of two parts -/
theorem and_parts (h l mh ml k : Nat) (hl : l < 2 ^ k) (hm : ml < 2 ^ k) : (2 ^ k * h + l) &&& (2 ^ k * mh + ml) = 2 ^ k * (h &&& mh) + (l &&& ml) := by
  have hlm : l &&& ml < 2 ^ k := Nat.and_lt_two_pow _ hm
  refine Nat.eq_of_testBit_eq fun i => ?_
  rw [Nat.testBit_and, Nat.testBit_two_pow_mul_add h hl, Nat.testBit_two_pow_mul_add mh hm, Nat.testBit_two_pow_mul_add _ hlm]
  by_cases hi : i < k
  · simp only [hi, if_true, Nat.testBit_and]
  · simp only [hi, if_false, Nat.testBit_and]
/- byte by byte -/
def bm (f : Nat → Nat) : Nat → Nat → Nat
  | 0, _ => 0
  | k + 1, a => f (a % 256) + 256 * bm f k (a / 256)
def mk8 (c : Nat) : Nat → Nat
  | 0 => 0
  | k + 1 => 256 * mk8 c k + c
theorem and8 (x k c : Nat) (hc : c < 256) : x &&& mk8 c (k + 1) = (x % 256 &&& c) + 256 * (x / 256 &&& mk8 c k) := by
  have h := and_parts (x / 256) (x % 256) (mk8 c k) c 8 (Nat.mod_lt _ (by decide)) hc
  have e : 2 ^ 8 * (x / 256) + x % 256 = x := by
    have := Nat.div_add_mod x 256
    omega
  rw [e] at h
  rw [show mk8 c (k + 1) = 2 ^ 8 * mk8 c k + c from rfl, h]
  omega
theorem byte_2 : ∀ l, l < 256 → ∀ b, b < 2 → (128 * b + l / 2) &&& 85 = l / 2 &&& 85 := by decide +kernel
theorem byte_4 : ∀ l, l < 256 → ∀ b, b < 4 → (64 * b + l / 4) &&& 51 = l / 4 &&& 51 := by decide +kernel
theorem byte_16 : ∀ l, l < 69 → ∀ b, b < 5 → (16 * b + l + l / 16) &&& 15 = (l + l / 16) &&& 15 := by decide +kernel
theorem sw_1 : ∀ k a : Nat, a / 2 &&& mk8 85 k = bm (fun b => b / 2 &&& 85) k a
  | 0, a => by unfold mk8 bm; exact Nat.and_zero _
  | k + 1, a => by
    rw [and8 _ k 85 (by decide), bm, ← sw_1 k (a / 256)]
    have e1 : a / 2 % 256 = 128 * (a / 256 % 2) + a % 256 / 2 := by omega
    have e2 : a / 2 / 256 = a / 256 / 2 := by omega
    rw [e1, e2, byte_2 (a % 256) (Nat.mod_lt _ (by decide)) (a / 256 % 2) (Nat.mod_lt _ (by decide))]
theorem bm_le (f : Nat → Nat) (hf : ∀ b, b < 256 → f b ≤ b) : ∀ k a, bm f k a ≤ a
  | 0, a => by unfold bm; omega
  | k + 1, a => by
    have h1 := hf (a % 256) (Nat.mod_lt _ (by decide))
    have h2 := bm_le f hf k (a / 256)
    unfold bm
    omega
theorem bm_sub (f : Nat → Nat) (hf : ∀ b, b < 256 → f b ≤ b) : ∀ k a, a < 256 ^ k → a - bm f k a = bm (fun b => b - f b) k a
  | 0, a, h => by rw [Nat.pow_zero] at h; unfold bm; omega
  | k + 1, a, h => by
    have h1 := hf (a % 256) (Nat.mod_lt _ (by decide))
    have h2 := bm_le f hf k (a / 256)
    have h3 := bm_sub f hf k (a / 256) (by rw [Nat.pow_succ] at h; exact Nat.div_lt_of_lt_mul (by rw [Nat.mul_comm]; exact h))
    unfold bm
    rw [← h3]
    omega
theorem bm_lt (f : Nat → Nat) (hf : ∀ b, b < 256 → f b < 256) : ∀ k a, bm f k a < 256 ^ k
  | 0, a => by unfold bm; simp
  | k + 1, a => by
    have h1 := hf (a % 256) (Nat.mod_lt _ (by decide))
    have h2 := bm_lt f hf k (a / 256)
    unfold bm
    rw [Nat.pow_succ]
    omega
theorem bm_bm (f g : Nat → Nat) (hf : ∀ b, b < 256 → f b < 256) : ∀ k a, bm g k (bm f k a) = bm (fun b => g (f b)) k a
  | 0, a => by unfold bm; rfl
  | k + 1, a => by
    have h1 := hf (a % 256) (Nat.mod_lt _ (by decide))
    have e1 : bm f (k + 1) a % 256 = f (a % 256) := by unfold bm; omega
    have e2 : bm f (k + 1) a / 256 = bm f k (a / 256) := by
      conv => lhs; unfold bm
      omega
    rw [bm, e1, e2, bm_bm f g hf k (a / 256)]
    rfl
theorem sw_2 : ∀ k a : Nat, (a &&& mk8 51 k) + (a / 4 &&& mk8 51 k) = bm (fun b => (b &&& 51) + (b / 4 &&& 51)) k a
  | 0, a => by unfold mk8 bm; rw [Nat.and_zero, Nat.and_zero]
  | k + 1, a => by
    rw [and8 _ k 51 (by decide), and8 _ k 51 (by decide), bm, ← sw_2 k (a / 256)]
    have e1 : a / 4 % 256 = 64 * (a / 256 % 4) + a % 256 / 4 := by omega
    have e2 : a / 4 / 256 = a / 256 / 4 := by omega
    rw [e1, e2, byte_4 (a % 256) (Nat.mod_lt _ (by decide)) (a / 256 % 4) (Nat.mod_lt _ (by decide))]
    omega
/- nibbles of at most four -/
def nib (f : Nat → Nat) : Prop := ∀ b, b < 256 → f b % 16 ≤ 4 ∧ f b / 16 ≤ 4
theorem sw_3 (f : Nat → Nat) (hf : nib f) : ∀ k a : Nat, (bm f k a + bm f k a / 16) &&& mk8 15 k = bm (fun b => (f b + f b / 16) &&& 15) k a
  | 0, a => by unfold mk8 bm; exact Nat.and_zero _
  | k + 1, a => by
    have h1 := hf (a % 256) (Nat.mod_lt _ (by decide))
    have ih := sw_3 f hf k (a / 256)
    have hn : bm f k (a / 256) % 16 ≤ 4 := by
      cases k with
      | zero => unfold bm; omega
      | succ j =>
        have h2 := hf (a / 256 % 256) (Nat.mod_lt _ (by decide))
        unfold bm
        omega
    rw [and8 _ k 15 (by decide)]
    have e1 : (bm f (k + 1) a + bm f (k + 1) a / 16) % 256 = 16 * (bm f k (a / 256) % 16) + f (a % 256) + f (a % 256) / 16 := by
      conv => lhs; unfold bm
      omega
    have e2 : (bm f (k + 1) a + bm f (k + 1) a / 16) / 256 = bm f k (a / 256) + bm f k (a / 256) / 16 := by
      conv => lhs; unfold bm
      omega
    rw [e1, e2, byte_16 (f (a % 256)) (by omega) (bm f k (a / 256) % 16) (by omega), ih]
    conv => rhs; unfold bm
/- one byte's ones -/
def one8 (b : Nat) : Nat := let t := b - (b / 2 &&& 85); let u := (t &&& 51) + (t / 4 &&& 51); (u + u / 16) &&& 15
theorem one8_ok : ∀ b, b < 256 → one8 b = popF 8 b ∧ one8 b ≤ 8 := by decide +kernel
theorem t_lt : ∀ b, b < 256 → b - (b / 2 &&& 85) < 256 := fun b hb => by omega
theorem p_le : ∀ b, b < 256 → (b / 2 &&& 85) ≤ b := fun b hb => by
  have : b / 2 &&& 85 ≤ b / 2 := Nat.and_le_left
  omega
theorem u_nib : nib (fun b => ((b - (b / 2 &&& 85)) &&& 51) + ((b - (b / 2 &&& 85)) / 4 &&& 51)) := by
  unfold nib
  decide +kernel
/- the sums side by side -/
def swar (k a : Nat) : Nat := let s := a - (a / 2 &&& mk8 85 k); let u := (s &&& mk8 51 k) + (s / 4 &&& mk8 51 k); (u + u / 16) &&& mk8 15 k
theorem swar_bm (k a : Nat) (h : a < 256 ^ k) : swar k a = bm one8 k a := by
  unfold swar
  dsimp only
  rw [sw_1, bm_sub _ p_le k a h, sw_2, bm_bm _ _ t_lt, sw_3 _ u_nib]
  rfl
theorem pop_mod (n a : Nat) : ∀ m, popF n (a + m * 2 ^ n) = popF n a := by
  induction n generalizing a with
  | zero => intro m; rfl
  | succ n ih =>
    intro m
    rw [popF, popF, Nat.pow_succ]
    have e1 : (a + m * (2 ^ n * 2)) % 2 = a % 2 := by rw [← Nat.mul_assoc]; omega
    have e2 : (a + m * (2 ^ n * 2)) / 2 = a / 2 + m * 2 ^ n := by rw [← Nat.mul_assoc]; omega
    rw [e1, e2, ih]
theorem pop_8 (a m : Nat) : popF (8 + m) a = popF 8 (a % 256) + popF m (a / 256) := by
  rw [pop_at a 8 (8 + m) (by omega), show 8 + m - 8 = m by omega]
  have h := pop_mod 8 (a % 256) (a / 256)
  rw [show a % 256 + a / 256 * 2 ^ 8 = a by omega] at h
  rw [h]
theorem swar_pop32 (a : Nat) (h : a < 4294967296) : swar 4 a * 16843009 % 4294967296 / 16777216 = popF 32 a := by
  rw [swar_bm 4 a h]
  have e : popF 32 a = popF 8 (a % 256) + (popF 8 (a / 256 % 256) + (popF 8 (a / 256 / 256 % 256) + (popF 8 (a / 256 / 256 / 256 % 256) + popF 0 (a / 256 / 256 / 256 / 256)))) := by
    rw [show (32 : Nat) = 8 + 24 by decide, pop_8, show (24 : Nat) = 8 + 16 by decide, pop_8, show (16 : Nat) = 8 + 8 by decide, pop_8, show popF 8 (a / 256 / 256 / 256) = popF (8 + 0) (a / 256 / 256 / 256) from rfl, pop_8]
  rw [e]
  have o : ∀ x, popF 8 (x % 256) = one8 (x % 256) ∧ one8 (x % 256) ≤ 8 := fun x => by
    have := one8_ok (x % 256) (Nat.mod_lt _ (by decide))
    exact ⟨this.1.symm, this.2⟩
  unfold bm bm bm bm bm
  have o0 := o a
  have o1 := o (a / 256)
  have o2 := o (a / 256 / 256)
  have o3 := o (a / 256 / 256 / 256)
  rw [o0.1, o1.1, o2.1, o3.1, popF]
  generalize one8 (a % 256) = v0 at *
  generalize one8 (a / 256 % 256) = v1 at *
  generalize one8 (a / 256 / 256 % 256) = v2 at *
  generalize one8 (a / 256 / 256 / 256 % 256) = v3 at *
  have hp : (v0 + 256 * (v1 + 256 * (v2 + 256 * (v3 + 256 * 0)))) * 16843009 = 4294967296 * (1 * (v1 + v2 + v3) + 256 * (v2 + v3) + 65536 * (v3)) + ((v0 + v1 + v2 + v3) * 16777216 + (1 * (v0) + 256 * (v0 + v1) + 65536 * (v0 + v1 + v2))) := by omega
  rw [hp, Nat.mul_add_mod, Nat.mod_eq_of_lt (by omega)]
  have hl : 1 * (v0) + 256 * (v0 + v1) + 65536 * (v0 + v1 + v2) < 16777216 := by omega
  generalize 1 * (v0) + 256 * (v0 + v1) + 65536 * (v0 + v1 + v2) = L at *
  rw [Nat.add_comm, Nat.add_mul_div_right _ _ (by decide), Nat.div_eq_of_lt hl]
  omega
set_option maxHeartbeats 4000000 in
theorem swar_pop64 (a : Nat) (h : a < 18446744073709551616) : swar 8 a * 72340172838076673 % 18446744073709551616 / 72057594037927936 = popF 64 a := by
  rw [swar_bm 8 a h]
  have e : popF 64 a = popF 8 (a % 256) + (popF 8 (a / 256 % 256) + (popF 8 (a / 256 / 256 % 256) + (popF 8 (a / 256 / 256 / 256 % 256) + popF 32 (a / 256 / 256 / 256 / 256)))) := by
    rw [show (64 : Nat) = 8 + 56 by decide, pop_8, show (56 : Nat) = 8 + 48 by decide, pop_8, show (48 : Nat) = 8 + 40 by decide, pop_8, show (40 : Nat) = 8 + 32 by decide, pop_8]
  have e' : ∀ a, popF 32 a = popF 8 (a % 256) + (popF 8 (a / 256 % 256) + (popF 8 (a / 256 / 256 % 256) + (popF 8 (a / 256 / 256 / 256 % 256) + popF 0 (a / 256 / 256 / 256 / 256)))) := fun a => by
    rw [show (32 : Nat) = 8 + 24 by decide, pop_8, show (24 : Nat) = 8 + 16 by decide, pop_8, show (16 : Nat) = 8 + 8 by decide, pop_8, show popF 8 (a / 256 / 256 / 256) = popF (8 + 0) (a / 256 / 256 / 256) from rfl, pop_8]
  rw [e, e']
  have o : ∀ x, popF 8 (x % 256) = one8 (x % 256) ∧ one8 (x % 256) ≤ 8 := fun x => by
    have := one8_ok (x % 256) (Nat.mod_lt _ (by decide))
    exact ⟨this.1.symm, this.2⟩
  unfold bm bm bm bm bm bm bm bm bm
  have o0 := o a
  have o1 := o (a / 256)
  have o2 := o (a / 256 / 256)
  have o3 := o (a / 256 / 256 / 256)
  have o4 := o (a / 256 / 256 / 256 / 256)
  have o5 := o (a / 256 / 256 / 256 / 256 / 256)
  have o6 := o (a / 256 / 256 / 256 / 256 / 256 / 256)
  have o7 := o (a / 256 / 256 / 256 / 256 / 256 / 256 / 256)
  rw [o0.1, o1.1, o2.1, o3.1, o4.1, o5.1, o6.1, o7.1, popF]
  generalize one8 (a % 256) = v0 at *
  generalize one8 (a / 256 % 256) = v1 at *
  generalize one8 (a / 256 / 256 % 256) = v2 at *
  generalize one8 (a / 256 / 256 / 256 % 256) = v3 at *
  generalize one8 (a / 256 / 256 / 256 / 256 % 256) = v4 at *
  generalize one8 (a / 256 / 256 / 256 / 256 / 256 % 256) = v5 at *
  generalize one8 (a / 256 / 256 / 256 / 256 / 256 / 256 % 256) = v6 at *
  generalize one8 (a / 256 / 256 / 256 / 256 / 256 / 256 / 256 % 256) = v7 at *
  clear h e e' o
  have r0 := o0.2
  have r1 := o1.2
  have r2 := o2.2
  have r3 := o3.2
  have r4 := o4.2
  have r5 := o5.2
  have r6 := o6.2
  have r7 := o7.2
  clear o0 o1 o2 o3 o4 o5 o6 o7
  have hp : (v0 + 256 * (v1 + 256 * (v2 + 256 * (v3 + 256 * (v4 + 256 * (v5 + 256 * (v6 + 256 * (v7 + 256 * 0)))))))) * 72340172838076673 = 18446744073709551616 * (1 * (v1 + v2 + v3 + v4 + v5 + v6 + v7) + 256 * (v2 + v3 + v4 + v5 + v6 + v7) + 65536 * (v3 + v4 + v5 + v6 + v7) + 16777216 * (v4 + v5 + v6 + v7) + 4294967296 * (v5 + v6 + v7) + 1099511627776 * (v6 + v7) + 281474976710656 * (v7)) + ((v0 + v1 + v2 + v3 + v4 + v5 + v6 + v7) * 72057594037927936 + (1 * (v0) + 256 * (v0 + v1) + 65536 * (v0 + v1 + v2) + 16777216 * (v0 + v1 + v2 + v3) + 4294967296 * (v0 + v1 + v2 + v3 + v4) + 1099511627776 * (v0 + v1 + v2 + v3 + v4 + v5) + 281474976710656 * (v0 + v1 + v2 + v3 + v4 + v5 + v6))) := by omega
  rw [hp, Nat.mul_add_mod, Nat.mod_eq_of_lt (by omega)]
  have hl : 1 * (v0) + 256 * (v0 + v1) + 65536 * (v0 + v1 + v2) + 16777216 * (v0 + v1 + v2 + v3) + 4294967296 * (v0 + v1 + v2 + v3 + v4) + 1099511627776 * (v0 + v1 + v2 + v3 + v4 + v5) + 281474976710656 * (v0 + v1 + v2 + v3 + v4 + v5 + v6) < 72057594037927936 := by omega
  generalize 1 * (v0) + 256 * (v0 + v1) + 65536 * (v0 + v1 + v2) + 16777216 * (v0 + v1 + v2 + v3) + 4294967296 * (v0 + v1 + v2 + v3 + v4) + 1099511627776 * (v0 + v1 + v2 + v3 + v4 + v5) + 281474976710656 * (v0 + v1 + v2 + v3 + v4 + v5 + v6) = L at *
  rw [Nat.add_comm, Nat.add_mul_div_right _ _ (by decide), Nat.div_eq_of_lt hl]
  omega
/- trailing noughts: the ones of (not x) and (x - 1) -/
theorem ctz_pop : ∀ (n x : Nat), x < 2 ^ n → popF n ((2 ^ n - 1 - x) &&& ((x + (2 ^ n - 1)) % 2 ^ n)) = ctzF n x
  | 0, x, h => by rw [popF, ctzF]
  | n + 1, x, h => by
    rw [Nat.pow_succ] at h
    have ih := ctz_pop n (x / 2) (by omega)
    have hp : 0 < 2 ^ n := Nat.two_pow_pos n
    rw [Nat.pow_succ, ctzF]
    by_cases h0 : x % 2 = 0
    · rw [if_pos h0, ← ih]
      have e1 : 2 ^ n * 2 - 1 - x = 2 ^ 1 * (2 ^ n - 1 - x / 2) + 1 := by rw [Nat.pow_one]; omega
      have e2 : (x + (2 ^ n * 2 - 1)) % (2 ^ n * 2) = 2 ^ 1 * ((x / 2 + (2 ^ n - 1)) % 2 ^ n) + 1 := by
        rw [Nat.pow_one]
        by_cases hx : x = 0
        · subst hx
          rw [show 0 + (2 ^ n * 2 - 1) = 2 ^ n * 2 - 1 by omega, Nat.mod_eq_of_lt (by omega), show 0 / 2 + (2 ^ n - 1) = 2 ^ n - 1 by omega, Nat.mod_eq_of_lt (by omega)]
          omega
        · have a1 : x + (2 ^ n * 2 - 1) = (x - 1) + 2 ^ n * 2 := by omega
          have a2 : x / 2 + (2 ^ n - 1) = (x / 2 - 1) + 2 ^ n := by omega
          rw [a1, a2, Nat.add_mod_right, Nat.add_mod_right, Nat.mod_eq_of_lt (by omega), Nat.mod_eq_of_lt (by omega)]
          omega
      rw [e1, e2, and_parts _ 1 _ 1 1 (by decide) (by decide), Nat.and_self, Nat.pow_one]
      generalize (2 ^ n - 1 - x / 2) &&& ((x / 2 + (2 ^ n - 1)) % 2 ^ n) = Y
      rw [popF, show (2 * Y + 1) % 2 = 1 by omega, show (2 * Y + 1) / 2 = Y by omega]
    · rw [if_neg h0]
      have e1 : 2 ^ n * 2 - 1 - x = 2 ^ 1 * (2 ^ n - 1 - x / 2) + 0 := by rw [Nat.pow_one]; omega
      have e2 : (x + (2 ^ n * 2 - 1)) % (2 ^ n * 2) = 2 ^ 1 * (x / 2) + 0 := by
        have a1 : x + (2 ^ n * 2 - 1) = (x - 1) + 2 ^ n * 2 := by omega
        rw [a1, Nat.add_mod_right, Nat.mod_eq_of_lt (by omega), Nat.pow_one]
        omega
      rw [e1, e2, and_parts _ 0 _ 0 1 (by decide) (by decide), Nat.and_self]
      have hz : (2 ^ n - 1 - x / 2) &&& (x / 2) = 0 := by
        refine Nat.eq_of_testBit_eq fun i => ?_
        rw [Nat.testBit_and, Nat.zero_testBit, Nat.sub_sub, Nat.add_comm 1, ← Nat.sub_sub]
        by_cases hi : i < n
        · have hb := Nat.testBit_two_pow_sub_succ (n := n) (x := x / 2) (by omega) i
          rw [Nat.sub_sub, hb]
          simp [hi]
        · have : (x / 2).testBit i = false := Nat.testBit_lt_two_pow (Nat.lt_of_lt_of_le (show x / 2 < 2 ^ n by omega) (Nat.pow_le_pow_right (by decide) (by omega)))
          rw [this, Bool.and_false]
      rw [hz, Nat.mul_zero, Nat.zero_add]
      clear ih e1 e2 hz h h0 hp
      have hpz : ∀ n, popF n 0 = 0 := fun n => by
        induction n with
        | zero => rfl
        | succ n ih => rw [popF, ih]
      exact hpz (n + 1)
end Go.Proofs.Qxb6500275aGreatDoor
