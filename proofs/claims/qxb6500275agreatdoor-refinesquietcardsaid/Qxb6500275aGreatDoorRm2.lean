import Derived.Test.Qxb6500275aGreatDoorRm1
import Derived.Test.Qxb6500275aGreatDoorSp3
import Derived.Test.Qxb6500275aGreatDoorNqA
import Derived.Test.Qxb6500275aGreatDoorMe4
import Derived.Test.Qxb6500275aGreatDoorAp3
set_option maxRecDepth 100000
set_option linter.unusedVariables false
set_option linter.unusedSimpArgs false
namespace Go.Proofs.Qxb6500275aGreatDoor
open Go Go.RowKit
/- the first k bytes as one number, the low one first -/
def leN (f : Nat → Nat) : Nat → Nat
  | 0 => 0
  | k + 1 => leN f k + f k * 256 ^ k
theorem leN_lt (f : Nat → Nat) (hf : ∀ i, f i < 256) : ∀ k, leN f k < 256 ^ k
  | 0 => by unfold leN; simp
  | k + 1 => by
    have h1 := leN_lt f hf k
    have h2 := Nat.mul_le_mul_right (256 ^ k) (show f k ≤ 255 by have := hf k; omega)
    unfold leN
    rw [Nat.pow_succ]
    omega
theorem wrap_u16 (n : Int) : IntKind.u16.wrap n = n % 65536 := by simp [IntKind.wrap, IntKind.bits, IntKind.signed]
theorem bits_or_16 (x y : Nat) (hx : x < 65536) (hy : y < 65536) : bits .or .u16 (x : Int) (y : Int) = ((x ||| y : Nat) : Int) := by
  unfold bits
  have e0 : ∀ z : Nat, z < 65536 → (BitVec.ofInt IntKind.u16.bits (z : Int)).toNat = z := fun z hz => by
    show (BitVec.ofInt 16 (z : Int)).toNat = z
    rw [BitVec.toNat_ofInt]
    omega
  have e : (BitVec.ofInt IntKind.u16.bits (x : Int) ||| BitVec.ofInt IntKind.u16.bits (y : Int)).toNat = x ||| y := by rw [BitVec.toNat_or, e0 x hx, e0 y hy]
  have hl : x ||| y < 2 ^ 16 := Nat.or_lt_two_pow hx hy
  simp only [e, wrap_u16]
  omega
theorem wrap_u32m (n : Int) : IntKind.u32.wrap n = n % 4294967296 := by simp [IntKind.wrap, IntKind.bits, IntKind.signed]
theorem bits_or_m32 (x y : Nat) (hx : x < 4294967296) (hy : y < 4294967296) : bits .or .u32 (x : Int) (y : Int) = ((x ||| y : Nat) : Int) := by
  unfold bits
  have e0 : ∀ z : Nat, z < 4294967296 → (BitVec.ofInt IntKind.u32.bits (z : Int)).toNat = z := fun z hz => by
    show (BitVec.ofInt 32 (z : Int)).toNat = z
    rw [BitVec.toNat_ofInt]
    omega
  have e : (BitVec.ofInt IntKind.u32.bits (x : Int) ||| BitVec.ofInt IntKind.u32.bits (y : Int)).toNat = x ||| y := by rw [BitVec.toNat_or, e0 x hx, e0 y hy]
  have hl : x ||| y < 2 ^ 32 := Nat.or_lt_two_pow hx hy
  simp only [e, wrap_u32m]
  omega
theorem half_le (b0 b1 : Nat) (h0 : b0 < 256) (h1 : b1 < 256) : halfS b0 b1 = ((b0 + b1 * 256 : Nat) : Int) := by
  unfold halfS
  have h := bits_or_16 b0 (b1 * 256) (by omega) (by omega)
  rw [Nat.or_comm, or_sum (b1 * 256) b0 8 h0 (by omega), Nat.add_comm] at h
  rw [← h]
  rfl
theorem long_le (b0 b1 b2 b3 : Nat) (h0 : b0 < 256) (h1 : b1 < 256) (h2 : b2 < 256) (h3 : b3 < 256) : longS b0 b1 b2 b3 = ((b0 + b1 * 256 + b2 * 65536 + b3 * 16777216 : Nat) : Int) := by
  unfold longS
  have o1 : b0 ||| b1 * 256 = b0 + b1 * 256 := by rw [Nat.or_comm, or_sum (b1 * 256) b0 8 h0 (by omega)]; omega
  have o2 : (b0 + b1 * 256) ||| b2 * 65536 = b0 + b1 * 256 + b2 * 65536 := by rw [Nat.or_comm, or_sum (b2 * 65536) (b0 + b1 * 256) 16 (by omega) (by omega)]; omega
  have o3 : (b0 + b1 * 256 + b2 * 65536) ||| b3 * 16777216 = b0 + b1 * 256 + b2 * 65536 + b3 * 16777216 := by rw [Nat.or_comm, or_sum (b3 * 16777216) (b0 + b1 * 256 + b2 * 65536) 24 (by omega) (by omega)]; omega
  have e1 := bits_or_m32 b0 (b1 * 256) (by omega) (by omega)
  rw [o1] at e1
  have e1' : bits .or .u32 (b0 : Int) ((b1 : Int) * 256) = ((b0 + b1 * 256 : Nat) : Int) := by rw [← e1]; rfl
  rw [e1']
  have e2 := bits_or_m32 (b0 + b1 * 256) (b2 * 65536) (by omega) (by omega)
  rw [o2] at e2
  have e2' : bits .or .u32 ((b0 + b1 * 256 : Nat) : Int) ((b2 : Int) * 65536) = ((b0 + b1 * 256 + b2 * 65536 : Nat) : Int) := by rw [← e2]; rfl
  rw [e2']
  have e3 := bits_or_m32 (b0 + b1 * 256 + b2 * 65536) (b3 * 16777216) (by omega) (by omega)
  rw [o3] at e3
  rw [← e3]
  rfl
/- as the model has it -/
def halfM (k : Nat) : Nat := 128 * 256 ^ (k - 1)
def extM (k : Nat) (sg : Bool) (v : Nat) : Nat := if sg = true ∧ halfM k ≤ v then (v + 18446744073709551616 - 2 * halfM k) % 18446744073709551616 else v
def loadN (op : Nat) (f : Nat → Nat) : Nat := let v := extM (memSig op).1 (memSig op).2.2 (leN f (memSig op).1); if (memSig op).2.1 = 127 ∨ (memSig op).2.1 = 125 then v % 4294967296 else v
theorem i8_n (x : Nat) (h : x < 256) : IntKind.i8.wrap (x : Int) = if 128 ≤ x then (x : Int) - 256 else (x : Int) := by
  simp [IntKind.wrap, IntKind.bits, IntKind.signed]
  split <;> omega
theorem i16_n (x : Nat) (h : x < 65536) : IntKind.i16.wrap (x : Int) = if 32768 ≤ x then (x : Int) - 65536 else (x : Int) := by
  simp [IntKind.wrap, IntKind.bits, IntKind.signed]
  split <;> omega
theorem w32_m (x : Nat) (h : x < 4294967296) : wrap32 (x : Int) = if 2147483648 ≤ x then (x : Int) - 4294967296 else (x : Int) := by
  unfold wrap32
  split <;> omega
theorem le1 (f : Nat → Nat) : leN f 1 = f 0 := by unfold leN leN; simp
theorem le2 (f : Nat → Nat) : leN f 2 = f 0 + f 1 * 256 := by unfold leN leN leN; simp
theorem le4 (f : Nat → Nat) : leN f 4 = f 0 + f 1 * 256 + f 2 * 65536 + f 3 * 16777216 := by unfold leN leN leN leN leN; simp
theorem ld40 (v : Nat) (h : v < 4294967296) : IntKind.u64.wrap (v : Int) = (((extM 4 false v) % 4294967296 : Nat) : Int) := by
  unfold extM; rw [if_neg (by simp), wrap_u64]; omega
theorem ld41 (v : Nat) : (v : Int) = ((extM 8 false v : Nat) : Int) := by
  unfold extM; rw [if_neg (by simp)]
theorem ld44 (v : Nat) (h : v < 256) : bits .and .u64 (IntKind.u64.wrap (wrap64 (IntKind.i8.wrap (v : Int)))) 4294967295 = (((extM 1 true v) % 4294967296 : Nat) : Int) := by
  have hm1 : halfM 1 = 128 := rfl
  rw [andM _ (by rw [wrap_u64]; omega), wrap_u64, i8_n v h]
  unfold extM wrap64
  rw [hm1]
  by_cases hc : 128 ≤ v
  · rw [if_pos hc, if_pos ⟨rfl, hc⟩]; omega
  · rw [if_neg hc, if_neg (fun e => hc e.2)]; omega
theorem ld45 (v : Nat) (h : v < 256) : (v : Int) = (((extM 1 false v) % 4294967296 : Nat) : Int) := by
  unfold extM; rw [if_neg (by simp)]; omega
theorem ld46 (v : Nat) (h : v < 65536) : IntKind.u64.wrap (wrap64 (IntKind.i16.wrap (v : Int))) % 4294967296 = (((extM 2 true v) % 4294967296 : Nat) : Int) := by
  have hm1 : halfM 2 = 32768 := rfl
  rw [wrap_u64, i16_n v h]
  unfold extM wrap64
  rw [hm1]
  by_cases hc : 32768 ≤ v
  · rw [if_pos hc, if_pos ⟨rfl, hc⟩]; omega
  · rw [if_neg hc, if_neg (fun e => hc e.2)]; omega
theorem ld47 (v : Nat) (h : v < 65536) : IntKind.u64.wrap (v : Int) = (((extM 2 false v) % 4294967296 : Nat) : Int) := by
  unfold extM; rw [if_neg (by simp), wrap_u64]; omega
theorem ld48 (v : Nat) (h : v < 256) : IntKind.u64.wrap (wrap64 (IntKind.i8.wrap (v : Int))) = ((extM 1 true v : Nat) : Int) := by
  have hm1 : halfM 1 = 128 := rfl
  rw [wrap_u64, i8_n v h]
  unfold extM wrap64
  rw [hm1]
  by_cases hc : 128 ≤ v
  · rw [if_pos hc, if_pos ⟨rfl, hc⟩]; omega
  · rw [if_neg hc, if_neg (fun e => hc e.2)]; omega
theorem ld49 (v : Nat) : (v : Int) = ((extM 1 false v : Nat) : Int) := by
  unfold extM; rw [if_neg (by simp)]
theorem ld50 (v : Nat) (h : v < 65536) : IntKind.u64.wrap (wrap64 (IntKind.i16.wrap (v : Int))) = ((extM 2 true v : Nat) : Int) := by
  have hm1 : halfM 2 = 32768 := rfl
  rw [wrap_u64, i16_n v h]
  unfold extM wrap64
  rw [hm1]
  by_cases hc : 32768 ≤ v
  · rw [if_pos hc, if_pos ⟨rfl, hc⟩]; omega
  · rw [if_neg hc, if_neg (fun e => hc e.2)]; omega
theorem ld51 (v : Nat) (h : v < 65536) : IntKind.u64.wrap (v : Int) = ((extM 2 false v : Nat) : Int) := by
  unfold extM; rw [if_neg (by simp), wrap_u64]; omega
theorem ld52 (v : Nat) (h : v < 4294967296) : IntKind.u64.wrap (wrap64 (wrap32 (v : Int))) = ((extM 4 true v : Nat) : Int) := by
  have hm1 : halfM 4 = 2147483648 := rfl
  rw [wrap_u64, w32_m v h]
  unfold extM wrap64
  rw [hm1]
  by_cases hc : 2147483648 ≤ v
  · rw [if_pos hc, if_pos ⟨rfl, hc⟩]; omega
  · rw [if_neg hc, if_neg (fun e => hc e.2)]; omega
theorem ld53 (v : Nat) (h : v < 4294967296) : IntKind.u64.wrap (v : Int) = ((extM 4 false v : Nat) : Int) := by
  unfold extM; rw [if_neg (by simp), wrap_u64]; omega
theorem wordR_step (x : Nat) (b : Nat) (hx : x < 72057594037927936) (hb : b < 256) : bits .or .u64 (IntKind.u64.wrap ((x : Int) * 256)) (b : Int) = ((x * 256 + b : Nat) : Int) := by
  have e : IntKind.u64.wrap ((x : Int) * 256) = ((x * 256 : Nat) : Int) := by rw [wrap_u64]; omega
  rw [e, bits_or_n _ _ (by omega) (by omega), or_sum (x * 256) b 8 hb (by omega)]
theorem word_le (f : Nat → Nat) (hf : ∀ i, f i < 256) : wordR f 8 = ((leN f 8 : Nat) : Int) := by
  have e1 : wordR f 1 = ((f 7 : Nat) : Int) := by
    have := wordR_step 0 (f 7) (by decide) (hf 7)
    unfold wordR wordR
    rw [Nat.zero_mul, Nat.zero_add] at this
    exact this
  have st : ∀ i j x : Nat, 7 - i = j → x < 72057594037927936 → wordR f i = (x : Int) → wordR f (i + 1) = ((x * 256 + f j : Nat) : Int) := fun i j x hj hx h => by
    rw [wordR, h, hj]
    exact wordR_step x _ hx (hf _)
  have h7 := hf 7
  have h6 := hf 6
  have h5 := hf 5
  have h4 := hf 4
  have h3 := hf 3
  have h2 := hf 2
  have h1 := hf 1
  have h0 := hf 0
  have e2 := st 1 6 _ rfl (by omega) e1
  have e3 := st 2 5 _ rfl (by omega) e2
  have e4 := st 3 4 _ rfl (by omega) e3
  have e5 := st 4 3 _ rfl (by omega) e4
  have e6 := st 5 2 _ rfl (by omega) e5
  have e7 := st 6 1 _ rfl (by omega) e6
  have e8 := st 7 0 _ rfl (by omega) e7
  rw [e8]
  unfold leN leN leN leN leN leN leN leN leN
  simp only [Nat.reduceSub, Nat.reducePow]
  omega
theorem leN_b (f : Nat → Nat) (hf : ∀ i, f i < 256) : leN f 1 < 256 ∧ leN f 2 < 65536 ∧ leN f 4 < 4294967296 := ⟨leN_lt f hf 1, leN_lt f hf 2, leN_lt f hf 4⟩
theorem half_l (f : Nat → Nat) (hf : ∀ i, f i < 256) : halfS (f 0) (f 1) = ((leN f 2 : Nat) : Int) := by rw [le2]; exact half_le _ _ (hf 0) (hf 1)
theorem long_l (f : Nat → Nat) (hf : ∀ i, f i < 256) : longS (f 0) (f 1) (f 2) (f 3) = ((leN f 4 : Nat) : Int) := by rw [le4]; exact long_le _ _ _ _ (hf 0) (hf 1) (hf 2) (hf 3)
theorem byte_l (f : Nat → Nat) : f 0 = leN f 1 := (le1 f).symm
/- a load as a sum of bytes: the real's is the model's -/
theorem load_le (op : Nat) (h1 : 40 ≤ op) (h2 : op ≤ 53) (f : Nat → Nat) (hf : ∀ i, f i < 256) : loadV op f = ((loadN op f : Nat) : Int) := by
  obtain ⟨b1, b2, b4⟩ := leN_b f hf
  unfold loadV
  rw [half_l f hf, long_l f hf, word_le f hf, byte_l f]
  unfold loadN
  dsimp only
  have c40 := ld40 _ b4
  have c41 := ld41 (leN f 8)
  have c44 := ld44 _ b1
  have c45 := ld45 _ b1
  have c46 := ld46 _ b2
  have c47 := ld47 _ b2
  have c48 := ld48 _ b1
  have c49 := ld49 (leN f 1)
  have c50 := ld50 _ b2
  have c51 := ld51 _ b2
  have c52 := ld52 _ b4
  have c53 := ld53 _ b4
  clear b1 b2 b4 hf
  generalize he1 : memSig op = ms
  rcases (by omega : op = 40 ∨ op = 41 ∨ op = 42 ∨ op = 43 ∨ op = 44 ∨ op = 45 ∨ op = 46 ∨ op = 47 ∨ op = 48 ∨ op = 49 ∨ op = 50 ∨ op = 51 ∨ op = 52 ∨ op = 53) with rfl | rfl | rfl | rfl | rfl | rfl | rfl | rfl | rfl | rfl | rfl | rfl | rfl | rfl
  all_goals
    first
    | (obtain rfl : ms = (4, 127, false) := he1.symm.trans rfl)
    | (obtain rfl : ms = (4, 125, false) := he1.symm.trans rfl)
    | (obtain rfl : ms = (8, 126, false) := he1.symm.trans rfl)
    | (obtain rfl : ms = (8, 124, false) := he1.symm.trans rfl)
    | (obtain rfl : ms = (1, 127, true) := he1.symm.trans rfl)
    | (obtain rfl : ms = (1, 127, false) := he1.symm.trans rfl)
    | (obtain rfl : ms = (2, 127, true) := he1.symm.trans rfl)
    | (obtain rfl : ms = (2, 127, false) := he1.symm.trans rfl)
    | (obtain rfl : ms = (1, 126, true) := he1.symm.trans rfl)
    | (obtain rfl : ms = (1, 126, false) := he1.symm.trans rfl)
    | (obtain rfl : ms = (2, 126, true) := he1.symm.trans rfl)
    | (obtain rfl : ms = (2, 126, false) := he1.symm.trans rfl)
    | (obtain rfl : ms = (4, 126, true) := he1.symm.trans rfl)
    | (obtain rfl : ms = (4, 126, false) := he1.symm.trans rfl)
    simp only [Nat.reduceEqDiff, reduceIte, or_self, or_false, false_or, or_true, true_or]
    assumption
end Go.Proofs.Qxb6500275aGreatDoor
