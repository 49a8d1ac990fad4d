import Derived.Test.Qxb6500275aGreatDoorNm7
import Derived.Test.Qxb6500275aGreatDoorNo1
set_option maxRecDepth 100000
set_option linter.unusedVariables false
set_option linter.unusedSimpArgs false
namespace Go.Proofs.Qxb6500275aGreatDoor
open Go Go.RowKit
theorem ret2_eq {k : IntKind} {a b e f : Int} (h : a = b) (g : e = f) : Ending.returned (.tuple #[.int k a, .int .i64 e]) = Ending.returned (.tuple #[.int k b, .int .i64 f]) := by rw [h, g]
theorem ret1_eq {k : IntKind} {a b : Int} (h : a = b) : Ending.returned (.int k a) = Ending.returned (.int k b) := by rw [h]
theorem retb_eq {a b : Bool} (h : a = b) : Ending.returned (.bool a) = Ending.returned (.bool b) := by rw [h]
theorem ofInt_n32 (x : Nat) (hx : x < 4294967296) : (BitVec.ofInt IntKind.u32.bits (x : Int)).toNat = x := by
  show (BitVec.ofInt 32 (x : Int)).toNat = x
  rw [BitVec.toNat_ofInt]
  omega
theorem wrap_u32 (n : Int) : IntKind.u32.wrap n = n % 4294967296 := by simp [IntKind.wrap, IntKind.bits, IntKind.signed]
theorem bits_and_32 (x y : Nat) (hx : x < 4294967296) (hy : y < 4294967296) : bits .and .u32 (x : Int) (y : Int) = ((x &&& y : Nat) : Int) := by
  unfold bits
  have e : (BitVec.ofInt IntKind.u32.bits (x : Int) &&& BitVec.ofInt IntKind.u32.bits (y : Int)).toNat = x &&& y := by rw [BitVec.toNat_and, ofInt_n32 x hx, ofInt_n32 y hy]
  have hl : x &&& y < 2 ^ 32 := Nat.and_lt_two_pow _ hy
  simp only [e, wrap_u32]
  omega
theorem bits_or_32 (x y : Nat) (hx : x < 4294967296) (hy : y < 4294967296) : bits .or .u32 (x : Int) (y : Int) = ((x ||| y : Nat) : Int) := by
  unfold bits
  have e : (BitVec.ofInt IntKind.u32.bits (x : Int) ||| BitVec.ofInt IntKind.u32.bits (y : Int)).toNat = x ||| y := by rw [BitVec.toNat_or, ofInt_n32 x hx, ofInt_n32 y hy]
  have hl : x ||| y < 2 ^ 32 := Nat.or_lt_two_pow hx hy
  simp only [e, wrap_u32]
  omega
theorem bits_xor_32 (x y : Nat) (hx : x < 4294967296) (hy : y < 4294967296) : bits .xor .u32 (x : Int) (y : Int) = ((x ^^^ y : Nat) : Int) := by
  unfold bits
  have e : (BitVec.ofInt IntKind.u32.bits (x : Int) ^^^ BitVec.ofInt IntKind.u32.bits (y : Int)).toNat = x ^^^ y := by rw [BitVec.toNat_xor, ofInt_n32 x hx, ofInt_n32 y hy]
  have hl : x ^^^ y < 2 ^ 32 := Nat.xor_lt_two_pow hx hy
  simp only [e, wrap_u32]
  omega
/- leading noughts by halving -/
theorem clz_fin {x n : Nat} (h1 : 2147483648 ≤ x * 2 ^ n) (h2 : x * 2 ^ n < 4294967296) (hn : n ≤ 31) : clzN 32 x = n := by
  have h0 : x ≠ 0 := by rintro rfl; omega
  unfold clzN
  rw [if_neg h0]
  have hp : 0 < 2 ^ n := Nat.two_pow_pos n
  have a1 : 31 - n ≤ x.log2 := (Nat.le_log2 h0).2 (by
    refine Nat.le_of_mul_le_mul_right ?_ hp
    rw [← Nat.pow_add, show 31 - n + n = 31 by omega]
    exact h1)
  have a2 : x.log2 < 32 - n := (Nat.log2_lt h0).2 (by
    refine Nat.lt_of_mul_lt_mul_right (a := 2 ^ n) ?_
    rw [← Nat.pow_add, show 32 - n + n = 32 by omega]
    exact h2)
  omega
theorem clz4_n {x n : Nat} (h1 : 1073741824 ≤ x * 2 ^ n) (h2 : x * 2 ^ n < 4294967296) (hn : n ≤ 30) : clz4 n ((x * 2 ^ n : Nat) : Int) = ((clzN 32 x : Nat) : Int) := by
  unfold clz4
  by_cases hc : x * 2 ^ n < 2147483648
  · rw [show (((x * 2 ^ n : Nat) : Int) / 2147483648 == 0) = true by rw [beq_iff_eq]; omega, cond_true, clz_fin (x := x) (n := n + 1) (by rw [Nat.pow_succ, ← Nat.mul_assoc]; omega) (by rw [Nat.pow_succ, ← Nat.mul_assoc]; omega) (by omega)]
    rfl
  · rw [show (((x * 2 ^ n : Nat) : Int) / 2147483648 == 0) = false by rw [beq_eq_false_iff_ne]; omega, cond_false, clz_fin (x := x) (n := n) (by omega) h2 (by omega)]
theorem clz3_n {x n : Nat} (h1 : 268435456 ≤ x * 2 ^ n) (h2 : x * 2 ^ n < 4294967296) (hn : n ≤ 28) : clz3 n ((x * 2 ^ n : Nat) : Int) = ((clzN 32 x : Nat) : Int) := by
  unfold clz3
  by_cases hc : x * 2 ^ n < 1073741824
  · rw [show (((x * 2 ^ n : Nat) : Int) / 1073741824 == 0) = true by rw [beq_iff_eq]; omega, cond_true]
    have e : x * 2 ^ (n + 2) = x * 2 ^ n * 4 := by rw [Nat.pow_add, Nat.mul_assoc]
    have := clz4_n (x := x) (n := n + 2) (by omega) (by omega) (by omega)
    rw [← this, show ((x * 2 ^ n : Nat) : Int) * 4 % 4294967296 = ((x * 2 ^ (n + 2) : Nat) : Int) by omega]
    rfl
  · rw [show (((x * 2 ^ n : Nat) : Int) / 1073741824 == 0) = false by rw [beq_eq_false_iff_ne]; omega, cond_false]
    exact clz4_n (by omega) h2 (by omega)
theorem clz2_n {x n : Nat} (h1 : 16777216 ≤ x * 2 ^ n) (h2 : x * 2 ^ n < 4294967296) (hn : n ≤ 24) : clz2 n ((x * 2 ^ n : Nat) : Int) = ((clzN 32 x : Nat) : Int) := by
  unfold clz2
  by_cases hc : x * 2 ^ n < 268435456
  · rw [show (((x * 2 ^ n : Nat) : Int) / 268435456 == 0) = true by rw [beq_iff_eq]; omega, cond_true]
    have e : x * 2 ^ (n + 4) = x * 2 ^ n * 16 := by rw [Nat.pow_add, Nat.mul_assoc]
    have := clz3_n (x := x) (n := n + 4) (by omega) (by omega) (by omega)
    rw [← this, show ((x * 2 ^ n : Nat) : Int) * 16 % 4294967296 = ((x * 2 ^ (n + 4) : Nat) : Int) by omega]
    rfl
  · rw [show (((x * 2 ^ n : Nat) : Int) / 268435456 == 0) = false by rw [beq_eq_false_iff_ne]; omega, cond_false]
    exact clz3_n (by omega) h2 (by omega)
theorem clz1_n {x n : Nat} (h1 : 65536 ≤ x * 2 ^ n) (h2 : x * 2 ^ n < 4294967296) (hn : n ≤ 16) : clz1 n ((x * 2 ^ n : Nat) : Int) = ((clzN 32 x : Nat) : Int) := by
  unfold clz1
  by_cases hc : x * 2 ^ n < 16777216
  · rw [show (((x * 2 ^ n : Nat) : Int) / 16777216 == 0) = true by rw [beq_iff_eq]; omega, cond_true]
    have e : x * 2 ^ (n + 8) = x * 2 ^ n * 256 := by rw [Nat.pow_add, Nat.mul_assoc]
    have := clz2_n (x := x) (n := n + 8) (by omega) (by omega) (by omega)
    rw [← this, show ((x * 2 ^ n : Nat) : Int) * 256 % 4294967296 = ((x * 2 ^ (n + 8) : Nat) : Int) by omega]
    rfl
  · rw [show (((x * 2 ^ n : Nat) : Int) / 16777216 == 0) = false by rw [beq_eq_false_iff_ne]; omega, cond_false]
    exact clz2_n (by omega) h2 (by omega)
theorem clzF_n (x : Nat) (hx : x < 4294967296) : clzF (x : Int) = ((clzN 32 x : Nat) : Int) := by
  unfold clzF
  by_cases h0 : x = 0
  · subst h0; rfl
  · rw [show ((x : Int) == 0) = false by rw [beq_eq_false_iff_ne]; omega, cond_false]
    by_cases hc : x < 65536
    · rw [show ((x : Int) / 65536 == 0) = true by rw [beq_iff_eq]; omega, cond_true]
      have := clz1_n (x := x) (n := 16) (by omega) (by omega) (by omega)
      rw [← this, show (x : Int) * 65536 % 4294967296 = ((x * 2 ^ 16 : Nat) : Int) by omega]
      rfl
    · rw [show ((x : Int) / 65536 == 0) = false by rw [beq_eq_false_iff_ne]; omega, cond_false]
      have := clz1_n (x := x) (n := 0) (by omega) (by omega) (by omega)
      rw [Nat.pow_zero, Nat.mul_one] at this
      exact this
theorem clz32_x (x : Nat) (hx : x < 4294967296) (w : World) : Calls Tryz.prog 216 #[.int .u32 (x : Int)] w fun e w' => e = .returned (.int .u32 ((clzN 32 x : Nat) : Int)) ∧ w' = w := by
  have h := clz32_any (x : Int) w
  rw [clzF_n x hx] at h
  exact h
theorem clz_hi {x : Nat} (h : 4294967296 ≤ x) : clzN 64 x = clzN 32 (x / 4294967296) := by
  have h1 : x / 4294967296 ≠ 0 := by omega
  unfold clzN
  rw [if_neg (by omega), if_neg h1]
  have e : x.log2 = (x / 4294967296).log2 + 32 := by
    have := Nat.div_add_mod x 4294967296
    have hm := Nat.mod_lt x (show 0 < 4294967296 by decide)
    have a1 := log2_between (m := x / 4294967296) (k := 32) (A := x) h1 (by omega) (by omega)
    exact a1
  omega
theorem clz_lo {x : Nat} (h : x < 4294967296) : clzN 64 x = 32 + clzN 32 x := by
  unfold clzN
  by_cases h0 : x = 0
  · rw [if_pos h0, if_pos h0]
  · rw [if_neg h0, if_neg h0]
    have : x.log2 < 32 := (Nat.log2_lt h0).2 h
    omega
set_option maxHeartbeats 4000000 in
theorem clz64_x (x : Nat) (hx : x < 18446744073709551616) (w : World) : Calls Tryz.prog 218 #[.int .u64 (x : Int)] w fun e w' => e = .returned (.int .u64 ((clzN 64 x : Nat) : Int)) ∧ w' = w := by
  by_cases h : x < 4294967296
  · rw [clz_lo h]
    have hb : clzN 32 x ≤ 32 := by unfold clzN; split <;> omega
    have hc := fun w => clz32_x x h w
    generalize clzN 32 x = c at *
    have hz : ((x : Int) / 4294967296 == 0) = true := by rw [beq_iff_eq]; omega
    have hz2 : (x : Int) / 4294967296 = 0 := by omega
    have hmd : (x : Int) % 4294967296 = (x : Int) := by omega
    go_enter Tryz.func218, Tryz.ntmps218
    go_wp2_with (go_at_call 216; refine (hc _).mono ?_; rintro e w' ⟨rfl, rfl⟩)
    go_ret
    refine ⟨ret1_eq (by omega), rfl⟩
  · rw [clz_hi (by omega)]
    obtain ⟨y, hy⟩ : ∃ y : Nat, x / 4294967296 = y := ⟨_, rfl⟩
    have hyi : (x : Int) / 4294967296 = (y : Int) := by omega
    have hyl : y < 4294967296 ∧ y ≠ 0 := by omega
    rw [hy]
    have hb : clzN 32 y ≤ 32 := by unfold clzN; split <;> omega
    have hc := fun w => clz32_x y hyl.1 w
    generalize clzN 32 y = c at *
    have hz : ((y : Int) == 0) = false := by rw [beq_eq_false_iff_ne]; omega
    clear hy
    go_enter Tryz.func218, Tryz.ntmps218
    go_wp2_with (go_at_call 216; refine (hc _).mono ?_; rintro e w' ⟨rfl, rfl⟩)
    go_ret
    refine ⟨ret1_eq (by omega), rfl⟩
set_option maxHeartbeats 4000000 in
theorem pop32_x (a : Nat) (ha : a < 4294967296) (w : World) : Calls Tryz.prog 217 #[.int .u32 (a : Int)] w fun e w' => e = .returned (.int .u32 ((popF 32 a : Nat) : Int)) ∧ w' = w := by
  have hs := swar_pop32 a ha
  unfold swar at hs
  dsimp only at hs
  rw [show mk8 85 4 = 1431655765 by decide, show mk8 51 4 = 858993459 by decide, show mk8 15 4 = 252645135 by decide] at hs
  obtain ⟨p1, hp1⟩ : ∃ p : Nat, a / 2 &&& 1431655765 = p := ⟨_, rfl⟩
  have l1 : p1 ≤ a := by rw [← hp1]; exact Nat.le_trans Nat.and_le_left (by omega)
  have f1 := bits_and_32 (a / 2) 1431655765 (by omega) (by decide)
  rw [hp1] at f1 hs
  have f1' : bits .and .u32 ((a : Int) / 2) 1431655765 = (p1 : Int) := by rw [← f1]; congr 1
  obtain ⟨s, hsv⟩ : ∃ s : Nat, a - p1 = s := ⟨_, rfl⟩
  have g1 : (a : Int) - (p1 : Int) = (s : Int) := by omega
  have sl : s < 4294967296 := by omega
  rw [hsv] at hs
  obtain ⟨x1, hx1⟩ : ∃ p : Nat, s &&& 858993459 = p := ⟨_, rfl⟩
  obtain ⟨x2, hx2⟩ : ∃ p : Nat, s / 4 &&& 858993459 = p := ⟨_, rfl⟩
  have l2 : x1 ≤ 858993459 := by rw [← hx1]; exact Nat.and_le_right
  have l3 : x2 ≤ 858993459 := by rw [← hx2]; exact Nat.and_le_right
  have f2 := bits_and_32 s 858993459 sl (by decide)
  have f3 := bits_and_32 (s / 4) 858993459 (by omega) (by decide)
  rw [hx1] at f2 hs
  rw [hx2] at f3 hs
  have f2' : bits .and .u32 (s : Int) 858993459 = (x1 : Int) := by rw [← f2]; congr 1
  have f3' : bits .and .u32 ((s : Int) / 4) 858993459 = (x2 : Int) := by rw [← f3]; congr 1
  obtain ⟨z, hz⟩ : ∃ p : Nat, (x1 + x2 + (x1 + x2) / 16) &&& 252645135 = p := ⟨_, rfl⟩
  have l4 : z ≤ 252645135 := by rw [← hz]; exact Nat.and_le_right
  have f4 := bits_and_32 (x1 + x2 + (x1 + x2) / 16) 252645135 (by omega) (by decide)
  rw [hz] at f4 hs
  have f4' : bits .and .u32 ((x1 : Int) + (x2 : Int) + ((x1 : Int) + (x2 : Int)) / 16) 252645135 = (z : Int) := by rw [← f4]; congr 1
  have HS : Hid (z * 16843009 % 4294967296 / 16777216 = popF 32 a) := hs
  clear hs f1 f2 f3 f4 hp1 hsv hx1 hx2 hz
  go_enter Tryz.func217, Tryz.ntmps217
  go_wp2
  go_ret
  refine ⟨ret1_eq ?_, rfl⟩
  rw [← HS.out]
  
  omega
set_option maxHeartbeats 4000000 in
theorem pop64_x (a : Nat) (ha : a < 18446744073709551616) (w : World) : Calls Tryz.prog 219 #[.int .u64 (a : Int)] w fun e w' => e = .returned (.int .u64 ((popF 64 a : Nat) : Int)) ∧ w' = w := by
  have hs := swar_pop64 a ha
  unfold swar at hs
  dsimp only at hs
  rw [show mk8 85 8 = 6148914691236517205 by decide, show mk8 51 8 = 3689348814741910323 by decide, show mk8 15 8 = 1085102592571150095 by decide] at hs
  obtain ⟨p1, hp1⟩ : ∃ p : Nat, a / 2 &&& 6148914691236517205 = p := ⟨_, rfl⟩
  have l1 : p1 ≤ a := by rw [← hp1]; exact Nat.le_trans Nat.and_le_left (by omega)
  have f1 := bits_and_n (a / 2) 6148914691236517205 (by omega) (by decide)
  rw [hp1] at f1 hs
  have f1' : bits .and .u64 ((a : Int) / 2) 6148914691236517205 = (p1 : Int) := by rw [← f1]; congr 1
  obtain ⟨s, hsv⟩ : ∃ s : Nat, a - p1 = s := ⟨_, rfl⟩
  have g1 : (a : Int) - (p1 : Int) = (s : Int) := by omega
  have sl : s < 18446744073709551616 := by omega
  rw [hsv] at hs
  obtain ⟨x1, hx1⟩ : ∃ p : Nat, s &&& 3689348814741910323 = p := ⟨_, rfl⟩
  obtain ⟨x2, hx2⟩ : ∃ p : Nat, s / 4 &&& 3689348814741910323 = p := ⟨_, rfl⟩
  have l2 : x1 ≤ 3689348814741910323 := by rw [← hx1]; exact Nat.and_le_right
  have l3 : x2 ≤ 3689348814741910323 := by rw [← hx2]; exact Nat.and_le_right
  have f2 := bits_and_n s 3689348814741910323 sl (by decide)
  have f3 := bits_and_n (s / 4) 3689348814741910323 (by omega) (by decide)
  rw [hx1] at f2 hs
  rw [hx2] at f3 hs
  have f2' : bits .and .u64 (s : Int) 3689348814741910323 = (x1 : Int) := by rw [← f2]; congr 1
  have f3' : bits .and .u64 ((s : Int) / 4) 3689348814741910323 = (x2 : Int) := by rw [← f3]; congr 1
  obtain ⟨z, hz⟩ : ∃ p : Nat, (x1 + x2 + (x1 + x2) / 16) &&& 1085102592571150095 = p := ⟨_, rfl⟩
  have l4 : z ≤ 1085102592571150095 := by rw [← hz]; exact Nat.and_le_right
  have f4 := bits_and_n (x1 + x2 + (x1 + x2) / 16) 1085102592571150095 (by omega) (by decide)
  rw [hz] at f4 hs
  have f4' : bits .and .u64 ((x1 : Int) + (x2 : Int) + ((x1 : Int) + (x2 : Int)) / 16) 1085102592571150095 = (z : Int) := by rw [← f4]; congr 1
  have HS : Hid (z * 72340172838076673 % 18446744073709551616 / 72057594037927936 = popF 64 a) := hs
  clear hs f1 f2 f3 f4 hp1 hsv hx1 hx2 hz
  go_enter Tryz.func219, Tryz.ntmps219
  go_wp2
  go_ret
  refine ⟨ret1_eq ?_, rfl⟩
  rw [← HS.out]
  rw [wrap_u64]
  omega
end Go.Proofs.Qxb6500275aGreatDoor
