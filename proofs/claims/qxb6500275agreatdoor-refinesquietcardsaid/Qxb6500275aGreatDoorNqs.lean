import Derived.Test.Qxb6500275aGreatDoorFlh
import Derived.Test.Qxb6500275aGreatDoorNqn
set_option maxRecDepth 100000
set_option linter.unusedVariables false
set_option linter.unusedSimpArgs false
namespace Go.Proofs.Qxb6500275aGreatDoor
open Go Go.RowKit
/- no number; a zero; the key; the word with the other sign -/
def nanB (F : Ieee.Format) (v : Nat) : Bool := decide (F.infRung < v % F.signWeight)
def zerB (F : Ieee.Format) (v : Nat) : Bool := decide (v % F.signWeight = 0)
def keyN (F : Ieee.Format) (v : Nat) : Nat := if F.signWeight ≤ v then 2 * F.signWeight - 1 - v else v + F.signWeight
def flipW (F : Ieee.Format) (v : Nat) : Nat := if F.signWeight ≤ v then v - F.signWeight else v + F.signWeight
structure NG (F : Ieee.Format) (bi can : Nat) (f : Int) : Prop where
  nf : NF F bi can f
  nan : ∀ v : Nat, v < 2 * F.signWeight → ∀ w, Calls Tryz.prog 295 #[.int .i64 f, .int .u64 v] w (Pq w (.bool (nanB F v)))
  zer : ∀ v : Nat, v < 2 * F.signWeight → ∀ w, Calls Tryz.prog 296 #[.int .i64 f, .int .u64 v] w (Pq w (.bool (zerB F v)))
  key : ∀ v : Nat, v < 2 * F.signWeight → ∀ w, Calls Tryz.prog 297 #[.int .i64 f, .int .u64 v] w (Pq w (.int .u64 ((keyN F v : Nat) : Int)))
  top : ∀ w, Calls Tryz.prog 293 #[.int .i64 f] w (Pq w (.int .u64 ((F.signWeight : Nat) : Int)))
  xor : ∀ v : Nat, v < 2 * F.signWeight → bits .xor .u64 (v : Int) ((F.signWeight : Nat) : Int) = ((flipW F v : Nat) : Int)
theorem xor_pow (n k : Nat) (hk : k < 64) (h : n < 2 ^ (k + 1)) : bits .xor .u64 (n : Int) ((2 ^ k : Nat) : Int) = ((if 2 ^ k ≤ n then n - 2 ^ k else n + 2 ^ k : Nat) : Int) := by
  unfold bits
  have hk2 : 2 ^ (k + 1) ≤ 2 ^ 64 := Nat.pow_le_pow_right (by decide) (by omega)
  have hp : 2 ^ (k + 1) = 2 * 2 ^ k := by rw [Nat.pow_succ, Nat.mul_comm]
  have hkp : 0 < 2 ^ k := Nat.two_pow_pos k
  have e1 : ∀ x : Nat, x < 2 ^ 64 → (BitVec.ofInt IntKind.u64.bits (x : Int)).toNat = x := fun x hx => by
    show (BitVec.ofInt 64 (x : Int)).toNat = x
    rw [BitVec.toNat_ofInt]
    omega
  have e : (BitVec.ofInt IntKind.u64.bits (n : Int) ^^^ BitVec.ofInt IntKind.u64.bits ((2 ^ k : Nat) : Int)).toNat = if 2 ^ k ≤ n then n - 2 ^ k else n + 2 ^ k := by
    rw [BitVec.toNat_xor, e1 n (by omega), e1 _ (by omega)]
    have key : ∀ r : Nat, r < 2 ^ k → r ^^^ 2 ^ k = r + 2 ^ k := fun r hr => by
      have h1 := Nat.two_pow_add_eq_or_of_lt hr 1
      rw [Nat.mul_one] at h1
      rw [Nat.add_comm r, h1]
      refine Nat.eq_of_testBit_eq fun i => ?_
      rw [Nat.testBit_xor, Nat.testBit_or, Nat.testBit_two_pow]
      by_cases hi : k = i
      · subst hi
        have : r.testBit k = false := Nat.testBit_lt_two_pow hr
        simp [this]
      · simp [hi]
    by_cases hc : 2 ^ k ≤ n
    · rw [if_pos hc]
      have h2 := key (n - 2 ^ k) (by omega)
      rw [show n - 2 ^ k + 2 ^ k = n by omega] at h2
      rw [show n ^^^ 2 ^ k = (n - 2 ^ k ^^^ 2 ^ k) ^^^ 2 ^ k by rw [h2], Nat.xor_assoc, Nat.xor_self, Nat.xor_zero]
    · rw [if_neg hc]
      exact key n (by omega)
  simp only [e, wrap_u64]
  split <;> omega
theorem ng32 : NG Ieee.single 127 2143289344 32 := by
  have hsw : Ieee.single.signWeight = 2147483648 := by decide
  have hinf : Ieee.single.infRung = 2139095040 := by decide
  refine ⟨nf32, fun v hv w => ?_, fun v hv w => ?_, fun v hv w => ?_, fun w => ?_, fun v hv => ?_⟩
  · rw [hsw] at hv
    have h := isNaN_32 v hv w
    rw [show (2 : Nat) ^ 31 = 2147483648 by decide] at h
    unfold nanB
    rw [hsw, hinf]
    have e : decide ((2139095040 : Int) < ((v % 2147483648 : Nat) : Int)) = decide (2139095040 < v % 2147483648) := by
      by_cases hc : 2139095040 < v % 2147483648
      · rw [decide_eq_true hc, decide_eq_true (by omega)]
      · rw [decide_eq_false hc, decide_eq_false (by omega)]
    rw [e] at h
    exact h
  · rw [hsw] at hv
    have h := isZero_32 v hv w
    rw [show (2 : Nat) ^ 31 = 2147483648 by decide] at h
    unfold zerB
    rw [hsw]
    have e : (((v % 2147483648 : Nat) : Int) == 0) = decide (v % 2147483648 = 0) := by
      by_cases hc : v % 2147483648 = 0
      · rw [decide_eq_true hc, hc]; rfl
      · rw [decide_eq_false hc, beq_eq_false_iff_ne]; omega
    rw [e] at h
    exact h
  · rw [hsw] at hv
    have h := key_32 v hv w
    unfold keyN
    rw [hsw]
    exact h
  · rw [hsw]
    exact top_32 w
  · rw [hsw] at hv ⊢
    unfold flipW
    rw [hsw]
    exact xor_pow v 31 (by decide) hv
theorem ng64 : NG Ieee.double 1023 9221120237041090560 64 := by
  have hsw : Ieee.double.signWeight = 9223372036854775808 := by decide
  have hinf : Ieee.double.infRung = 9218868437227405312 := by decide
  refine ⟨nf64, fun v hv w => ?_, fun v hv w => ?_, fun v hv w => ?_, fun w => ?_, fun v hv => ?_⟩
  · rw [hsw] at hv
    have h := isNaN_64 v hv w
    rw [show (2 : Nat) ^ 63 = 9223372036854775808 by decide] at h
    unfold nanB
    rw [hsw, hinf]
    have e : decide ((9218868437227405312 : Int) < ((v % 9223372036854775808 : Nat) : Int)) = decide (9218868437227405312 < v % 9223372036854775808) := by
      by_cases hc : 9218868437227405312 < v % 9223372036854775808
      · rw [decide_eq_true hc, decide_eq_true (by omega)]
      · rw [decide_eq_false hc, decide_eq_false (by omega)]
    rw [e] at h
    exact h
  · rw [hsw] at hv
    have h := isZero_64 v hv w
    rw [show (2 : Nat) ^ 63 = 9223372036854775808 by decide] at h
    unfold zerB
    rw [hsw]
    have e : (((v % 9223372036854775808 : Nat) : Int) == 0) = decide (v % 9223372036854775808 = 0) := by
      by_cases hc : v % 9223372036854775808 = 0
      · rw [decide_eq_true hc, hc]; rfl
      · rw [decide_eq_false hc, beq_eq_false_iff_ne]; omega
    rw [e] at h
    exact h
  · rw [hsw] at hv
    have h := key_64 v hv w
    unfold keyN
    rw [hsw]
    exact h
  · rw [hsw]
    exact top_64 w
  · rw [hsw] at hv ⊢
    unfold flipW
    rw [hsw]
    exact xor_pow v 63 (by decide) hv
end Go.Proofs.Qxb6500275aGreatDoor
