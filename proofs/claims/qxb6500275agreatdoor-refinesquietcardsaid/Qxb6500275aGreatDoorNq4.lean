import Derived.Test.Qxb6500275aGreatDoorNq3
set_option maxRecDepth 100000
set_option linter.unusedVariables false
set_option linter.unusedSimpArgs false
namespace Go.Proofs.Qxb6500275aGreatDoor
open Go Go.RowKit
theorem or_pow (r k : Nat) (M : Int) (hk : k < 64) (hM : M = ((2 ^ k : Nat) : Int)) (h : r < 2 ^ k) : bits .or .u64 (r : Int) M = ((2 ^ k + r : Nat) : Int) := by
  subst hM
  unfold bits
  have hk2 : 2 ^ (k + 1) ≤ 2 ^ 64 := Nat.pow_le_pow_right (by decide) (by omega)
  rw [Nat.pow_succ] at hk2
  have e : (BitVec.ofInt IntKind.u64.bits (r : Int) ||| BitVec.ofInt IntKind.u64.bits ((2 ^ k : Nat) : Int)).toNat = 2 ^ k + r := by
    have e1 : ∀ x : Nat, x < 2 ^ 64 → (BitVec.ofInt IntKind.u64.bits (x : Int)).toNat = x := fun x hx => by
      show (BitVec.ofInt 64 (x : Int)).toNat = x
      rw [BitVec.toNat_ofInt]
      omega
    rw [BitVec.toNat_or, e1 r (by omega), e1 _ (by omega), Nat.or_comm]
    have := Nat.two_pow_add_eq_or_of_lt h 1
    rw [Nat.mul_one] at this
    exact this.symm
  simp only [e, wrap_u64]
  omega
def unpV (x : Bool × Nat × Nat × Int) : Value := .tuple #[.bool x.1, .int .i64 (x.2.1 : Int), .int .u64 (x.2.2.1 : Int), .int .i64 x.2.2.2]
theorem fields_32 (v : Nat) (hv : v < 4294967296) : sgB Ieee.single v = decide (2147483648 ≤ v) ∧ exB Ieee.single v = v / 8388608 % 256 ∧ frB Ieee.single v = v % 8388608 := by
  have hsw : Ieee.single.signWeight = 2147483648 := by decide
  have hfb : 2 ^ Ieee.single.fractionBits = 8388608 := by decide
  refine ⟨?_, ?_, ?_⟩
  · unfold sgB; rw [hsw]
  · unfold exB; rw [hsw, hfb]; omega
  · unfold frB; rw [hsw, hfb]; omega
set_option maxHeartbeats 4000000 in
theorem unpack_32 (v : Nat) (hv : v < 4294967296) (w : World) : Calls Tryz.prog 311 #[.int .i64 32, .int .u64 v] w (Pq w (unpV (unpS Ieee.single 127 v))) := by
  obtain ⟨f1, f2, f3⟩ := fields_32 v hv
  have hfb : Ieee.single.fractionBits = 23 := rfl
  have a1 := and_mask ((v : Int) / 8388608) 8 255 (by decide) (by decide) (by omega)
  have a2 := and_mask (v : Int) 23 8388607 (by decide) (by decide) (by omega)
  rw [show ((v : Int) / 8388608).toNat % 2 ^ 8 = v / 8388608 % 256 by omega] at a1
  rw [Int.toNat_natCast, show v % 2 ^ 23 = v % 8388608 by rfl] at a2
  have hE : v / 8388608 % 256 < 256 := Nat.mod_lt _ (by decide)
  have hR : v % 8388608 < 8388608 := Nat.mod_lt _ (by decide)
  unfold unpS
  rw [f1, f2, f3, hfb, show (2 : Nat) ^ 23 = 8388608 by decide]
  generalize v / 8388608 % 256 = E at a1 hE ⊢
  generalize v % 8388608 = R at a2 hR ⊢
  have ho := or_pow R 23 8388608 (by decide) (by decide) hR
  have hsg : decide ((2147483648 : Int) ≤ (v : Int)) = decide (2147483648 ≤ v) := by
    by_cases h : 2147483648 ≤ v
    · rw [decide_eq_true h, decide_eq_true (by omega)]
    · rw [decide_eq_false h, decide_eq_false (by omega)]
  obtain ⟨sg, hsg2⟩ : ∃ b, decide (2147483648 ≤ v) = b := ⟨_, rfl⟩
  rw [hsg2] at hsg ⊢
  clear f1 f2 f3 hsg2
  by_cases h1 : E = 255
  · rw [if_pos h1]
    subst h1
    by_cases h2 : R = 0
    · rw [if_pos h2]
      subst h2
      go_enter Tryz.func311, Tryz.ntmps311
      go_wp2_with (first | (go_at_call 314; refine (prec_32 _).mono ?_; rintro en w2 ⟨rfl, rfl⟩) | (go_at_call 315; refine (bias_32 _).mono ?_; rintro en w2 ⟨rfl, rfl⟩) | (go_at_call 293; refine (top_32 _).mono ?_; rintro en w2 ⟨rfl, rfl⟩))
      refine bodyPost_ret (v := .tuple #[.bool sg, .int .i64 2, .int .u64 0, .int .i64 0]) (by simp [results, Tryz.results311, go_sem]) rfl ?_
      exact ⟨by first | rfl | (unfold unpV; simp; done) | (unfold unpV; simp; omega), rfl⟩
    · rw [if_neg h2]
      have b2 : ((R : Int) == 0) = false := by rw [beq_eq_false_iff_ne]; omega
      go_enter Tryz.func311, Tryz.ntmps311
      go_wp2_with (first | (go_at_call 314; refine (prec_32 _).mono ?_; rintro en w2 ⟨rfl, rfl⟩) | (go_at_call 315; refine (bias_32 _).mono ?_; rintro en w2 ⟨rfl, rfl⟩) | (go_at_call 293; refine (top_32 _).mono ?_; rintro en w2 ⟨rfl, rfl⟩))
      refine bodyPost_ret (v := .tuple #[.bool sg, .int .i64 3, .int .u64 0, .int .i64 0]) (by simp [results, Tryz.results311, go_sem]) rfl ?_
      exact ⟨by first | rfl | (unfold unpV; simp; done) | (unfold unpV; simp; omega), rfl⟩
  · rw [if_neg h1]
    have b1 : ((E : Int) == 255) = false := by rw [beq_eq_false_iff_ne]; omega
    by_cases h0 : E = 0
    · rw [if_pos h0]
      subst h0
      by_cases h2 : R = 0
      · rw [if_pos h2]
        subst h2
        go_enter Tryz.func311, Tryz.ntmps311
        go_wp2_with (first | (go_at_call 314; refine (prec_32 _).mono ?_; rintro en w2 ⟨rfl, rfl⟩) | (go_at_call 315; refine (bias_32 _).mono ?_; rintro en w2 ⟨rfl, rfl⟩) | (go_at_call 293; refine (top_32 _).mono ?_; rintro en w2 ⟨rfl, rfl⟩))
        refine bodyPost_ret (v := .tuple #[.bool sg, .int .i64 0, .int .u64 0, .int .i64 0]) (by simp [results, Tryz.results311, go_sem]) rfl ?_
        exact ⟨by first | rfl | (unfold unpV; simp; done) | (unfold unpV; simp; omega), rfl⟩
      · rw [if_neg h2]
        have b2 : ((R : Int) == 0) = false := by rw [beq_eq_false_iff_ne]; omega
        go_enter Tryz.func311, Tryz.ntmps311
        go_wp2_with (first | (go_at_call 314; refine (prec_32 _).mono ?_; rintro en w2 ⟨rfl, rfl⟩) | (go_at_call 315; refine (bias_32 _).mono ?_; rintro en w2 ⟨rfl, rfl⟩) | (go_at_call 293; refine (top_32 _).mono ?_; rintro en w2 ⟨rfl, rfl⟩))
        refine bodyPost_ret (v := .tuple #[.bool sg, .int .i64 1, .int .u64 R, .int .i64 (-149)]) (by simp [results, Tryz.results311, go_sem]) rfl ?_
        exact ⟨by first | rfl | (unfold unpV; simp; done) | (unfold unpV; simp; omega), rfl⟩
    · rw [if_neg h0]
      have b0 : ((E : Int) == 0) = false := by rw [beq_eq_false_iff_ne]; omega
      go_enter Tryz.func311, Tryz.ntmps311
      go_wp2_with (first | (go_at_call 314; refine (prec_32 _).mono ?_; rintro en w2 ⟨rfl, rfl⟩) | (go_at_call 315; refine (bias_32 _).mono ?_; rintro en w2 ⟨rfl, rfl⟩) | (go_at_call 293; refine (top_32 _).mono ?_; rintro en w2 ⟨rfl, rfl⟩))
      refine bodyPost_ret (v := .tuple #[.bool sg, .int .i64 1, .int .u64 (8388608 + (R : Int)), .int .i64 ((E : Int) - 127 - 24 + 1)]) (by simp [results, Tryz.results311, go_sem]) rfl ?_
      exact ⟨by first | rfl | (unfold unpV; simp; done) | (unfold unpV; simp; omega), rfl⟩
theorem fields_64 (v : Nat) (hv : v < 18446744073709551616) : sgB Ieee.double v = decide (9223372036854775808 ≤ v) ∧ exB Ieee.double v = v / 4503599627370496 % 2048 ∧ frB Ieee.double v = v % 4503599627370496 := by
  have hsw : Ieee.double.signWeight = 9223372036854775808 := by decide
  have hfb : 2 ^ Ieee.double.fractionBits = 4503599627370496 := by decide
  refine ⟨?_, ?_, ?_⟩
  · unfold sgB; rw [hsw]
  · unfold exB; rw [hsw, hfb]; omega
  · unfold frB; rw [hsw, hfb]; omega
set_option maxHeartbeats 4000000 in
theorem unpack_64 (v : Nat) (hv : v < 18446744073709551616) (w : World) : Calls Tryz.prog 311 #[.int .i64 64, .int .u64 v] w (Pq w (unpV (unpS Ieee.double 1023 v))) := by
  obtain ⟨f1, f2, f3⟩ := fields_64 v hv
  have hfb : Ieee.double.fractionBits = 52 := rfl
  have a1 := and_mask ((v : Int) / 4503599627370496) 11 2047 (by decide) (by decide) (by omega)
  have a2 := and_mask (v : Int) 52 4503599627370495 (by decide) (by decide) (by omega)
  rw [show ((v : Int) / 4503599627370496).toNat % 2 ^ 11 = v / 4503599627370496 % 2048 by omega] at a1
  rw [Int.toNat_natCast, show v % 2 ^ 52 = v % 4503599627370496 by rfl] at a2
  have hE : v / 4503599627370496 % 2048 < 2048 := Nat.mod_lt _ (by decide)
  have hR : v % 4503599627370496 < 4503599627370496 := Nat.mod_lt _ (by decide)
  unfold unpS
  rw [f1, f2, f3, hfb, show (2 : Nat) ^ 52 = 4503599627370496 by decide]
  generalize v / 4503599627370496 % 2048 = E at a1 hE ⊢
  generalize v % 4503599627370496 = R at a2 hR ⊢
  have ho := or_pow R 52 4503599627370496 (by decide) (by decide) hR
  have hsg : decide ((9223372036854775808 : Int) ≤ (v : Int)) = decide (9223372036854775808 ≤ v) := by
    by_cases h : 9223372036854775808 ≤ v
    · rw [decide_eq_true h, decide_eq_true (by omega)]
    · rw [decide_eq_false h, decide_eq_false (by omega)]
  obtain ⟨sg, hsg2⟩ : ∃ b, decide (9223372036854775808 ≤ v) = b := ⟨_, rfl⟩
  rw [hsg2] at hsg ⊢
  clear f1 f2 f3 hsg2
  by_cases h1 : E = 2047
  · rw [if_pos h1]
    subst h1
    by_cases h2 : R = 0
    · rw [if_pos h2]
      subst h2
      go_enter Tryz.func311, Tryz.ntmps311
      go_wp2_with (first | (go_at_call 314; refine (prec_64 _).mono ?_; rintro en w2 ⟨rfl, rfl⟩) | (go_at_call 315; refine (bias_64 _).mono ?_; rintro en w2 ⟨rfl, rfl⟩) | (go_at_call 293; refine (top_64 _).mono ?_; rintro en w2 ⟨rfl, rfl⟩))
      refine bodyPost_ret (v := .tuple #[.bool sg, .int .i64 2, .int .u64 0, .int .i64 0]) (by simp [results, Tryz.results311, go_sem]) rfl ?_
      exact ⟨by first | rfl | (unfold unpV; simp; done) | (unfold unpV; simp; omega), rfl⟩
    · rw [if_neg h2]
      have b2 : ((R : Int) == 0) = false := by rw [beq_eq_false_iff_ne]; omega
      go_enter Tryz.func311, Tryz.ntmps311
      go_wp2_with (first | (go_at_call 314; refine (prec_64 _).mono ?_; rintro en w2 ⟨rfl, rfl⟩) | (go_at_call 315; refine (bias_64 _).mono ?_; rintro en w2 ⟨rfl, rfl⟩) | (go_at_call 293; refine (top_64 _).mono ?_; rintro en w2 ⟨rfl, rfl⟩))
      refine bodyPost_ret (v := .tuple #[.bool sg, .int .i64 3, .int .u64 0, .int .i64 0]) (by simp [results, Tryz.results311, go_sem]) rfl ?_
      exact ⟨by first | rfl | (unfold unpV; simp; done) | (unfold unpV; simp; omega), rfl⟩
  · rw [if_neg h1]
    have b1 : ((E : Int) == 2047) = false := by rw [beq_eq_false_iff_ne]; omega
    by_cases h0 : E = 0
    · rw [if_pos h0]
      subst h0
      by_cases h2 : R = 0
      · rw [if_pos h2]
        subst h2
        go_enter Tryz.func311, Tryz.ntmps311
        go_wp2_with (first | (go_at_call 314; refine (prec_64 _).mono ?_; rintro en w2 ⟨rfl, rfl⟩) | (go_at_call 315; refine (bias_64 _).mono ?_; rintro en w2 ⟨rfl, rfl⟩) | (go_at_call 293; refine (top_64 _).mono ?_; rintro en w2 ⟨rfl, rfl⟩))
        refine bodyPost_ret (v := .tuple #[.bool sg, .int .i64 0, .int .u64 0, .int .i64 0]) (by simp [results, Tryz.results311, go_sem]) rfl ?_
        exact ⟨by first | rfl | (unfold unpV; simp; done) | (unfold unpV; simp; omega), rfl⟩
      · rw [if_neg h2]
        have b2 : ((R : Int) == 0) = false := by rw [beq_eq_false_iff_ne]; omega
        go_enter Tryz.func311, Tryz.ntmps311
        go_wp2_with (first | (go_at_call 314; refine (prec_64 _).mono ?_; rintro en w2 ⟨rfl, rfl⟩) | (go_at_call 315; refine (bias_64 _).mono ?_; rintro en w2 ⟨rfl, rfl⟩) | (go_at_call 293; refine (top_64 _).mono ?_; rintro en w2 ⟨rfl, rfl⟩))
        refine bodyPost_ret (v := .tuple #[.bool sg, .int .i64 1, .int .u64 R, .int .i64 (-1074)]) (by simp [results, Tryz.results311, go_sem]) rfl ?_
        exact ⟨by first | rfl | (unfold unpV; simp; done) | (unfold unpV; simp; omega), rfl⟩
    · rw [if_neg h0]
      have b0 : ((E : Int) == 0) = false := by rw [beq_eq_false_iff_ne]; omega
      go_enter Tryz.func311, Tryz.ntmps311
      go_wp2_with (first | (go_at_call 314; refine (prec_64 _).mono ?_; rintro en w2 ⟨rfl, rfl⟩) | (go_at_call 315; refine (bias_64 _).mono ?_; rintro en w2 ⟨rfl, rfl⟩) | (go_at_call 293; refine (top_64 _).mono ?_; rintro en w2 ⟨rfl, rfl⟩))
      refine bodyPost_ret (v := .tuple #[.bool sg, .int .i64 1, .int .u64 (4503599627370496 + (R : Int)), .int .i64 ((E : Int) - 1023 - 53 + 1)]) (by simp [results, Tryz.results311, go_sem]) rfl ?_
      exact ⟨by first | rfl | (unfold unpV; simp; done) | (unfold unpV; simp; omega), rfl⟩
end Go.Proofs.Qxb6500275aGreatDoor
