import Derived.Test.Qxb6500275aGreatDoorNo5
import Derived.Test.Qxb6500275aGreatDoorNo6
set_option maxRecDepth 100000
set_option linter.unusedVariables false
set_option linter.unusedSimpArgs false
namespace Go.Proofs.Qxb6500275aGreatDoor
open Go Go.RowKit
set_option maxHeartbeats 4000000 in
theorem rr32_69 (a b : Nat) (ha : a < 4294967296) (hb : b < 4294967296) (w : World) : Calls Tryz.prog 168 #[.int .i64 69, .int .u32 (a : Int), .int .u32 (b : Int)] w fun e' w' => e' = .returned (.bool (decide (a = 0))) ∧ w' = w := by
  obtain ⟨Z, HZ⟩ : ∃ Z : Bool, Hid (Z = (decide (a = 0))) := ⟨_, rfl⟩
  rw [← HZ.out]
  go_enter Tryz.func168, Tryz.ntmps168
  go_wp2
  go_ret
  refine ⟨retb_eq ?_, rfl⟩
  rw [HZ.out]
  rw [Bool.eq_iff_iff]
  simp only [beq_iff_eq, bne_iff_ne, decide_eq_true_iff, Bool.not_eq_true', decide_eq_false_iff_not, ne_eq]
  skip
  omega
set_option maxHeartbeats 4000000 in
theorem rr32_70 (a b : Nat) (ha : a < 4294967296) (hb : b < 4294967296) (w : World) : Calls Tryz.prog 168 #[.int .i64 70, .int .u32 (a : Int), .int .u32 (b : Int)] w fun e' w' => e' = .returned (.bool (icmpM 32 0 a b)) ∧ w' = w := by
  obtain ⟨Z, HZ⟩ : ∃ Z : Bool, Hid (Z = (icmpM 32 0 a b)) := ⟨_, rfl⟩
  rw [← HZ.out]
  go_enter Tryz.func168, Tryz.ntmps168
  go_wp2
  go_ret
  refine ⟨retb_eq ?_, rfl⟩
  rw [HZ.out]
  unfold icmpM
  rw [if_neg (by decide)]
  unfold icmpC
  rw [if_pos rfl]
  all_goals first
  | rfl
  | (rw [Bool.eq_iff_iff]
     simp only [beq_iff_eq, bne_iff_ne, decide_eq_true_iff, Bool.not_eq_true', decide_eq_false_iff_not, ne_eq]
     omega)
set_option maxHeartbeats 4000000 in
theorem rr32_71 (a b : Nat) (ha : a < 4294967296) (hb : b < 4294967296) (w : World) : Calls Tryz.prog 168 #[.int .i64 71, .int .u32 (a : Int), .int .u32 (b : Int)] w fun e' w' => e' = .returned (.bool (icmpM 32 1 a b)) ∧ w' = w := by
  obtain ⟨Z, HZ⟩ : ∃ Z : Bool, Hid (Z = (icmpM 32 1 a b)) := ⟨_, rfl⟩
  rw [← HZ.out]
  go_enter Tryz.func168, Tryz.ntmps168
  go_wp2
  go_ret
  refine ⟨retb_eq ?_, rfl⟩
  rw [HZ.out]
  unfold icmpM
  rw [if_neg (by decide)]
  unfold icmpC
  rw [if_neg (by decide), if_pos rfl]
  all_goals first
  | rfl
  | (rw [Bool.eq_iff_iff]
     simp only [beq_iff_eq, bne_iff_ne, decide_eq_true_iff, Bool.not_eq_true', decide_eq_false_iff_not, ne_eq]
     omega)
set_option maxHeartbeats 4000000 in
theorem rr32_72 (a b : Nat) (ha : a < 4294967296) (hb : b < 4294967296) (w : World) : Calls Tryz.prog 168 #[.int .i64 72, .int .u32 (a : Int), .int .u32 (b : Int)] w fun e' w' => e' = .returned (.bool (icmpM 32 2 a b)) ∧ w' = w := by
  obtain ⟨Z, HZ⟩ : ∃ Z : Bool, Hid (Z = (icmpM 32 2 a b)) := ⟨_, rfl⟩
  rw [← HZ.out]
  go_enter Tryz.func168, Tryz.ntmps168
  go_wp2
  go_ret
  refine ⟨retb_eq ?_, rfl⟩
  rw [HZ.out]
  unfold icmpM
  rw [if_pos (by decide), show (2 : Nat) ^ (32 - 1) = 2147483648 by decide, show (2 : Nat) ^ 32 = 4294967296 by decide]
  unfold icmpC
  rw [if_neg (by decide), if_neg (by decide), if_pos (by decide)]
  rw [Bool.eq_iff_iff]
  simp only [beq_iff_eq, bne_iff_ne, decide_eq_true_iff, Bool.not_eq_true', decide_eq_false_iff_not, ne_eq]
  unfold wrap32
  omega
set_option maxHeartbeats 4000000 in
theorem rr32_73 (a b : Nat) (ha : a < 4294967296) (hb : b < 4294967296) (w : World) : Calls Tryz.prog 168 #[.int .i64 73, .int .u32 (a : Int), .int .u32 (b : Int)] w fun e' w' => e' = .returned (.bool (icmpM 32 3 a b)) ∧ w' = w := by
  obtain ⟨Z, HZ⟩ : ∃ Z : Bool, Hid (Z = (icmpM 32 3 a b)) := ⟨_, rfl⟩
  rw [← HZ.out]
  go_enter Tryz.func168, Tryz.ntmps168
  go_wp2
  go_ret
  refine ⟨retb_eq ?_, rfl⟩
  rw [HZ.out]
  unfold icmpM
  rw [if_neg (by decide)]
  unfold icmpC
  rw [if_neg (by decide), if_neg (by decide), if_pos (by decide)]
  rw [Bool.eq_iff_iff]
  simp only [beq_iff_eq, bne_iff_ne, decide_eq_true_iff, Bool.not_eq_true', decide_eq_false_iff_not, ne_eq]
  skip
  omega
set_option maxHeartbeats 4000000 in
theorem rr32_74 (a b : Nat) (ha : a < 4294967296) (hb : b < 4294967296) (w : World) : Calls Tryz.prog 168 #[.int .i64 74, .int .u32 (a : Int), .int .u32 (b : Int)] w fun e' w' => e' = .returned (.bool (icmpM 32 4 a b)) ∧ w' = w := by
  obtain ⟨Z, HZ⟩ : ∃ Z : Bool, Hid (Z = (icmpM 32 4 a b)) := ⟨_, rfl⟩
  rw [← HZ.out]
  go_enter Tryz.func168, Tryz.ntmps168
  go_wp2
  go_ret
  refine ⟨retb_eq ?_, rfl⟩
  rw [HZ.out]
  unfold icmpM
  rw [if_pos (by decide), show (2 : Nat) ^ (32 - 1) = 2147483648 by decide, show (2 : Nat) ^ 32 = 4294967296 by decide]
  unfold icmpC
  rw [if_neg (by decide), if_neg (by decide), if_neg (by decide), if_pos (by decide)]
  rw [Bool.eq_iff_iff]
  simp only [beq_iff_eq, bne_iff_ne, decide_eq_true_iff, Bool.not_eq_true', decide_eq_false_iff_not, ne_eq]
  unfold wrap32
  omega
set_option maxHeartbeats 4000000 in
theorem rr32_75 (a b : Nat) (ha : a < 4294967296) (hb : b < 4294967296) (w : World) : Calls Tryz.prog 168 #[.int .i64 75, .int .u32 (a : Int), .int .u32 (b : Int)] w fun e' w' => e' = .returned (.bool (icmpM 32 5 a b)) ∧ w' = w := by
  obtain ⟨Z, HZ⟩ : ∃ Z : Bool, Hid (Z = (icmpM 32 5 a b)) := ⟨_, rfl⟩
  rw [← HZ.out]
  go_enter Tryz.func168, Tryz.ntmps168
  go_wp2
  go_ret
  refine ⟨retb_eq ?_, rfl⟩
  rw [HZ.out]
  unfold icmpM
  rw [if_neg (by decide)]
  unfold icmpC
  rw [if_neg (by decide), if_neg (by decide), if_neg (by decide), if_pos (by decide)]
  rw [Bool.eq_iff_iff]
  simp only [beq_iff_eq, bne_iff_ne, decide_eq_true_iff, Bool.not_eq_true', decide_eq_false_iff_not, ne_eq]
  skip
  omega
set_option maxHeartbeats 4000000 in
theorem rr32_76 (a b : Nat) (ha : a < 4294967296) (hb : b < 4294967296) (w : World) : Calls Tryz.prog 168 #[.int .i64 76, .int .u32 (a : Int), .int .u32 (b : Int)] w fun e' w' => e' = .returned (.bool (icmpM 32 6 a b)) ∧ w' = w := by
  obtain ⟨Z, HZ⟩ : ∃ Z : Bool, Hid (Z = (icmpM 32 6 a b)) := ⟨_, rfl⟩
  rw [← HZ.out]
  go_enter Tryz.func168, Tryz.ntmps168
  go_wp2
  go_ret
  refine ⟨retb_eq ?_, rfl⟩
  rw [HZ.out]
  unfold icmpM
  rw [if_pos (by decide), show (2 : Nat) ^ (32 - 1) = 2147483648 by decide, show (2 : Nat) ^ 32 = 4294967296 by decide]
  unfold icmpC
  rw [if_neg (by decide), if_neg (by decide), if_neg (by decide), if_neg (by decide), if_pos (by decide)]
  rw [Bool.eq_iff_iff]
  simp only [beq_iff_eq, bne_iff_ne, decide_eq_true_iff, Bool.not_eq_true', decide_eq_false_iff_not, ne_eq]
  unfold wrap32
  omega
set_option maxHeartbeats 4000000 in
theorem rr32_77 (a b : Nat) (ha : a < 4294967296) (hb : b < 4294967296) (w : World) : Calls Tryz.prog 168 #[.int .i64 77, .int .u32 (a : Int), .int .u32 (b : Int)] w fun e' w' => e' = .returned (.bool (icmpM 32 7 a b)) ∧ w' = w := by
  obtain ⟨Z, HZ⟩ : ∃ Z : Bool, Hid (Z = (icmpM 32 7 a b)) := ⟨_, rfl⟩
  rw [← HZ.out]
  go_enter Tryz.func168, Tryz.ntmps168
  go_wp2
  go_ret
  refine ⟨retb_eq ?_, rfl⟩
  rw [HZ.out]
  unfold icmpM
  rw [if_neg (by decide)]
  unfold icmpC
  rw [if_neg (by decide), if_neg (by decide), if_neg (by decide), if_neg (by decide), if_pos (by decide)]
  rw [Bool.eq_iff_iff]
  simp only [beq_iff_eq, bne_iff_ne, decide_eq_true_iff, Bool.not_eq_true', decide_eq_false_iff_not, ne_eq]
  skip
  omega
set_option maxHeartbeats 4000000 in
theorem rr32_78 (a b : Nat) (ha : a < 4294967296) (hb : b < 4294967296) (w : World) : Calls Tryz.prog 168 #[.int .i64 78, .int .u32 (a : Int), .int .u32 (b : Int)] w fun e' w' => e' = .returned (.bool (icmpM 32 8 a b)) ∧ w' = w := by
  obtain ⟨Z, HZ⟩ : ∃ Z : Bool, Hid (Z = (icmpM 32 8 a b)) := ⟨_, rfl⟩
  rw [← HZ.out]
  go_enter Tryz.func168, Tryz.ntmps168
  go_wp2
  go_ret
  refine ⟨retb_eq ?_, rfl⟩
  rw [HZ.out]
  unfold icmpM
  rw [if_pos (by decide), show (2 : Nat) ^ (32 - 1) = 2147483648 by decide, show (2 : Nat) ^ 32 = 4294967296 by decide]
  unfold icmpC
  rw [if_neg (by decide), if_neg (by decide), if_neg (by decide), if_neg (by decide), if_neg (by decide)]
  rw [Bool.eq_iff_iff]
  simp only [beq_iff_eq, bne_iff_ne, decide_eq_true_iff, Bool.not_eq_true', decide_eq_false_iff_not, ne_eq]
  unfold wrap32
  omega
set_option maxHeartbeats 4000000 in
theorem rr32_79 (a b : Nat) (ha : a < 4294967296) (hb : b < 4294967296) (w : World) : Calls Tryz.prog 168 #[.int .i64 79, .int .u32 (a : Int), .int .u32 (b : Int)] w fun e' w' => e' = .returned (.bool (icmpM 32 9 a b)) ∧ w' = w := by
  obtain ⟨Z, HZ⟩ : ∃ Z : Bool, Hid (Z = (icmpM 32 9 a b)) := ⟨_, rfl⟩
  rw [← HZ.out]
  go_enter Tryz.func168, Tryz.ntmps168
  go_wp2
  go_ret
  refine ⟨retb_eq ?_, rfl⟩
  rw [HZ.out]
  unfold icmpM
  rw [if_neg (by decide)]
  unfold icmpC
  rw [if_neg (by decide), if_neg (by decide), if_neg (by decide), if_neg (by decide), if_neg (by decide)]
  rw [Bool.eq_iff_iff]
  simp only [beq_iff_eq, bne_iff_ne, decide_eq_true_iff, Bool.not_eq_true', decide_eq_false_iff_not, ne_eq]
  skip
  omega
set_option maxHeartbeats 4000000 in
theorem rr64_80 (a b : Nat) (ha : a < 18446744073709551616) (hb : b < 18446744073709551616) (w : World) : Calls Tryz.prog 169 #[.int .i64 80, .int .u64 (a : Int), .int .u64 (b : Int)] w fun e' w' => e' = .returned (.bool (decide (a = 0))) ∧ w' = w := by
  obtain ⟨Z, HZ⟩ : ∃ Z : Bool, Hid (Z = (decide (a = 0))) := ⟨_, rfl⟩
  rw [← HZ.out]
  go_enter Tryz.func169, Tryz.ntmps169
  go_wp2
  go_ret
  refine ⟨retb_eq ?_, rfl⟩
  rw [HZ.out]
  rw [Bool.eq_iff_iff]
  simp only [beq_iff_eq, bne_iff_ne, decide_eq_true_iff, Bool.not_eq_true', decide_eq_false_iff_not, ne_eq]
  skip
  omega
set_option maxHeartbeats 4000000 in
theorem rr64_81 (a b : Nat) (ha : a < 18446744073709551616) (hb : b < 18446744073709551616) (w : World) : Calls Tryz.prog 169 #[.int .i64 81, .int .u64 (a : Int), .int .u64 (b : Int)] w fun e' w' => e' = .returned (.bool (icmpM 64 0 a b)) ∧ w' = w := by
  obtain ⟨Z, HZ⟩ : ∃ Z : Bool, Hid (Z = (icmpM 64 0 a b)) := ⟨_, rfl⟩
  rw [← HZ.out]
  go_enter Tryz.func169, Tryz.ntmps169
  go_wp2
  go_ret
  refine ⟨retb_eq ?_, rfl⟩
  rw [HZ.out]
  unfold icmpM
  rw [if_neg (by decide)]
  unfold icmpC
  rw [if_pos rfl]
  all_goals first
  | rfl
  | (rw [Bool.eq_iff_iff]
     simp only [beq_iff_eq, bne_iff_ne, decide_eq_true_iff, Bool.not_eq_true', decide_eq_false_iff_not, ne_eq]
     omega)
set_option maxHeartbeats 4000000 in
theorem rr64_82 (a b : Nat) (ha : a < 18446744073709551616) (hb : b < 18446744073709551616) (w : World) : Calls Tryz.prog 169 #[.int .i64 82, .int .u64 (a : Int), .int .u64 (b : Int)] w fun e' w' => e' = .returned (.bool (icmpM 64 1 a b)) ∧ w' = w := by
  obtain ⟨Z, HZ⟩ : ∃ Z : Bool, Hid (Z = (icmpM 64 1 a b)) := ⟨_, rfl⟩
  rw [← HZ.out]
  go_enter Tryz.func169, Tryz.ntmps169
  go_wp2
  go_ret
  refine ⟨retb_eq ?_, rfl⟩
  rw [HZ.out]
  unfold icmpM
  rw [if_neg (by decide)]
  unfold icmpC
  rw [if_neg (by decide), if_pos rfl]
  all_goals first
  | rfl
  | (rw [Bool.eq_iff_iff]
     simp only [beq_iff_eq, bne_iff_ne, decide_eq_true_iff, Bool.not_eq_true', decide_eq_false_iff_not, ne_eq]
     omega)
set_option maxHeartbeats 4000000 in
theorem rr64_83 (a b : Nat) (ha : a < 18446744073709551616) (hb : b < 18446744073709551616) (w : World) : Calls Tryz.prog 169 #[.int .i64 83, .int .u64 (a : Int), .int .u64 (b : Int)] w fun e' w' => e' = .returned (.bool (icmpM 64 2 a b)) ∧ w' = w := by
  obtain ⟨Z, HZ⟩ : ∃ Z : Bool, Hid (Z = (icmpM 64 2 a b)) := ⟨_, rfl⟩
  rw [← HZ.out]
  go_enter Tryz.func169, Tryz.ntmps169
  go_wp2
  go_ret
  refine ⟨retb_eq ?_, rfl⟩
  rw [HZ.out]
  unfold icmpM
  rw [if_pos (by decide), show (2 : Nat) ^ (64 - 1) = 9223372036854775808 by decide, show (2 : Nat) ^ 64 = 18446744073709551616 by decide]
  unfold icmpC
  rw [if_neg (by decide), if_neg (by decide), if_pos (by decide)]
  rw [Bool.eq_iff_iff]
  simp only [beq_iff_eq, bne_iff_ne, decide_eq_true_iff, Bool.not_eq_true', decide_eq_false_iff_not, ne_eq]
  unfold wrap64
  omega
set_option maxHeartbeats 4000000 in
theorem rr64_84 (a b : Nat) (ha : a < 18446744073709551616) (hb : b < 18446744073709551616) (w : World) : Calls Tryz.prog 169 #[.int .i64 84, .int .u64 (a : Int), .int .u64 (b : Int)] w fun e' w' => e' = .returned (.bool (icmpM 64 3 a b)) ∧ w' = w := by
  obtain ⟨Z, HZ⟩ : ∃ Z : Bool, Hid (Z = (icmpM 64 3 a b)) := ⟨_, rfl⟩
  rw [← HZ.out]
  go_enter Tryz.func169, Tryz.ntmps169
  go_wp2
  go_ret
  refine ⟨retb_eq ?_, rfl⟩
  rw [HZ.out]
  unfold icmpM
  rw [if_neg (by decide)]
  unfold icmpC
  rw [if_neg (by decide), if_neg (by decide), if_pos (by decide)]
  rw [Bool.eq_iff_iff]
  simp only [beq_iff_eq, bne_iff_ne, decide_eq_true_iff, Bool.not_eq_true', decide_eq_false_iff_not, ne_eq]
  skip
  omega
set_option maxHeartbeats 4000000 in
theorem rr64_85 (a b : Nat) (ha : a < 18446744073709551616) (hb : b < 18446744073709551616) (w : World) : Calls Tryz.prog 169 #[.int .i64 85, .int .u64 (a : Int), .int .u64 (b : Int)] w fun e' w' => e' = .returned (.bool (icmpM 64 4 a b)) ∧ w' = w := by
  obtain ⟨Z, HZ⟩ : ∃ Z : Bool, Hid (Z = (icmpM 64 4 a b)) := ⟨_, rfl⟩
  rw [← HZ.out]
  go_enter Tryz.func169, Tryz.ntmps169
  go_wp2
  go_ret
  refine ⟨retb_eq ?_, rfl⟩
  rw [HZ.out]
  unfold icmpM
  rw [if_pos (by decide), show (2 : Nat) ^ (64 - 1) = 9223372036854775808 by decide, show (2 : Nat) ^ 64 = 18446744073709551616 by decide]
  unfold icmpC
  rw [if_neg (by decide), if_neg (by decide), if_neg (by decide), if_pos (by decide)]
  rw [Bool.eq_iff_iff]
  simp only [beq_iff_eq, bne_iff_ne, decide_eq_true_iff, Bool.not_eq_true', decide_eq_false_iff_not, ne_eq]
  unfold wrap64
  omega
set_option maxHeartbeats 4000000 in
theorem rr64_86 (a b : Nat) (ha : a < 18446744073709551616) (hb : b < 18446744073709551616) (w : World) : Calls Tryz.prog 169 #[.int .i64 86, .int .u64 (a : Int), .int .u64 (b : Int)] w fun e' w' => e' = .returned (.bool (icmpM 64 5 a b)) ∧ w' = w := by
  obtain ⟨Z, HZ⟩ : ∃ Z : Bool, Hid (Z = (icmpM 64 5 a b)) := ⟨_, rfl⟩
  rw [← HZ.out]
  go_enter Tryz.func169, Tryz.ntmps169
  go_wp2
  go_ret
  refine ⟨retb_eq ?_, rfl⟩
  rw [HZ.out]
  unfold icmpM
  rw [if_neg (by decide)]
  unfold icmpC
  rw [if_neg (by decide), if_neg (by decide), if_neg (by decide), if_pos (by decide)]
  rw [Bool.eq_iff_iff]
  simp only [beq_iff_eq, bne_iff_ne, decide_eq_true_iff, Bool.not_eq_true', decide_eq_false_iff_not, ne_eq]
  skip
  omega
set_option maxHeartbeats 4000000 in
theorem rr64_87 (a b : Nat) (ha : a < 18446744073709551616) (hb : b < 18446744073709551616) (w : World) : Calls Tryz.prog 169 #[.int .i64 87, .int .u64 (a : Int), .int .u64 (b : Int)] w fun e' w' => e' = .returned (.bool (icmpM 64 6 a b)) ∧ w' = w := by
  obtain ⟨Z, HZ⟩ : ∃ Z : Bool, Hid (Z = (icmpM 64 6 a b)) := ⟨_, rfl⟩
  rw [← HZ.out]
  go_enter Tryz.func169, Tryz.ntmps169
  go_wp2
  go_ret
  refine ⟨retb_eq ?_, rfl⟩
  rw [HZ.out]
  unfold icmpM
  rw [if_pos (by decide), show (2 : Nat) ^ (64 - 1) = 9223372036854775808 by decide, show (2 : Nat) ^ 64 = 18446744073709551616 by decide]
  unfold icmpC
  rw [if_neg (by decide), if_neg (by decide), if_neg (by decide), if_neg (by decide), if_pos (by decide)]
  rw [Bool.eq_iff_iff]
  simp only [beq_iff_eq, bne_iff_ne, decide_eq_true_iff, Bool.not_eq_true', decide_eq_false_iff_not, ne_eq]
  unfold wrap64
  omega
set_option maxHeartbeats 4000000 in
theorem rr64_88 (a b : Nat) (ha : a < 18446744073709551616) (hb : b < 18446744073709551616) (w : World) : Calls Tryz.prog 169 #[.int .i64 88, .int .u64 (a : Int), .int .u64 (b : Int)] w fun e' w' => e' = .returned (.bool (icmpM 64 7 a b)) ∧ w' = w := by
  obtain ⟨Z, HZ⟩ : ∃ Z : Bool, Hid (Z = (icmpM 64 7 a b)) := ⟨_, rfl⟩
  rw [← HZ.out]
  go_enter Tryz.func169, Tryz.ntmps169
  go_wp2
  go_ret
  refine ⟨retb_eq ?_, rfl⟩
  rw [HZ.out]
  unfold icmpM
  rw [if_neg (by decide)]
  unfold icmpC
  rw [if_neg (by decide), if_neg (by decide), if_neg (by decide), if_neg (by decide), if_pos (by decide)]
  rw [Bool.eq_iff_iff]
  simp only [beq_iff_eq, bne_iff_ne, decide_eq_true_iff, Bool.not_eq_true', decide_eq_false_iff_not, ne_eq]
  skip
  omega
set_option maxHeartbeats 4000000 in
theorem rr64_89 (a b : Nat) (ha : a < 18446744073709551616) (hb : b < 18446744073709551616) (w : World) : Calls Tryz.prog 169 #[.int .i64 89, .int .u64 (a : Int), .int .u64 (b : Int)] w fun e' w' => e' = .returned (.bool (icmpM 64 8 a b)) ∧ w' = w := by
  obtain ⟨Z, HZ⟩ : ∃ Z : Bool, Hid (Z = (icmpM 64 8 a b)) := ⟨_, rfl⟩
  rw [← HZ.out]
  go_enter Tryz.func169, Tryz.ntmps169
  go_wp2
  go_ret
  refine ⟨retb_eq ?_, rfl⟩
  rw [HZ.out]
  unfold icmpM
  rw [if_pos (by decide), show (2 : Nat) ^ (64 - 1) = 9223372036854775808 by decide, show (2 : Nat) ^ 64 = 18446744073709551616 by decide]
  unfold icmpC
  rw [if_neg (by decide), if_neg (by decide), if_neg (by decide), if_neg (by decide), if_neg (by decide)]
  rw [Bool.eq_iff_iff]
  simp only [beq_iff_eq, bne_iff_ne, decide_eq_true_iff, Bool.not_eq_true', decide_eq_false_iff_not, ne_eq]
  unfold wrap64
  omega
set_option maxHeartbeats 4000000 in
theorem rr64_90 (a b : Nat) (ha : a < 18446744073709551616) (hb : b < 18446744073709551616) (w : World) : Calls Tryz.prog 169 #[.int .i64 90, .int .u64 (a : Int), .int .u64 (b : Int)] w fun e' w' => e' = .returned (.bool (icmpM 64 9 a b)) ∧ w' = w := by
  obtain ⟨Z, HZ⟩ : ∃ Z : Bool, Hid (Z = (icmpM 64 9 a b)) := ⟨_, rfl⟩
  rw [← HZ.out]
  go_enter Tryz.func169, Tryz.ntmps169
  go_wp2
  go_ret
  refine ⟨retb_eq ?_, rfl⟩
  rw [HZ.out]
  unfold icmpM
  rw [if_neg (by decide)]
  unfold icmpC
  rw [if_neg (by decide), if_neg (by decide), if_neg (by decide), if_neg (by decide), if_neg (by decide)]
  rw [Bool.eq_iff_iff]
  simp only [beq_iff_eq, bne_iff_ne, decide_eq_true_iff, Bool.not_eq_true', decide_eq_false_iff_not, ne_eq]
  skip
  omega
end Go.Proofs.Qxb6500275aGreatDoor
