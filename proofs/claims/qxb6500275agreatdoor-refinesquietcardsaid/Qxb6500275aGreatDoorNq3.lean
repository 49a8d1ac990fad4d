import Derived.Test.Qxb6500275aGreatDoorNq2
set_option maxRecDepth 100000
set_option linter.unusedVariables false
set_option linter.unusedSimpArgs false
namespace Go.Proofs.Qxb6500275aGreatDoor
open Go Go.RowKit
theorem lift_step {m at_ j : Nat} (hm : m ≠ 0) (hl : m.log2 ≤ at_) (hj : j ≤ at_ - m.log2) : (m * 2 ^ j < 2 ^ at_ ↔ j < at_ - m.log2) ∧ m * 2 ^ j < 2 ^ (at_ + 1) := by
  have a1 : 2 ^ m.log2 ≤ m := Nat.log2_self_le hm
  have a2 : m < 2 ^ (m.log2 + 1) := Nat.lt_log2_self
  have hp : 0 < 2 ^ j := Nat.two_pow_pos _
  have b1 : 2 ^ (m.log2 + j) ≤ m * 2 ^ j := by rw [Nat.pow_add]; exact Nat.mul_le_mul_right _ a1
  have b2 : m * 2 ^ j < 2 ^ (m.log2 + 1 + j) := by rw [Nat.pow_add]; exact Nat.mul_lt_mul_of_pos_right a2 hp
  refine ⟨⟨fun h => ?_, fun h => ?_⟩, ?_⟩
  · refine Nat.lt_of_not_le fun hle => ?_
    have : 2 ^ at_ ≤ 2 ^ (m.log2 + j) := Nat.pow_le_pow_right (by decide) (by omega)
    omega
  · have : 2 ^ (m.log2 + 1 + j) ≤ 2 ^ at_ := Nat.pow_le_pow_right (by decide) (by omega)
    omega
  · have : 2 ^ (m.log2 + 1 + j) ≤ 2 ^ (at_ + 1) := Nat.pow_le_pow_right (by decide) (by omega)
    omega
set_option maxHeartbeats 4000000 in
theorem lift_54 (m : Nat) (e : Int) (hm : m ≠ 0) (hl : m.log2 ≤ 54) (he : -100000 ≤ e ∧ e ≤ 100000) (w : World) : Calls Tryz.prog 312 #[.int .u64 m, .int .i64 e, .int .i64 54] w (Pq w (.tuple #[.int .u64 (liftM m 54), .int .i64 (liftE m e 54)])) := by
  unfold liftM liftE
  obtain ⟨s, hs⟩ : ∃ s, 54 - m.log2 = s := ⟨_, rfl⟩
  have HS : Hid (∀ j, j ≤ s → (m * 2 ^ j < 18014398509481984 ↔ j < s) ∧ m * 2 ^ j < 36028797018963968) := fun j hj => by
    have := lift_step hm hl (j := j) (by omega)
    rw [hs] at this
    exact this
  have hs63 : s ≤ 54 := by omega
  rw [hs]
  clear hs hl hm
  go_enter Tryz.func312, Tryz.ntmps312
  go_wp2_with fail
  go_loopw [0, 1] (fun mm ee u => ∃ (j M : Nat), j ≤ s ∧ mm = .int .u64 M ∧ ee = .int .i64 (e - j) ∧ u = w ∧ Hid (M = m * 2 ^ j)) (fun _ ee _ => (intOf ee - (e - s)).toNat)
  case atStart => exact ⟨0, m, by omega, rfl, by simp, rfl, by show _ = _; simp⟩
  case round =>
    obtain ⟨j, M, hj, rfl, rfl, rfl, HM⟩ := hrel
    have h := HS.out j hj
    rw [← HM.out] at h
    by_cases hlt : j < s
    · have h1 := h.1.2 hlt
      have hz : (M : Int) / 18014398509481984 = 0 := by omega
      have hz2 : ((M : Int) / 18014398509481984 == 0) = true := by rw [hz]; rfl
      have hz3 : M / 18014398509481984 = 0 := by omega
      clear h
      go_wp2_with fail
      go_roundw
      case rel =>
        refine ⟨j + 1, M * 2, by omega, ?_, ?_, by trivial, ?_⟩
        · first | rfl | (congr 1; done) | (congr 1; omega)
        · first | rfl | (congr 1; done) | (congr 1; omega)
        · show _ = _
          rw [HM.out, Nat.pow_succ, Nat.mul_assoc]
      case measure => simp [intOf]; omega
    · have hje : j = s := by omega
      subst hje
      have h1 : 18014398509481984 ≤ M := by have := h.1; omega
      have hz2 : ((M : Int) / 18014398509481984 == 0) = false := by rw [beq_eq_false_iff_ne]; omega
      have hz3 : (M / 18014398509481984 == 0) = false := by rw [beq_eq_false_iff_ne]; omega
      clear h
      go_wp2_with fail
      refine bodyPost_ret (v := .tuple #[.int .u64 M, .int .i64 (e - j)]) (by simp [results, Tryz.results312, go_sem]) rfl ?_
      refine ⟨?_, rfl⟩
      rw [HM.out]
set_option maxHeartbeats 4000000 in
theorem lift_61 (m : Nat) (e : Int) (hm : m ≠ 0) (hl : m.log2 ≤ 61) (he : -100000 ≤ e ∧ e ≤ 100000) (w : World) : Calls Tryz.prog 312 #[.int .u64 m, .int .i64 e, .int .i64 61] w (Pq w (.tuple #[.int .u64 (liftM m 61), .int .i64 (liftE m e 61)])) := by
  unfold liftM liftE
  obtain ⟨s, hs⟩ : ∃ s, 61 - m.log2 = s := ⟨_, rfl⟩
  have HS : Hid (∀ j, j ≤ s → (m * 2 ^ j < 2305843009213693952 ↔ j < s) ∧ m * 2 ^ j < 4611686018427387904) := fun j hj => by
    have := lift_step hm hl (j := j) (by omega)
    rw [hs] at this
    exact this
  have hs63 : s ≤ 61 := by omega
  rw [hs]
  clear hs hl hm
  go_enter Tryz.func312, Tryz.ntmps312
  go_wp2_with fail
  go_loopw [0, 1] (fun mm ee u => ∃ (j M : Nat), j ≤ s ∧ mm = .int .u64 M ∧ ee = .int .i64 (e - j) ∧ u = w ∧ Hid (M = m * 2 ^ j)) (fun _ ee _ => (intOf ee - (e - s)).toNat)
  case atStart => exact ⟨0, m, by omega, rfl, by simp, rfl, by show _ = _; simp⟩
  case round =>
    obtain ⟨j, M, hj, rfl, rfl, rfl, HM⟩ := hrel
    have h := HS.out j hj
    rw [← HM.out] at h
    by_cases hlt : j < s
    · have h1 := h.1.2 hlt
      have hz : (M : Int) / 2305843009213693952 = 0 := by omega
      have hz2 : ((M : Int) / 2305843009213693952 == 0) = true := by rw [hz]; rfl
      have hz3 : M / 2305843009213693952 = 0 := by omega
      clear h
      go_wp2_with fail
      go_roundw
      case rel =>
        refine ⟨j + 1, M * 2, by omega, ?_, ?_, by trivial, ?_⟩
        · first | rfl | (congr 1; done) | (congr 1; omega)
        · first | rfl | (congr 1; done) | (congr 1; omega)
        · show _ = _
          rw [HM.out, Nat.pow_succ, Nat.mul_assoc]
      case measure => simp [intOf]; omega
    · have hje : j = s := by omega
      subst hje
      have h1 : 2305843009213693952 ≤ M := by have := h.1; omega
      have hz2 : ((M : Int) / 2305843009213693952 == 0) = false := by rw [beq_eq_false_iff_ne]; omega
      have hz3 : (M / 2305843009213693952 == 0) = false := by rw [beq_eq_false_iff_ne]; omega
      clear h
      go_wp2_with fail
      refine bodyPost_ret (v := .tuple #[.int .u64 M, .int .i64 (e - j)]) (by simp [results, Tryz.results312, go_sem]) rfl ?_
      refine ⟨?_, rfl⟩
      rw [HM.out]
set_option maxHeartbeats 4000000 in
theorem lift_62 (m : Nat) (e : Int) (hm : m ≠ 0) (hl : m.log2 ≤ 62) (he : -100000 ≤ e ∧ e ≤ 100000) (w : World) : Calls Tryz.prog 312 #[.int .u64 m, .int .i64 e, .int .i64 62] w (Pq w (.tuple #[.int .u64 (liftM m 62), .int .i64 (liftE m e 62)])) := by
  unfold liftM liftE
  obtain ⟨s, hs⟩ : ∃ s, 62 - m.log2 = s := ⟨_, rfl⟩
  have HS : Hid (∀ j, j ≤ s → (m * 2 ^ j < 4611686018427387904 ↔ j < s) ∧ m * 2 ^ j < 9223372036854775808) := fun j hj => by
    have := lift_step hm hl (j := j) (by omega)
    rw [hs] at this
    exact this
  have hs63 : s ≤ 62 := by omega
  rw [hs]
  clear hs hl hm
  go_enter Tryz.func312, Tryz.ntmps312
  go_wp2_with fail
  go_loopw [0, 1] (fun mm ee u => ∃ (j M : Nat), j ≤ s ∧ mm = .int .u64 M ∧ ee = .int .i64 (e - j) ∧ u = w ∧ Hid (M = m * 2 ^ j)) (fun _ ee _ => (intOf ee - (e - s)).toNat)
  case atStart => exact ⟨0, m, by omega, rfl, by simp, rfl, by show _ = _; simp⟩
  case round =>
    obtain ⟨j, M, hj, rfl, rfl, rfl, HM⟩ := hrel
    have h := HS.out j hj
    rw [← HM.out] at h
    by_cases hlt : j < s
    · have h1 := h.1.2 hlt
      have hz : (M : Int) / 4611686018427387904 = 0 := by omega
      have hz2 : ((M : Int) / 4611686018427387904 == 0) = true := by rw [hz]; rfl
      have hz3 : M / 4611686018427387904 = 0 := by omega
      clear h
      go_wp2_with fail
      go_roundw
      case rel =>
        refine ⟨j + 1, M * 2, by omega, ?_, ?_, by trivial, ?_⟩
        · first | rfl | (congr 1; done) | (congr 1; omega)
        · first | rfl | (congr 1; done) | (congr 1; omega)
        · show _ = _
          rw [HM.out, Nat.pow_succ, Nat.mul_assoc]
      case measure => simp [intOf]; omega
    · have hje : j = s := by omega
      subst hje
      have h1 : 4611686018427387904 ≤ M := by have := h.1; omega
      have hz2 : ((M : Int) / 4611686018427387904 == 0) = false := by rw [beq_eq_false_iff_ne]; omega
      have hz3 : (M / 4611686018427387904 == 0) = false := by rw [beq_eq_false_iff_ne]; omega
      clear h
      go_wp2_with fail
      refine bodyPost_ret (v := .tuple #[.int .u64 M, .int .i64 (e - j)]) (by simp [results, Tryz.results312, go_sem]) rfl ?_
      refine ⟨?_, rfl⟩
      rw [HM.out]
set_option maxHeartbeats 4000000 in
theorem lift_63 (m : Nat) (e : Int) (hm : m ≠ 0) (hl : m.log2 ≤ 63) (he : -100000 ≤ e ∧ e ≤ 100000) (w : World) : Calls Tryz.prog 312 #[.int .u64 m, .int .i64 e, .int .i64 63] w (Pq w (.tuple #[.int .u64 (liftM m 63), .int .i64 (liftE m e 63)])) := by
  unfold liftM liftE
  obtain ⟨s, hs⟩ : ∃ s, 63 - m.log2 = s := ⟨_, rfl⟩
  have HS : Hid (∀ j, j ≤ s → (m * 2 ^ j < 9223372036854775808 ↔ j < s) ∧ m * 2 ^ j < 18446744073709551616) := fun j hj => by
    have := lift_step hm hl (j := j) (by omega)
    rw [hs] at this
    exact this
  have hs63 : s ≤ 63 := by omega
  rw [hs]
  clear hs hl hm
  go_enter Tryz.func312, Tryz.ntmps312
  go_wp2_with fail
  go_loopw [0, 1] (fun mm ee u => ∃ (j M : Nat), j ≤ s ∧ mm = .int .u64 M ∧ ee = .int .i64 (e - j) ∧ u = w ∧ Hid (M = m * 2 ^ j)) (fun _ ee _ => (intOf ee - (e - s)).toNat)
  case atStart => exact ⟨0, m, by omega, rfl, by simp, rfl, by show _ = _; simp⟩
  case round =>
    obtain ⟨j, M, hj, rfl, rfl, rfl, HM⟩ := hrel
    have h := HS.out j hj
    rw [← HM.out] at h
    by_cases hlt : j < s
    · have h1 := h.1.2 hlt
      have hz : (M : Int) / 9223372036854775808 = 0 := by omega
      have hz2 : ((M : Int) / 9223372036854775808 == 0) = true := by rw [hz]; rfl
      have hz3 : M / 9223372036854775808 = 0 := by omega
      clear h
      go_wp2_with fail
      go_roundw
      case rel =>
        refine ⟨j + 1, M * 2, by omega, ?_, ?_, by trivial, ?_⟩
        · first | rfl | (congr 1; done) | (congr 1; omega)
        · first | rfl | (congr 1; done) | (congr 1; omega)
        · show _ = _
          rw [HM.out, Nat.pow_succ, Nat.mul_assoc]
      case measure => simp [intOf]; omega
    · have hje : j = s := by omega
      subst hje
      have h1 : 9223372036854775808 ≤ M := by have := h.1; omega
      have hz2 : ((M : Int) / 9223372036854775808 == 0) = false := by rw [beq_eq_false_iff_ne]; omega
      have hz3 : (M / 9223372036854775808 == 0) = false := by rw [beq_eq_false_iff_ne]; omega
      clear h
      go_wp2_with fail
      refine bodyPost_ret (v := .tuple #[.int .u64 M, .int .i64 (e - j)]) (by simp [results, Tryz.results312, go_sem]) rfl ?_
      refine ⟨?_, rfl⟩
      rw [HM.out]
end Go.Proofs.Qxb6500275aGreatDoor
