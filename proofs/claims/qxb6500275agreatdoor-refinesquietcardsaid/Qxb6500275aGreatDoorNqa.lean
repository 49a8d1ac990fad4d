import Derived.Test.Qxb6500275aGreatDoorNq9
set_option maxRecDepth 100000
set_option linter.unusedVariables false
set_option linter.unusedSimpArgs false
namespace Go.Proofs.Qxb6500275aGreatDoor
open Go Go.RowKit
theorem u64_eqa {a b : Int} (h : a = b) : Ending.returned (Value.int .u64 a) = Ending.returned (Value.int .u64 b) := by rw [h]
theorem flag_c (b : Bool) (w : World) : Calls Tryz.prog 284 #[.bool b] w (Pq w (.int .u64 (if b = true then 1 else 0))) := by
  cases b
  · go_enter Tryz.func284, Tryz.ntmps284
    go_wp2
    refine bodyPost_ret (v := .int .u64 0) (by simp [results, Tryz.results284, go_sem]) rfl ?_
    exact ⟨rfl, rfl⟩
  · go_enter Tryz.func284, Tryz.ntmps284
    go_wp2
    refine bodyPost_ret (v := .int .u64 1) (by simp [results, Tryz.results284, go_sem]) rfl ?_
    exact ⟨rfl, rfl⟩
set_option maxHeartbeats 1000000 in
theorem minus_32 (v : Nat) (hv : v < 4294967296) (w : World) : Calls Tryz.prog 298 #[.int .i64 32, .int .u64 v] w (Pq w (.int .u64 (((4294967296 - v) % 4294967296 : Nat) : Int))) := by
  have h3 := and_mask (4294967295 - (v : Int) + 1) 32 4294967295 (by decide) (by decide) (by omega)
  rw [show (4294967295 - (v : Int) + 1).toNat % 2 ^ 32 = (4294967296 - v) % 4294967296 by omega] at h3
  generalize hX : (4294967296 - v) % 4294967296 = X at *
  have HX : Hid ((4294967296 - v) % 4294967296 = X) := hX
  clear hX
  go_enter Tryz.func298, Tryz.ntmps298
  go_wp2_with (first | (go_at_call 294; refine (mask_32 _).mono ?_; rintro en w2 ⟨rfl, rfl⟩))
  refine bodyPost_ret (v := .int .u64 (X : Int)) (by simp [results, Tryz.results298, go_sem]) rfl ?_
  exact ⟨rfl, rfl⟩
set_option maxHeartbeats 1000000 in
theorem mag_32 (v : Nat) (hv : v < 4294967296) (w : World) : Calls Tryz.prog 310 #[.int .i64 32, .int .u64 v] w (Pq w (.int .u64 ((if 2147483648 ≤ v then 4294967296 - v else v : Nat) : Int))) := by
  by_cases h : 2147483648 ≤ v
  · rw [if_pos h]
    have g : (2147483648 : Int) ≤ (v : Int) := by omega
    have hc := minus_32 v hv
    rw [show (4294967296 - v) % 4294967296 = 4294967296 - v by omega] at hc
    go_enter Tryz.func310, Tryz.ntmps310
    go_wp2_with (first | (go_at_call 293; refine (top_32 _).mono ?_; rintro en w2 ⟨rfl, rfl⟩) | (go_at_call 298; refine (hc _).mono ?_; rintro en w2 ⟨rfl, rfl⟩))
    refine bodyPost_ret (v := .int .u64 ((4294967296 - v : Nat) : Int)) (by simp [results, Tryz.results310, go_sem]) rfl ?_
    exact ⟨rfl, rfl⟩
  · rw [if_neg h]
    have g : ¬ (2147483648 : Int) ≤ (v : Int) := by omega
    have g2 : decide ((2147483648 : Int) ≤ (v : Int)) = false := decide_eq_false g
    go_enter Tryz.func310, Tryz.ntmps310
    go_wp2_with (first | (go_at_call 293; refine (top_32 _).mono ?_; rintro en w2 ⟨rfl, rfl⟩))
    refine bodyPost_ret (v := .int .u64 (v : Int)) (by simp [results, Tryz.results310, go_sem]) rfl ?_
    exact ⟨rfl, rfl⟩
set_option maxHeartbeats 1000000 in
theorem key_32 (v : Nat) (hv : v < 4294967296) (w : World) : Calls Tryz.prog 297 #[.int .i64 32, .int .u64 v] w (Pq w (.int .u64 ((if 2147483648 ≤ v then 4294967295 - v else v + 2147483648 : Nat) : Int))) := by
  by_cases h : 2147483648 ≤ v
  · rw [if_pos h]
    have g : (2147483648 : Int) ≤ (v : Int) := by omega
    go_enter Tryz.func297, Tryz.ntmps297
    go_wp2_with (first | (go_at_call 293; refine (top_32 _).mono ?_; rintro en w2 ⟨rfl, rfl⟩) | (go_at_call 294; refine (mask_32 _).mono ?_; rintro en w2 ⟨rfl, rfl⟩))
    refine bodyPost_ret (v := .int .u64 (4294967295 - (v : Int))) (by simp [results, Tryz.results297, go_sem]) rfl ?_
    exact ⟨u64_eqa (by omega), rfl⟩
  · rw [if_neg h]
    have g : ¬ (2147483648 : Int) ≤ (v : Int) := by omega
    have g2 : decide ((2147483648 : Int) ≤ (v : Int)) = false := decide_eq_false g
    go_enter Tryz.func297, Tryz.ntmps297
    go_wp2_with (first | (go_at_call 293; refine (top_32 _).mono ?_; rintro en w2 ⟨rfl, rfl⟩))
    refine bodyPost_ret (v := .int .u64 ((v : Int) + 2147483648)) (by simp [results, Tryz.results297, go_sem]) rfl ?_
    exact ⟨u64_eqa (by omega), rfl⟩
set_option maxHeartbeats 1000000 in
theorem minus_64 (v : Nat) (hv : v < 18446744073709551616) (w : World) : Calls Tryz.prog 298 #[.int .i64 64, .int .u64 v] w (Pq w (.int .u64 (((18446744073709551616 - v) % 18446744073709551616 : Nat) : Int))) := by
  have h3 := and_mask (((18446744073709551616 - v) % 18446744073709551616 : Nat) : Int) 64 18446744073709551615 (by decide) (by decide) (by omega)
  rw [show (((18446744073709551616 - v) % 18446744073709551616 : Nat) : Int).toNat % 2 ^ 64 = (18446744073709551616 - v) % 18446744073709551616 by omega] at h3
  have h4 : IntKind.u64.wrap (18446744073709551615 - (v : Int) + 1) = (((18446744073709551616 - v) % 18446744073709551616 : Nat) : Int) := by rw [wrap_u64]; omega
  generalize hX : (18446744073709551616 - v) % 18446744073709551616 = X at *
  have HX : Hid ((18446744073709551616 - v) % 18446744073709551616 = X) := hX
  clear hX
  go_enter Tryz.func298, Tryz.ntmps298
  go_wp2_with (first | (go_at_call 294; refine (mask_64 _).mono ?_; rintro en w2 ⟨rfl, rfl⟩))
  refine bodyPost_ret (v := .int .u64 (X : Int)) (by simp [results, Tryz.results298, go_sem]) rfl ?_
  exact ⟨rfl, rfl⟩
set_option maxHeartbeats 1000000 in
theorem mag_64 (v : Nat) (hv : v < 18446744073709551616) (w : World) : Calls Tryz.prog 310 #[.int .i64 64, .int .u64 v] w (Pq w (.int .u64 ((if 9223372036854775808 ≤ v then 18446744073709551616 - v else v : Nat) : Int))) := by
  by_cases h : 9223372036854775808 ≤ v
  · rw [if_pos h]
    have g : (9223372036854775808 : Int) ≤ (v : Int) := by omega
    have hc := minus_64 v hv
    rw [show (18446744073709551616 - v) % 18446744073709551616 = 18446744073709551616 - v by omega] at hc
    go_enter Tryz.func310, Tryz.ntmps310
    go_wp2_with (first | (go_at_call 293; refine (top_64 _).mono ?_; rintro en w2 ⟨rfl, rfl⟩) | (go_at_call 298; refine (hc _).mono ?_; rintro en w2 ⟨rfl, rfl⟩))
    refine bodyPost_ret (v := .int .u64 ((18446744073709551616 - v : Nat) : Int)) (by simp [results, Tryz.results310, go_sem]) rfl ?_
    exact ⟨rfl, rfl⟩
  · rw [if_neg h]
    have g : ¬ (9223372036854775808 : Int) ≤ (v : Int) := by omega
    have g2 : decide ((9223372036854775808 : Int) ≤ (v : Int)) = false := decide_eq_false g
    go_enter Tryz.func310, Tryz.ntmps310
    go_wp2_with (first | (go_at_call 293; refine (top_64 _).mono ?_; rintro en w2 ⟨rfl, rfl⟩))
    refine bodyPost_ret (v := .int .u64 (v : Int)) (by simp [results, Tryz.results310, go_sem]) rfl ?_
    exact ⟨rfl, rfl⟩
set_option maxHeartbeats 1000000 in
theorem key_64 (v : Nat) (hv : v < 18446744073709551616) (w : World) : Calls Tryz.prog 297 #[.int .i64 64, .int .u64 v] w (Pq w (.int .u64 ((if 9223372036854775808 ≤ v then 18446744073709551615 - v else v + 9223372036854775808 : Nat) : Int))) := by
  by_cases h : 9223372036854775808 ≤ v
  · rw [if_pos h]
    have g : (9223372036854775808 : Int) ≤ (v : Int) := by omega
    go_enter Tryz.func297, Tryz.ntmps297
    go_wp2_with (first | (go_at_call 293; refine (top_64 _).mono ?_; rintro en w2 ⟨rfl, rfl⟩) | (go_at_call 294; refine (mask_64 _).mono ?_; rintro en w2 ⟨rfl, rfl⟩))
    refine bodyPost_ret (v := .int .u64 (18446744073709551615 - (v : Int))) (by simp [results, Tryz.results297, go_sem]) rfl ?_
    exact ⟨u64_eqa (by omega), rfl⟩
  · rw [if_neg h]
    have g : ¬ (9223372036854775808 : Int) ≤ (v : Int) := by omega
    have g2 : decide ((9223372036854775808 : Int) ≤ (v : Int)) = false := decide_eq_false g
    go_enter Tryz.func297, Tryz.ntmps297
    go_wp2_with (first | (go_at_call 293; refine (top_64 _).mono ?_; rintro en w2 ⟨rfl, rfl⟩))
    refine bodyPost_ret (v := .int .u64 ((v : Int) + 9223372036854775808)) (by simp [results, Tryz.results297, go_sem]) rfl ?_
    exact ⟨u64_eqa (by omega), rfl⟩
end Go.Proofs.Qxb6500275aGreatDoor
