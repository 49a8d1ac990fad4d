import Derived.Test.Qxb6500275aGreatDoorFld
import Derived.Test.Qxb6500275aGreatDoorAp2
set_option maxRecDepth 100000
set_option linter.unusedVariables false
set_option linter.unusedSimpArgs false
namespace Go.Proofs.Qxb6500275aGreatDoor
open Go Go.RowKit
/- a function that answers and leaves all as it was -/
def Pq (w : World) (v : Value) (en : Ending) (w' : World) : Prop := en = .returned v ∧ w' = w
set_option maxHeartbeats 1000000 in
theorem top_32 (w : World) : Calls Tryz.prog 293 #[.int .i64 32] w (Pq w (.int .u64 2147483648)) := by
  go_enter Tryz.func293, Tryz.ntmps293
  go_wp2
  refine bodyPost_ret (v := .int .u64 2147483648) (by simp [results, Tryz.results293, go_sem]) rfl ?_
  exact ⟨rfl, rfl⟩
set_option maxHeartbeats 1000000 in
theorem mask_32 (w : World) : Calls Tryz.prog 294 #[.int .i64 32] w (Pq w (.int .u64 4294967295)) := by
  go_enter Tryz.func294, Tryz.ntmps294
  go_wp2
  refine bodyPost_ret (v := .int .u64 4294967295) (by simp [results, Tryz.results294, go_sem]) rfl ?_
  exact ⟨rfl, rfl⟩
set_option maxHeartbeats 1000000 in
theorem prec_32 (w : World) : Calls Tryz.prog 314 #[.int .i64 32] w (Pq w (.int .i64 24)) := by
  go_enter Tryz.func314, Tryz.ntmps314
  go_wp2
  refine bodyPost_ret (v := .int .i64 24) (by simp [results, Tryz.results314, go_sem]) rfl ?_
  exact ⟨rfl, rfl⟩
set_option maxHeartbeats 1000000 in
theorem bias_32 (w : World) : Calls Tryz.prog 315 #[.int .i64 32] w (Pq w (.int .i64 127)) := by
  go_enter Tryz.func315, Tryz.ntmps315
  go_wp2
  refine bodyPost_ret (v := .int .i64 127) (by simp [results, Tryz.results315, go_sem]) rfl ?_
  exact ⟨rfl, rfl⟩
set_option maxHeartbeats 1000000 in
theorem canon_32 (w : World) : Calls Tryz.prog 302 #[.int .i64 32] w (Pq w (.int .u64 2143289344)) := by
  go_enter Tryz.func302, Tryz.ntmps302
  go_wp2
  refine bodyPost_ret (v := .int .u64 2143289344) (by simp [results, Tryz.results302, go_sem]) rfl ?_
  exact ⟨rfl, rfl⟩
set_option maxHeartbeats 1000000 in
theorem infOf_32 (w : World) : Calls Tryz.prog 309 #[.int .i64 32] w (Pq w (.int .u64 2139095040)) := by
  go_enter Tryz.func309, Tryz.ntmps309
  go_wp2_with (first | (go_at_call 315; refine (bias_32 _).mono ?_; rintro en w2 ⟨rfl, rfl⟩) | (go_at_call 314; refine (prec_32 _).mono ?_; rintro en w2 ⟨rfl, rfl⟩))
  refine bodyPost_ret (v := .int .u64 2139095040) (by simp [results, Tryz.results309, go_sem]) rfl ?_
  exact ⟨rfl, rfl⟩
set_option maxHeartbeats 1000000 in
theorem sign_32_true (w : World) : Calls Tryz.prog 316 #[.int .i64 32, .bool true] w (Pq w (.int .u64 2147483648)) := by
  go_enter Tryz.func316, Tryz.ntmps316
  go_wp2_with (first | (go_at_call 293; refine (top_32 _).mono ?_; rintro en w2 ⟨rfl, rfl⟩))
  refine bodyPost_ret (v := .int .u64 2147483648) (by simp [results, Tryz.results316, go_sem]) rfl ?_
  exact ⟨rfl, rfl⟩
set_option maxHeartbeats 1000000 in
theorem infinity_32_true (w : World) : Calls Tryz.prog 317 #[.int .i64 32, .bool true] w (Pq w (.int .u64 4286578688)) := by
  go_enter Tryz.func317, Tryz.ntmps317
  go_wp2_with (first | (go_at_call 316; refine (sign_32_true _).mono ?_; rintro en w2 ⟨rfl, rfl⟩) | (go_at_call 309; refine (infOf_32 _).mono ?_; rintro en w2 ⟨rfl, rfl⟩))
  refine bodyPost_ret (v := .int .u64 4286578688) (by simp [results, Tryz.results317, go_sem]) rfl ?_
  exact ⟨rfl, rfl⟩
set_option maxHeartbeats 1000000 in
theorem sign_32_false (w : World) : Calls Tryz.prog 316 #[.int .i64 32, .bool false] w (Pq w (.int .u64 0)) := by
  go_enter Tryz.func316, Tryz.ntmps316
  go_wp2_with (first | (go_at_call 293; refine (top_32 _).mono ?_; rintro en w2 ⟨rfl, rfl⟩))
  refine bodyPost_ret (v := .int .u64 0) (by simp [results, Tryz.results316, go_sem]) rfl ?_
  exact ⟨rfl, rfl⟩
set_option maxHeartbeats 1000000 in
theorem infinity_32_false (w : World) : Calls Tryz.prog 317 #[.int .i64 32, .bool false] w (Pq w (.int .u64 2139095040)) := by
  go_enter Tryz.func317, Tryz.ntmps317
  go_wp2_with (first | (go_at_call 316; refine (sign_32_false _).mono ?_; rintro en w2 ⟨rfl, rfl⟩) | (go_at_call 309; refine (infOf_32 _).mono ?_; rintro en w2 ⟨rfl, rfl⟩))
  refine bodyPost_ret (v := .int .u64 2139095040) (by simp [results, Tryz.results317, go_sem]) rfl ?_
  exact ⟨rfl, rfl⟩
set_option maxHeartbeats 1000000 in
theorem top_64 (w : World) : Calls Tryz.prog 293 #[.int .i64 64] w (Pq w (.int .u64 9223372036854775808)) := by
  go_enter Tryz.func293, Tryz.ntmps293
  go_wp2
  refine bodyPost_ret (v := .int .u64 9223372036854775808) (by simp [results, Tryz.results293, go_sem]) rfl ?_
  exact ⟨rfl, rfl⟩
set_option maxHeartbeats 1000000 in
theorem mask_64 (w : World) : Calls Tryz.prog 294 #[.int .i64 64] w (Pq w (.int .u64 18446744073709551615)) := by
  go_enter Tryz.func294, Tryz.ntmps294
  go_wp2
  refine bodyPost_ret (v := .int .u64 18446744073709551615) (by simp [results, Tryz.results294, go_sem]) rfl ?_
  exact ⟨rfl, rfl⟩
set_option maxHeartbeats 1000000 in
theorem prec_64 (w : World) : Calls Tryz.prog 314 #[.int .i64 64] w (Pq w (.int .i64 53)) := by
  go_enter Tryz.func314, Tryz.ntmps314
  go_wp2
  refine bodyPost_ret (v := .int .i64 53) (by simp [results, Tryz.results314, go_sem]) rfl ?_
  exact ⟨rfl, rfl⟩
set_option maxHeartbeats 1000000 in
theorem bias_64 (w : World) : Calls Tryz.prog 315 #[.int .i64 64] w (Pq w (.int .i64 1023)) := by
  go_enter Tryz.func315, Tryz.ntmps315
  go_wp2
  refine bodyPost_ret (v := .int .i64 1023) (by simp [results, Tryz.results315, go_sem]) rfl ?_
  exact ⟨rfl, rfl⟩
set_option maxHeartbeats 1000000 in
theorem canon_64 (w : World) : Calls Tryz.prog 302 #[.int .i64 64] w (Pq w (.int .u64 9221120237041090560)) := by
  go_enter Tryz.func302, Tryz.ntmps302
  go_wp2
  refine bodyPost_ret (v := .int .u64 9221120237041090560) (by simp [results, Tryz.results302, go_sem]) rfl ?_
  exact ⟨rfl, rfl⟩
set_option maxHeartbeats 1000000 in
theorem infOf_64 (w : World) : Calls Tryz.prog 309 #[.int .i64 64] w (Pq w (.int .u64 9218868437227405312)) := by
  go_enter Tryz.func309, Tryz.ntmps309
  go_wp2_with (first | (go_at_call 315; refine (bias_64 _).mono ?_; rintro en w2 ⟨rfl, rfl⟩) | (go_at_call 314; refine (prec_64 _).mono ?_; rintro en w2 ⟨rfl, rfl⟩))
  refine bodyPost_ret (v := .int .u64 9218868437227405312) (by simp [results, Tryz.results309, go_sem]) rfl ?_
  exact ⟨rfl, rfl⟩
set_option maxHeartbeats 1000000 in
theorem sign_64_true (w : World) : Calls Tryz.prog 316 #[.int .i64 64, .bool true] w (Pq w (.int .u64 9223372036854775808)) := by
  go_enter Tryz.func316, Tryz.ntmps316
  go_wp2_with (first | (go_at_call 293; refine (top_64 _).mono ?_; rintro en w2 ⟨rfl, rfl⟩))
  refine bodyPost_ret (v := .int .u64 9223372036854775808) (by simp [results, Tryz.results316, go_sem]) rfl ?_
  exact ⟨rfl, rfl⟩
set_option maxHeartbeats 1000000 in
theorem infinity_64_true (w : World) : Calls Tryz.prog 317 #[.int .i64 64, .bool true] w (Pq w (.int .u64 18442240474082181120)) := by
  go_enter Tryz.func317, Tryz.ntmps317
  go_wp2_with (first | (go_at_call 316; refine (sign_64_true _).mono ?_; rintro en w2 ⟨rfl, rfl⟩) | (go_at_call 309; refine (infOf_64 _).mono ?_; rintro en w2 ⟨rfl, rfl⟩))
  refine bodyPost_ret (v := .int .u64 18442240474082181120) (by simp [results, Tryz.results317, go_sem]) rfl ?_
  exact ⟨rfl, rfl⟩
set_option maxHeartbeats 1000000 in
theorem sign_64_false (w : World) : Calls Tryz.prog 316 #[.int .i64 64, .bool false] w (Pq w (.int .u64 0)) := by
  go_enter Tryz.func316, Tryz.ntmps316
  go_wp2_with (first | (go_at_call 293; refine (top_64 _).mono ?_; rintro en w2 ⟨rfl, rfl⟩))
  refine bodyPost_ret (v := .int .u64 0) (by simp [results, Tryz.results316, go_sem]) rfl ?_
  exact ⟨rfl, rfl⟩
set_option maxHeartbeats 1000000 in
theorem infinity_64_false (w : World) : Calls Tryz.prog 317 #[.int .i64 64, .bool false] w (Pq w (.int .u64 9218868437227405312)) := by
  go_enter Tryz.func317, Tryz.ntmps317
  go_wp2_with (first | (go_at_call 316; refine (sign_64_false _).mono ?_; rintro en w2 ⟨rfl, rfl⟩) | (go_at_call 309; refine (infOf_64 _).mono ?_; rintro en w2 ⟨rfl, rfl⟩))
  refine bodyPost_ret (v := .int .u64 9218868437227405312) (by simp [results, Tryz.results317, go_sem]) rfl ?_
  exact ⟨rfl, rfl⟩
end Go.Proofs.Qxb6500275aGreatDoor
