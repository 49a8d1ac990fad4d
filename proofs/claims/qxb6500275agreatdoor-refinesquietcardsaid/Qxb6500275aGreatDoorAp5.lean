import Derived.Test.Qxb6500275aGreatDoorAp4
import Derived.LoopN
set_option maxRecDepth 100000
set_option linter.unusedVariables false
set_option linter.unusedSimpArgs false
namespace Go.Proofs.Qxb6500275aGreatDoor
open Go Go.RowKit
theorem arrLen217 : Tryz.prog.arrayLen 217 = 20 := by kernel_rfl
theorem sizeOfU217 (w : World) : (sizeOf (Tryz.prog.elem 217)).run Tryz.prog w = .ok 1 w := by
  have e : Tryz.prog.elem 217 = 5 := by kernel_rfl
  have h : (sizeOf 5).run Tryz.prog w = .ok 1 w := by kernel_rfl
  rw [e, h]
theorem slice217 (B n : Nat) (h : 1 ≤ n ∧ n ≤ 20) (w : World) : (Instr.sliceAt 217 (.pointer (some ⟨B, 0, none⟩)) (some (.int .i64 (20 - (n : Int)))) none none).run Tryz.prog w = .ok (.slice (some ⟨B, 20 - n, none⟩) n n) w := by
  rw [run_sliceAt_array_l w 217 ⟨B, 0, none⟩ (by kernel_rfl) .i64 (20 - (n : Int)) (by omega) (by rw [arrLen217]; omega), sizeOfU217, arrLen217]
  have e1 : (20 - (n : Int)).toNat = 20 - n := by omega
  simp only [Result.andThen_ok, slicedAt, e1]
  rw [if_neg (by omega)]
  have e2 : 20 - (20 - n) = n := by omega
  rw [e2, add_non, Nat.mul_one, Nat.zero_add]
def A217 : Array Value := #[.int .u8 0, .int .u8 0, .int .u8 0, .int .u8 0, .int .u8 0, .int .u8 0, .int .u8 0, .int .u8 0, .int .u8 0, .int .u8 0, .int .u8 0, .int .u8 0, .int .u8 0, .int .u8 0, .int .u8 0, .int .u8 0, .int .u8 0, .int .u8 0, .int .u8 0, .int .u8 0]
set_option maxHeartbeats 4000000 in
theorem itoa_m1 (w : World) : Calls Tryz.prog 71 #[.int .i64 (-1)] w (fun en w' => en = .returned (.string ⟨⟨[45, 49]⟩⟩) ∧ Kp (fun _ => False) w w') := by
  have hsl := slice217 w.heap.size 1 (by decide)
  have hcv := run_convert_bytes_back (P := Tryz.prog) (w.alloc (.cells #[.int .u8 0, .int .u8 0, .int .u8 0, .int .u8 0, .int .u8 0, .int .u8 0, .int .u8 0, .int .u8 0, .int .u8 0, .int .u8 0, .int .u8 0, .int .u8 0, .int .u8 0, .int .u8 0, .int .u8 0, .int .u8 0, .int .u8 0, .int .u8 0, .int .u8 0, .int .u8 49] 217)) 104 9 5 ⟨w.heap.size, 19, none⟩ 1 [49] (by kernel_rfl) (by kernel_rfl) (by kernel_rfl) (by
    intro j hj
    rw [add_non, World.cell?_alloc_at _ _ _ _ rfl]
    have hj2 : j < 1 := by simpa using hj
    have : j = 0 := by omega
    rcases this with rfl <;> rfl)
  simp only [List.length_cons, List.length_nil, Nat.zero_add, Nat.reduceAdd] at hcv
  go_enter Tryz.func71, Tryz.ntmps71
  go_wp2
  refine wp_loop_rounds 4 ?_
  repeat any_goals (rw [rounds_succ]; go_wp2)
  go_wp2_with (simp only [hcv])
  refine bodyPost_ret (v := .string ⟨⟨[45, 49]⟩⟩) (by simp [results, Tryz.results71, go_sem]; kernel_rfl) rfl ?_
  exact ⟨rfl, (Kp.refl _ _).alloc _⟩
theorem itoa_0 (w : World) : Calls Tryz.prog 71 #[.int .i64 0] w (fun en w' => en = .returned (.string ⟨⟨[48]⟩⟩) ∧ Kp (fun _ => False) w w') := by
  go_enter Tryz.func71, Tryz.ntmps71
  go_wp2
  refine bodyPost_ret (v := .string ⟨⟨[48]⟩⟩) (by simp [results, Tryz.results71, go_sem]) rfl ?_
  exact ⟨rfl, Kp.refl _ _⟩
set_option maxHeartbeats 4000000 in
theorem itoa_1 (w : World) : Calls Tryz.prog 71 #[.int .i64 (1)] w (fun en w' => en = .returned (.string ⟨⟨[49]⟩⟩) ∧ Kp (fun _ => False) w w') := by
  have hsl := slice217 w.heap.size 1 (by decide)
  have hcv := run_convert_bytes_back (P := Tryz.prog) (w.alloc (.cells #[.int .u8 0, .int .u8 0, .int .u8 0, .int .u8 0, .int .u8 0, .int .u8 0, .int .u8 0, .int .u8 0, .int .u8 0, .int .u8 0, .int .u8 0, .int .u8 0, .int .u8 0, .int .u8 0, .int .u8 0, .int .u8 0, .int .u8 0, .int .u8 0, .int .u8 0, .int .u8 49] 217)) 104 9 5 ⟨w.heap.size, 19, none⟩ 1 [49] (by kernel_rfl) (by kernel_rfl) (by kernel_rfl) (by
    intro j hj
    rw [add_non, World.cell?_alloc_at _ _ _ _ rfl]
    have hj2 : j < 1 := by simpa using hj
    have : j = 0 := by omega
    rcases this with rfl <;> rfl)
  simp only [List.length_cons, List.length_nil, Nat.zero_add, Nat.reduceAdd] at hcv
  go_enter Tryz.func71, Tryz.ntmps71
  go_wp2
  refine wp_loop_rounds 4 ?_
  repeat any_goals (rw [rounds_succ]; go_wp2)
  go_wp2_with (simp only [hcv])
  refine bodyPost_ret (v := .string ⟨⟨[49]⟩⟩) (by simp [results, Tryz.results71, go_sem]) rfl ?_
  exact ⟨rfl, (Kp.refl _ _).alloc _⟩
set_option maxHeartbeats 4000000 in
theorem itoa_2 (w : World) : Calls Tryz.prog 71 #[.int .i64 (2)] w (fun en w' => en = .returned (.string ⟨⟨[50]⟩⟩) ∧ Kp (fun _ => False) w w') := by
  have hsl := slice217 w.heap.size 1 (by decide)
  have hcv := run_convert_bytes_back (P := Tryz.prog) (w.alloc (.cells #[.int .u8 0, .int .u8 0, .int .u8 0, .int .u8 0, .int .u8 0, .int .u8 0, .int .u8 0, .int .u8 0, .int .u8 0, .int .u8 0, .int .u8 0, .int .u8 0, .int .u8 0, .int .u8 0, .int .u8 0, .int .u8 0, .int .u8 0, .int .u8 0, .int .u8 0, .int .u8 50] 217)) 104 9 5 ⟨w.heap.size, 19, none⟩ 1 [50] (by kernel_rfl) (by kernel_rfl) (by kernel_rfl) (by
    intro j hj
    rw [add_non, World.cell?_alloc_at _ _ _ _ rfl]
    have hj2 : j < 1 := by simpa using hj
    have : j = 0 := by omega
    rcases this with rfl <;> rfl)
  simp only [List.length_cons, List.length_nil, Nat.zero_add, Nat.reduceAdd] at hcv
  go_enter Tryz.func71, Tryz.ntmps71
  go_wp2
  refine wp_loop_rounds 4 ?_
  repeat any_goals (rw [rounds_succ]; go_wp2)
  go_wp2_with (simp only [hcv])
  refine bodyPost_ret (v := .string ⟨⟨[50]⟩⟩) (by simp [results, Tryz.results71, go_sem]) rfl ?_
  exact ⟨rfl, (Kp.refl _ _).alloc _⟩
set_option maxHeartbeats 4000000 in
theorem itoa_3 (w : World) : Calls Tryz.prog 71 #[.int .i64 (3)] w (fun en w' => en = .returned (.string ⟨⟨[51]⟩⟩) ∧ Kp (fun _ => False) w w') := by
  have hsl := slice217 w.heap.size 1 (by decide)
  have hcv := run_convert_bytes_back (P := Tryz.prog) (w.alloc (.cells #[.int .u8 0, .int .u8 0, .int .u8 0, .int .u8 0, .int .u8 0, .int .u8 0, .int .u8 0, .int .u8 0, .int .u8 0, .int .u8 0, .int .u8 0, .int .u8 0, .int .u8 0, .int .u8 0, .int .u8 0, .int .u8 0, .int .u8 0, .int .u8 0, .int .u8 0, .int .u8 51] 217)) 104 9 5 ⟨w.heap.size, 19, none⟩ 1 [51] (by kernel_rfl) (by kernel_rfl) (by kernel_rfl) (by
    intro j hj
    rw [add_non, World.cell?_alloc_at _ _ _ _ rfl]
    have hj2 : j < 1 := by simpa using hj
    have : j = 0 := by omega
    rcases this with rfl <;> rfl)
  simp only [List.length_cons, List.length_nil, Nat.zero_add, Nat.reduceAdd] at hcv
  go_enter Tryz.func71, Tryz.ntmps71
  go_wp2
  refine wp_loop_rounds 4 ?_
  repeat any_goals (rw [rounds_succ]; go_wp2)
  go_wp2_with (simp only [hcv])
  refine bodyPost_ret (v := .string ⟨⟨[51]⟩⟩) (by simp [results, Tryz.results71, go_sem]) rfl ?_
  exact ⟨rfl, (Kp.refl _ _).alloc _⟩
set_option maxHeartbeats 4000000 in
theorem itoa_4 (w : World) : Calls Tryz.prog 71 #[.int .i64 (4)] w (fun en w' => en = .returned (.string ⟨⟨[52]⟩⟩) ∧ Kp (fun _ => False) w w') := by
  have hsl := slice217 w.heap.size 1 (by decide)
  have hcv := run_convert_bytes_back (P := Tryz.prog) (w.alloc (.cells #[.int .u8 0, .int .u8 0, .int .u8 0, .int .u8 0, .int .u8 0, .int .u8 0, .int .u8 0, .int .u8 0, .int .u8 0, .int .u8 0, .int .u8 0, .int .u8 0, .int .u8 0, .int .u8 0, .int .u8 0, .int .u8 0, .int .u8 0, .int .u8 0, .int .u8 0, .int .u8 52] 217)) 104 9 5 ⟨w.heap.size, 19, none⟩ 1 [52] (by kernel_rfl) (by kernel_rfl) (by kernel_rfl) (by
    intro j hj
    rw [add_non, World.cell?_alloc_at _ _ _ _ rfl]
    have hj2 : j < 1 := by simpa using hj
    have : j = 0 := by omega
    rcases this with rfl <;> rfl)
  simp only [List.length_cons, List.length_nil, Nat.zero_add, Nat.reduceAdd] at hcv
  go_enter Tryz.func71, Tryz.ntmps71
  go_wp2
  refine wp_loop_rounds 4 ?_
  repeat any_goals (rw [rounds_succ]; go_wp2)
  go_wp2_with (simp only [hcv])
  refine bodyPost_ret (v := .string ⟨⟨[52]⟩⟩) (by simp [results, Tryz.results71, go_sem]) rfl ?_
  exact ⟨rfl, (Kp.refl _ _).alloc _⟩
set_option maxHeartbeats 4000000 in
theorem itoa_5 (w : World) : Calls Tryz.prog 71 #[.int .i64 (5)] w (fun en w' => en = .returned (.string ⟨⟨[53]⟩⟩) ∧ Kp (fun _ => False) w w') := by
  have hsl := slice217 w.heap.size 1 (by decide)
  have hcv := run_convert_bytes_back (P := Tryz.prog) (w.alloc (.cells #[.int .u8 0, .int .u8 0, .int .u8 0, .int .u8 0, .int .u8 0, .int .u8 0, .int .u8 0, .int .u8 0, .int .u8 0, .int .u8 0, .int .u8 0, .int .u8 0, .int .u8 0, .int .u8 0, .int .u8 0, .int .u8 0, .int .u8 0, .int .u8 0, .int .u8 0, .int .u8 53] 217)) 104 9 5 ⟨w.heap.size, 19, none⟩ 1 [53] (by kernel_rfl) (by kernel_rfl) (by kernel_rfl) (by
    intro j hj
    rw [add_non, World.cell?_alloc_at _ _ _ _ rfl]
    have hj2 : j < 1 := by simpa using hj
    have : j = 0 := by omega
    rcases this with rfl <;> rfl)
  simp only [List.length_cons, List.length_nil, Nat.zero_add, Nat.reduceAdd] at hcv
  go_enter Tryz.func71, Tryz.ntmps71
  go_wp2
  refine wp_loop_rounds 4 ?_
  repeat any_goals (rw [rounds_succ]; go_wp2)
  go_wp2_with (simp only [hcv])
  refine bodyPost_ret (v := .string ⟨⟨[53]⟩⟩) (by simp [results, Tryz.results71, go_sem]) rfl ?_
  exact ⟨rfl, (Kp.refl _ _).alloc _⟩
set_option maxHeartbeats 4000000 in
theorem itoa_6 (w : World) : Calls Tryz.prog 71 #[.int .i64 (6)] w (fun en w' => en = .returned (.string ⟨⟨[54]⟩⟩) ∧ Kp (fun _ => False) w w') := by
  have hsl := slice217 w.heap.size 1 (by decide)
  have hcv := run_convert_bytes_back (P := Tryz.prog) (w.alloc (.cells #[.int .u8 0, .int .u8 0, .int .u8 0, .int .u8 0, .int .u8 0, .int .u8 0, .int .u8 0, .int .u8 0, .int .u8 0, .int .u8 0, .int .u8 0, .int .u8 0, .int .u8 0, .int .u8 0, .int .u8 0, .int .u8 0, .int .u8 0, .int .u8 0, .int .u8 0, .int .u8 54] 217)) 104 9 5 ⟨w.heap.size, 19, none⟩ 1 [54] (by kernel_rfl) (by kernel_rfl) (by kernel_rfl) (by
    intro j hj
    rw [add_non, World.cell?_alloc_at _ _ _ _ rfl]
    have hj2 : j < 1 := by simpa using hj
    have : j = 0 := by omega
    rcases this with rfl <;> rfl)
  simp only [List.length_cons, List.length_nil, Nat.zero_add, Nat.reduceAdd] at hcv
  go_enter Tryz.func71, Tryz.ntmps71
  go_wp2
  refine wp_loop_rounds 4 ?_
  repeat any_goals (rw [rounds_succ]; go_wp2)
  go_wp2_with (simp only [hcv])
  refine bodyPost_ret (v := .string ⟨⟨[54]⟩⟩) (by simp [results, Tryz.results71, go_sem]) rfl ?_
  exact ⟨rfl, (Kp.refl _ _).alloc _⟩
set_option maxHeartbeats 4000000 in
theorem itoa_7 (w : World) : Calls Tryz.prog 71 #[.int .i64 (7)] w (fun en w' => en = .returned (.string ⟨⟨[55]⟩⟩) ∧ Kp (fun _ => False) w w') := by
  have hsl := slice217 w.heap.size 1 (by decide)
  have hcv := run_convert_bytes_back (P := Tryz.prog) (w.alloc (.cells #[.int .u8 0, .int .u8 0, .int .u8 0, .int .u8 0, .int .u8 0, .int .u8 0, .int .u8 0, .int .u8 0, .int .u8 0, .int .u8 0, .int .u8 0, .int .u8 0, .int .u8 0, .int .u8 0, .int .u8 0, .int .u8 0, .int .u8 0, .int .u8 0, .int .u8 0, .int .u8 55] 217)) 104 9 5 ⟨w.heap.size, 19, none⟩ 1 [55] (by kernel_rfl) (by kernel_rfl) (by kernel_rfl) (by
    intro j hj
    rw [add_non, World.cell?_alloc_at _ _ _ _ rfl]
    have hj2 : j < 1 := by simpa using hj
    have : j = 0 := by omega
    rcases this with rfl <;> rfl)
  simp only [List.length_cons, List.length_nil, Nat.zero_add, Nat.reduceAdd] at hcv
  go_enter Tryz.func71, Tryz.ntmps71
  go_wp2
  refine wp_loop_rounds 4 ?_
  repeat any_goals (rw [rounds_succ]; go_wp2)
  go_wp2_with (simp only [hcv])
  refine bodyPost_ret (v := .string ⟨⟨[55]⟩⟩) (by simp [results, Tryz.results71, go_sem]) rfl ?_
  exact ⟨rfl, (Kp.refl _ _).alloc _⟩
set_option maxHeartbeats 4000000 in
theorem itoa_8 (w : World) : Calls Tryz.prog 71 #[.int .i64 (8)] w (fun en w' => en = .returned (.string ⟨⟨[56]⟩⟩) ∧ Kp (fun _ => False) w w') := by
  have hsl := slice217 w.heap.size 1 (by decide)
  have hcv := run_convert_bytes_back (P := Tryz.prog) (w.alloc (.cells #[.int .u8 0, .int .u8 0, .int .u8 0, .int .u8 0, .int .u8 0, .int .u8 0, .int .u8 0, .int .u8 0, .int .u8 0, .int .u8 0, .int .u8 0, .int .u8 0, .int .u8 0, .int .u8 0, .int .u8 0, .int .u8 0, .int .u8 0, .int .u8 0, .int .u8 0, .int .u8 56] 217)) 104 9 5 ⟨w.heap.size, 19, none⟩ 1 [56] (by kernel_rfl) (by kernel_rfl) (by kernel_rfl) (by
    intro j hj
    rw [add_non, World.cell?_alloc_at _ _ _ _ rfl]
    have hj2 : j < 1 := by simpa using hj
    have : j = 0 := by omega
    rcases this with rfl <;> rfl)
  simp only [List.length_cons, List.length_nil, Nat.zero_add, Nat.reduceAdd] at hcv
  go_enter Tryz.func71, Tryz.ntmps71
  go_wp2
  refine wp_loop_rounds 4 ?_
  repeat any_goals (rw [rounds_succ]; go_wp2)
  go_wp2_with (simp only [hcv])
  refine bodyPost_ret (v := .string ⟨⟨[56]⟩⟩) (by simp [results, Tryz.results71, go_sem]) rfl ?_
  exact ⟨rfl, (Kp.refl _ _).alloc _⟩
set_option maxHeartbeats 4000000 in
theorem itoa_9 (w : World) : Calls Tryz.prog 71 #[.int .i64 (9)] w (fun en w' => en = .returned (.string ⟨⟨[57]⟩⟩) ∧ Kp (fun _ => False) w w') := by
  have hsl := slice217 w.heap.size 1 (by decide)
  have hcv := run_convert_bytes_back (P := Tryz.prog) (w.alloc (.cells #[.int .u8 0, .int .u8 0, .int .u8 0, .int .u8 0, .int .u8 0, .int .u8 0, .int .u8 0, .int .u8 0, .int .u8 0, .int .u8 0, .int .u8 0, .int .u8 0, .int .u8 0, .int .u8 0, .int .u8 0, .int .u8 0, .int .u8 0, .int .u8 0, .int .u8 0, .int .u8 57] 217)) 104 9 5 ⟨w.heap.size, 19, none⟩ 1 [57] (by kernel_rfl) (by kernel_rfl) (by kernel_rfl) (by
    intro j hj
    rw [add_non, World.cell?_alloc_at _ _ _ _ rfl]
    have hj2 : j < 1 := by simpa using hj
    have : j = 0 := by omega
    rcases this with rfl <;> rfl)
  simp only [List.length_cons, List.length_nil, Nat.zero_add, Nat.reduceAdd] at hcv
  go_enter Tryz.func71, Tryz.ntmps71
  go_wp2
  refine wp_loop_rounds 4 ?_
  repeat any_goals (rw [rounds_succ]; go_wp2)
  go_wp2_with (simp only [hcv])
  refine bodyPost_ret (v := .string ⟨⟨[57]⟩⟩) (by simp [results, Tryz.results71, go_sem]) rfl ?_
  exact ⟨rfl, (Kp.refl _ _).alloc _⟩
set_option maxHeartbeats 4000000 in
theorem itoa_10 (w : World) : Calls Tryz.prog 71 #[.int .i64 (10)] w (fun en w' => en = .returned (.string ⟨⟨[49, 48]⟩⟩) ∧ Kp (fun _ => False) w w') := by
  have hsl := slice217 w.heap.size 2 (by decide)
  have hcv := run_convert_bytes_back (P := Tryz.prog) (w.alloc (.cells #[.int .u8 0, .int .u8 0, .int .u8 0, .int .u8 0, .int .u8 0, .int .u8 0, .int .u8 0, .int .u8 0, .int .u8 0, .int .u8 0, .int .u8 0, .int .u8 0, .int .u8 0, .int .u8 0, .int .u8 0, .int .u8 0, .int .u8 0, .int .u8 0, .int .u8 49, .int .u8 48] 217)) 104 9 5 ⟨w.heap.size, 18, none⟩ 2 [49, 48] (by kernel_rfl) (by kernel_rfl) (by kernel_rfl) (by
    intro j hj
    rw [add_non, World.cell?_alloc_at _ _ _ _ rfl]
    have hj2 : j < 2 := by simpa using hj
    have : j = 0 ∨ j = 1 := by omega
    rcases this with rfl | rfl <;> rfl)
  simp only [List.length_cons, List.length_nil, Nat.zero_add, Nat.reduceAdd] at hcv
  go_enter Tryz.func71, Tryz.ntmps71
  go_wp2
  refine wp_loop_rounds 4 ?_
  repeat any_goals (rw [rounds_succ]; go_wp2)
  go_wp2_with (simp only [hcv])
  refine bodyPost_ret (v := .string ⟨⟨[49, 48]⟩⟩) (by simp [results, Tryz.results71, go_sem]) rfl ?_
  exact ⟨rfl, (Kp.refl _ _).alloc _⟩
set_option maxHeartbeats 4000000 in
theorem itoa_11 (w : World) : Calls Tryz.prog 71 #[.int .i64 (11)] w (fun en w' => en = .returned (.string ⟨⟨[49, 49]⟩⟩) ∧ Kp (fun _ => False) w w') := by
  have hsl := slice217 w.heap.size 2 (by decide)
  have hcv := run_convert_bytes_back (P := Tryz.prog) (w.alloc (.cells #[.int .u8 0, .int .u8 0, .int .u8 0, .int .u8 0, .int .u8 0, .int .u8 0, .int .u8 0, .int .u8 0, .int .u8 0, .int .u8 0, .int .u8 0, .int .u8 0, .int .u8 0, .int .u8 0, .int .u8 0, .int .u8 0, .int .u8 0, .int .u8 0, .int .u8 49, .int .u8 49] 217)) 104 9 5 ⟨w.heap.size, 18, none⟩ 2 [49, 49] (by kernel_rfl) (by kernel_rfl) (by kernel_rfl) (by
    intro j hj
    rw [add_non, World.cell?_alloc_at _ _ _ _ rfl]
    have hj2 : j < 2 := by simpa using hj
    have : j = 0 ∨ j = 1 := by omega
    rcases this with rfl | rfl <;> rfl)
  simp only [List.length_cons, List.length_nil, Nat.zero_add, Nat.reduceAdd] at hcv
  go_enter Tryz.func71, Tryz.ntmps71
  go_wp2
  refine wp_loop_rounds 4 ?_
  repeat any_goals (rw [rounds_succ]; go_wp2)
  go_wp2_with (simp only [hcv])
  refine bodyPost_ret (v := .string ⟨⟨[49, 49]⟩⟩) (by simp [results, Tryz.results71, go_sem]) rfl ?_
  exact ⟨rfl, (Kp.refl _ _).alloc _⟩
set_option maxHeartbeats 4000000 in
theorem itoa_12 (w : World) : Calls Tryz.prog 71 #[.int .i64 (12)] w (fun en w' => en = .returned (.string ⟨⟨[49, 50]⟩⟩) ∧ Kp (fun _ => False) w w') := by
  have hsl := slice217 w.heap.size 2 (by decide)
  have hcv := run_convert_bytes_back (P := Tryz.prog) (w.alloc (.cells #[.int .u8 0, .int .u8 0, .int .u8 0, .int .u8 0, .int .u8 0, .int .u8 0, .int .u8 0, .int .u8 0, .int .u8 0, .int .u8 0, .int .u8 0, .int .u8 0, .int .u8 0, .int .u8 0, .int .u8 0, .int .u8 0, .int .u8 0, .int .u8 0, .int .u8 49, .int .u8 50] 217)) 104 9 5 ⟨w.heap.size, 18, none⟩ 2 [49, 50] (by kernel_rfl) (by kernel_rfl) (by kernel_rfl) (by
    intro j hj
    rw [add_non, World.cell?_alloc_at _ _ _ _ rfl]
    have hj2 : j < 2 := by simpa using hj
    have : j = 0 ∨ j = 1 := by omega
    rcases this with rfl | rfl <;> rfl)
  simp only [List.length_cons, List.length_nil, Nat.zero_add, Nat.reduceAdd] at hcv
  go_enter Tryz.func71, Tryz.ntmps71
  go_wp2
  refine wp_loop_rounds 4 ?_
  repeat any_goals (rw [rounds_succ]; go_wp2)
  go_wp2_with (simp only [hcv])
  refine bodyPost_ret (v := .string ⟨⟨[49, 50]⟩⟩) (by simp [results, Tryz.results71, go_sem]) rfl ?_
  exact ⟨rfl, (Kp.refl _ _).alloc _⟩
def itoaS (z : Int) : List UInt8 := if z = -1 then [45, 49] else if z < 10 then [UInt8.ofNat (48 + z.toNat)] else [49, UInt8.ofNat (38 + z.toNat)]
theorem itoa_calls (z : Int) (h : -1 ≤ z ∧ z ≤ 12) (w : World) : Calls Tryz.prog 71 #[.int .i64 z] w (fun en w' => en = .returned (.string ⟨⟨itoaS z⟩⟩) ∧ Kp (fun _ => False) w w') := by
  have : z = -1 ∨ z = 0 ∨ z = 1 ∨ z = 2 ∨ z = 3 ∨ z = 4 ∨ z = 5 ∨ z = 6 ∨ z = 7 ∨ z = 8 ∨ z = 9 ∨ z = 10 ∨ z = 11 ∨ z = 12 := by omega
  rcases this with rfl | rfl | rfl | rfl | rfl | rfl | rfl | rfl | rfl | rfl | rfl | rfl | rfl | rfl
  · exact itoa_m1 w
  · exact itoa_0 w
  · exact itoa_1 w
  · exact itoa_2 w
  · exact itoa_3 w
  · exact itoa_4 w
  · exact itoa_5 w
  · exact itoa_6 w
  · exact itoa_7 w
  · exact itoa_8 w
  · exact itoa_9 w
  · exact itoa_10 w
  · exact itoa_11 w
  · exact itoa_12 w
end Go.Proofs.Qxb6500275aGreatDoor
