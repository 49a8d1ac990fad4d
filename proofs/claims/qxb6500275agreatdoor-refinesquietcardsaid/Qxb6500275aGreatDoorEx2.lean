import Derived.Test.Qxb6500275aGreatDoorMe7
import Derived.Test.Qxb6500275aGreatDoorVc4
set_option maxRecDepth 100000
set_option linter.unusedVariables false
set_option linter.unusedSimpArgs false
namespace Go.Proofs.Qxb6500275aGreatDoor
open Go Go.RowKit
def Z67 : Array Value := #[.int .u64 0]
theorem mk67 (W : World) : (Instr.makeSlice 67 (.int .i64 120) (.int .i64 120)).run Tryz.prog W = .ok (.slice (some ⟨W.heap.size, 0, none⟩) 120 120) (W.alloc (.cells (madeCells Z67 120) 91)) :=
  make_n2 W 67 91 120 1 8 Z67 (by kernel_rfl) (by kernel_rfl) (by kernel_rfl) (by omega) (by omega)
def A72 (db vb pb sb hb kb : Nat) : Array Value := #[.pointer (some ⟨db, 0, none⟩), .pointer (some ⟨vb, 0, none⟩), .pointer (some ⟨pb, 0, none⟩), .pointer (some ⟨sb, 0, none⟩), .pointer (some ⟨hb, 0, none⟩), .pointer none, .pointer none, .slice none 0 0, .slice none 0 0, .slice (some ⟨kb, 0, none⟩) 120 120, .int .i64 0, .int .i64 0, .int .i64 0, .int .i64 0, .int .i64 0, .int .i64 0, .int .i64 0, .int .i64 0, .int .i64 0, .int .i64 0, .int .i64 0, .int .i64 0, .int .i64 0, .int .i64 0, .int .i64 0, .int .i64 0, .int .i64 0, .int .i64 0]
set_option maxHeartbeats 4000000 in
theorem xnew_calls (w : World) (db vb pb sb hb : Nat) : Calls Tryz.prog 35 #[.pointer (some ⟨db, 0, none⟩), .pointer (some ⟨vb, 0, none⟩), .pointer (some ⟨pb, 0, none⟩), .pointer (some ⟨sb, 0, none⟩), .pointer (some ⟨hb, 0, none⟩)] w (fun en w' => ∃ xb kb, en = .returned (.pointer (some ⟨xb, 0, none⟩)) ∧ w.heap.size ≤ xb ∧ w.heap.size ≤ kb ∧ xb ≠ kb ∧ Kp (fun _ => False) w w' ∧ Blk w' xb 28 (fun i => (A72 db vb pb sb hb kb)[i]!) ∧ ∃ K, Blk w' kb 120 K) := by
  have hm1 := mk67
  go_enter Tryz.func35, Tryz.ntmps35
  go_wp2_with fail
  refine bodyPost_ret (v := .pointer (some ⟨w.heap.size + 1, 0, none⟩)) (by simp [results, Tryz.results35, go_sem]) rfl ?_
  refine ⟨_, w.heap.size, rfl, by omega, Nat.le_refl _, by omega, ((Kp.refl _ _).alloc _).alloc _, ?_, ?_⟩
  · have b1 := blk_arr3 (w.alloc (.cells (madeCells Z67 120) 91)) (A72 db vb pb sb hb w.heap.size) 72
    have hs : (w.alloc (.cells (madeCells Z67 120) 91)).heap.size = w.heap.size + 1 := by simp
    rw [hs] at b1
    exact b1
  · exact ⟨_, (blk_made w Z67 120 91).keep ((Kp.refl (fun _ => False) _).alloc (.cells (A72 db vb pb sb hb w.heap.size) 72)) (fun h => h)⟩
end Go.Proofs.Qxb6500275aGreatDoor
