import Derived.Test.Qxb6500275aGreatDoorMe7
import Derived.Test.Qxb6500275aGreatDoorVc4
set_option maxRecDepth 100000
set_option linter.unusedVariables false
set_option linter.unusedSimpArgs false
namespace Go.Proofs.Qxb6500275aGreatDoor
open Go Go.RowKit
def A160 : Array Value := #[.int .u8 0, .int .u8 0, .int .u8 0, .int .u8 0, .int .u8 0, .int .u8 0, .int .u8 0, .int .u8 0, .int .u8 0, .int .u8 0, .int .u8 0, .int .i64 0, .int .u8 0, .int .u8 0, .int .i64 0, .bool false, .int .u8 0, .int .u8 0, .int .i64 0, .bool false, .int .u8 0, .int .u8 0, .int .i64 0, .bool false, .int .u8 0, .int .u8 0, .int .i64 0, .bool false, .int .u8 0, .int .u8 0, .int .i64 0, .bool false, .int .u8 0, .int .u8 0, .int .i64 0, .bool false, .int .u8 0, .int .u8 0, .int .i64 0, .bool false, .int .i64 0, .int .i64 0]
set_option maxHeartbeats 4000000 in
theorem vnew_calls (w : World) : Calls Tryz.prog 32 #[] w (fun en w' => en = .returned (.pointer (some ⟨w.heap.size, 0, none⟩)) ∧ Kp (fun _ => False) w w' ∧ Vd w' w.heap.size ⟨[], []⟩ ∧ VI ⟨[], []⟩) := by
  go_enter Tryz.func32, Tryz.ntmps32
  go_wp2_with fail
  refine bodyPost_ret (v := .pointer (some ⟨w.heap.size, 0, none⟩)) (by simp [results, Tryz.results32, go_sem]) rfl ?_
  refine ⟨rfl, (Kp.refl _ _).alloc _, ⟨_, blk_arr3 w A160 160, ⟨fun i t h => by simp at h, rfl, fun j f h => by simp at h, rfl, ⟨0, rfl, by simp, by decide⟩, by simp, by simp⟩⟩, ?_⟩
  refine ⟨?_, fun t h => by simp at h, fun f h => by simp at h, fun f h => by simp at h, by simp, by simp⟩
  simp [Fl]
end Go.Proofs.Qxb6500275aGreatDoor
