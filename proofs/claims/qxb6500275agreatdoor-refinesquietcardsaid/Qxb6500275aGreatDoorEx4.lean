import Derived.Test.Qxb6500275aGreatDoorMe7
import Derived.Test.Qxb6500275aGreatDoorPpc
import Derived.Test.Qxb6500275aGreatDoorHo2
import Derived.Deep.RegionWith
set_option maxRecDepth 100000
set_option linter.unusedVariables false
set_option linter.unusedSimpArgs false
namespace Go.Proofs.Qxb6500275aGreatDoor
open Go Go.RowKit
def Z166 : Array Value := #[.nilIface]
theorem mk166 (W : World) : (Instr.makeSlice 166 (.int .i64 0) (.int .i64 4)).run Tryz.prog W = .ok (.slice (some ⟨W.heap.size, 0, none⟩) 0 4) (W.alloc (.cells (madeCells Z166 4) 184)) :=
  make_c2 W 166 184 0 4 1 16 Z166 (by kernel_rfl) (by kernel_rfl) (by kernel_rfl) (by omega) (by omega) (by omega)
theorem mk104z (W : World) : (Instr.makeSlice 104 (.int .i64 0) (.int .i64 864)).run Tryz.prog W = .ok (.slice (some ⟨W.heap.size, 0, none⟩) 0 864) (W.alloc (.cells (madeCells Z104 864) 5)) :=
  make_c2 W 104 5 0 864 1 1 Z104 (by kernel_rfl) (by kernel_rfl) (by kernel_rfl) (by omega) (by omega) (by omega)
def Hm.none : Hm := ⟨[], [], [], 0⟩
theorem Hm.none_ok : HmOk Hm.none := ⟨⟨by decide, fun k h => by simp [Hm.none] at h⟩, ⟨by decide, fun k h => by simp [Hm.none] at h⟩, ⟨by decide, fun k h => by simp [Hm.none] at h, rfl⟩, by decide⟩
def A169 (bb tb : Nat) : Array Value := #[.slice (some ⟨bb, 0, .none⟩) 0 4, .int .u64 0, .int .u64 0, .int .u64 0, .int .u64 0, .int .u64 0, .int .u64 0, .int .i64 0, .int .i64 0, .slice (some ⟨tb, 0, .none⟩) 0 864, .int .i64 0]
set_option maxHeartbeats 4000000 in
theorem hnew_calls (w : World) : Calls Tryz.prog 34 #[] w (fun en w' => ∃ hb bb tb, en = .returned (.pointer (some ⟨hb, 0, none⟩)) ∧ w.heap.size ≤ hb ∧ w.heap.size ≤ bb ∧ w.heap.size ≤ tb ∧ Kp (fun _ => False) w w' ∧ Hw w' hb bb tb (fun _ => False) Hm.none) := by
  have hm1 := mk166
  have hm2 := mk104z
  go_enter Tryz.func34, Tryz.ntmps34
  go_wp2_with fail
  go_region
  all_goals go_wp2_with fail
  all_goals refine bodyPost_ret (v := .pointer (some ⟨w.heap.size + 1 + 1, 0, none⟩)) (by simp [results, Tryz.results34, go_sem]) rfl ?_
  · have hk : ∀ (a : World) (o : Obj), Kp (fun _ => False) a (a.alloc o) := fun a o => (Kp.refl _ _).alloc o
    have s1 : (w.alloc (.cells (madeCells Z166 4) 184)).heap.size = w.heap.size + 1 := World.size_alloc _ _
    have s2 : ((w.alloc (.cells (madeCells Z166 4) 184)).alloc (.cells (madeCells Z104 864) 5)).heap.size = w.heap.size + 1 + 1 := by rw [World.size_alloc, s1]
    have b1 := ((blk_made w Z166 4 184).keep (hk _ (.cells (madeCells Z104 864) 5)) (fun h => h)).keep (hk _ (.cells (A169 w.heap.size (w.heap.size + 1)) 169)) (fun h => h)
    have b2 := (blk_made (w.alloc (.cells (madeCells Z166 4) 184)) Z104 864 5).keep (hk _ (.cells (A169 w.heap.size (w.heap.size + 1)) 169)) (fun h => h)
    have b3 := blk_arr3 ((w.alloc (.cells (madeCells Z166 4) 184)).alloc (.cells (madeCells Z104 864) 5)) (A169 w.heap.size (w.heap.size + 1)) 169
    rw [s1] at b2
    rw [s2] at b3
    exact ⟨_, w.heap.size, w.heap.size + 1, rfl, by omega, Nat.le_refl _, by omega, (((hk _ _).trans (hk _ _)).trans (hk _ _)).drew, ⟨⟨_, _, _, 0, b3, b1, b2, ⟨rfl, fun i v h => by simp [Hm.none] at h, rfl, rfl, rfl, rfl, by simp [Hm.none], fun i v h => by simp [Hm.none] at h, fun i k h => by simp [Hm.none] at h, fun i _ hi => .inl (by simp [Z166, Nat.mod_one])⟩⟩, by omega, by omega, by omega, ⟨fun h => h, fun h => h, fun h => h⟩⟩⟩
  · have hk : ∀ (a : World) (o : Obj), Kp (fun _ => False) a (a.alloc o) := fun a o => (Kp.refl _ _).alloc o
    have s1 : (w.alloc (.cells (madeCells Z104 864) 5)).heap.size = w.heap.size + 1 := World.size_alloc _ _
    have s2 : ((w.alloc (.cells (madeCells Z104 864) 5)).alloc (.cells (madeCells Z166 4) 184)).heap.size = w.heap.size + 1 + 1 := by rw [World.size_alloc, s1]
    have b2 := ((blk_made w Z104 864 5).keep (hk _ (.cells (madeCells Z166 4) 184)) (fun h => h)).keep (hk _ (.cells (A169 (w.heap.size + 1) w.heap.size) 169)) (fun h => h)
    have b1 := (blk_made (w.alloc (.cells (madeCells Z104 864) 5)) Z166 4 184).keep (hk _ (.cells (A169 (w.heap.size + 1) w.heap.size) 169)) (fun h => h)
    have b3 := blk_arr3 ((w.alloc (.cells (madeCells Z104 864) 5)).alloc (.cells (madeCells Z166 4) 184)) (A169 (w.heap.size + 1) w.heap.size) 169
    rw [s1] at b1
    rw [s2] at b3
    exact ⟨_, w.heap.size + 1, w.heap.size, rfl, by omega, by omega, Nat.le_refl _, (((hk _ _).trans (hk _ _)).trans (hk _ _)).drew, ⟨⟨_, _, _, 0, b3, b1, b2, ⟨rfl, fun i v h => by simp [Hm.none] at h, rfl, rfl, rfl, rfl, by simp [Hm.none], fun i v h => by simp [Hm.none] at h, fun i k h => by simp [Hm.none] at h, fun i _ hi => .inl (by simp [Z166, Nat.mod_one])⟩⟩, by omega, by omega, by omega, ⟨fun h => h, fun h => h, fun h => h⟩⟩⟩
end Go.Proofs.Qxb6500275aGreatDoor
