import Derived.Test.Qxb6500275aGreatDoorMe6
set_option maxRecDepth 100000
set_option linter.unusedVariables false
set_option linter.unusedSimpArgs false
namespace Go.Proofs.Qxb6500275aGreatDoor
open Go Go.RowKit
def Z104 : Array Value := #[.int .u8 0]
theorem mk104 (W : World) : (Instr.makeSlice 104 (.int .i64 384) (.int .i64 384)).run Tryz.prog W = .ok (.slice (some ⟨W.heap.size, 0, none⟩) 384 384) (W.alloc (.cells (madeCells Z104 384) 5)) :=
  make_n2 W 104 5 384 1 1 Z104 (by kernel_rfl) (by kernel_rfl) (by kernel_rfl) (by omega) (by omega)
def Sm.none : Sm := ⟨false, [], 0, [], []⟩
theorem Sm.none_ok : SmOk Sm.none := ⟨⟨rfl, rfl, Nat.le_refl _, by decide⟩, fun x h => by simp [Sm.none] at h, fun _ => ⟨rfl, rfl⟩, ⟨by decide, fun x h => by simp [Sm.none] at h⟩, ⟨by decide, fun x h => by simp [Sm.none] at h⟩⟩
def A154 (rb : Nat) : Array Value := #[.slice (some ⟨rb, 0, .none⟩) 384 384, .bool false, .slice .none 0 0, .int .i64 0, .int .i64 0, .int .i64 0, .int .i64 0, .int .i64 0, .int .i64 0, .int .i64 0, .int .i64 0, .int .i64 0, .int .u64 0, .int .u64 0, .int .u64 0, .int .u64 0, .int .i64 0]
theorem blk_arr3 (w : World) (cs : Array Value) (e : TypeId) : Blk (w.alloc (.cells cs e)) w.heap.size cs.size (fun i => cs[i]!) := by
  intro i hi
  rw [World.cell?_alloc_at _ _ _ _ rfl, World.frozen?_alloc_at _ _ _ _ rfl]
  refine ⟨?_, rfl⟩
  dsimp only
  rw [Array.getElem?_eq_getElem hi, getElem!_pos cs i hi]
set_option maxHeartbeats 4000000 in
theorem mnew_calls (w : World) : Calls Tryz.prog 30 #[] w (fun en w' => ∃ sb rb, en = .returned (.pointer (some ⟨sb, 0, none⟩)) ∧ w.heap.size ≤ sb ∧ w.heap.size ≤ rb ∧ Kp (fun _ => False) w w' ∧ Mm w' sb rb Sm.none) := by
  have hm1 := mk104
  go_enter Tryz.func30, Tryz.ntmps30
  go_wp2_with fail
  refine bodyPost_ret (v := .pointer (some ⟨w.heap.size + 1, 0, none⟩)) (by simp [results, Tryz.results30, go_sem]) rfl ?_
  refine ⟨_, _, rfl, by omega, Nat.le_refl _, ((Kp.refl _ _).alloc _).alloc _, ?_⟩
  have b2 := (blk_made w Z104 384 5).keep ((Kp.refl (fun _ => False) _).alloc (.cells (A154 w.heap.size) 154)) (fun h => h)
  have b1 := blk_arr3 (w.alloc (.cells (madeCells Z104 384) 5)) (A154 w.heap.size) 154
  have hs : (w.alloc (.cells (madeCells Z104 384) 5)).heap.size = w.heap.size + 1 := by simp
  rw [hs] at b1
  exact ⟨⟨_, _, b1, b2, ⟨rfl, rfl, rfl, fun i t h => by simp [Sm.none] at h, rfl, fun i t h => by simp [Sm.none] at h, rfl, fun i t h => by simp [Sm.none] at h⟩⟩, by omega⟩
end Go.Proofs.Qxb6500275aGreatDoor
