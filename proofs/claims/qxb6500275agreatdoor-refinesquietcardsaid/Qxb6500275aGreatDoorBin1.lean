import Derived.Test.Qxb6500275aGreatDoorSec0
import Derived.Test.Qxb6500275aGreatDoorWr17
import Derived.Deep.QuietTactic
import Derived.BigQuiet
set_option maxRecDepth 100000
set_option linter.unusedVariables false
set_option linter.unusedSimpArgs false
set_option linter.unusedSectionVars false
namespace Go.Proofs.Qxb6500275aGreatDoor
open Go Go.RowKit
theorem kp_drewN (S : Nat → Prop) (w : World) (m : Nat) : Kp S w (w.drewN m) := ⟨rfl, rfl, rfl, Nat.le_refl _, fun _ _ _ => rfl⟩
section
variable [Inhabited TV]
variable {w : World} {bb ib tb : Nat} {ty : List Int}
set_option maxHeartbeats 4000000 in
theorem bcheck_calls (h : Bt w bb ib tb ty) : Calls Tryz.prog 24 #[.pointer (some ⟨bb, 0, none⟩)] w (fun en w' => en = .returned (.bool true) ∧ Kp (fun _ => False) w w') := by
  obtain ⟨op, ins, t, ⟨⟨F, G, H, b1, b2, b3, hl⟩, d1, d2, d3, d4⟩⟩ := h
  have c8 := b1.cell (i := 8) (by decide)
  have c15 := b1.cell (i := 15) (by decide)
  have c16 := b1.cell (i := 16) (by decide)
  have c17 := b1.cell (i := 17) (by decide)
  have c18 := b1.cell (i := 18) (by decide)
  have c19 := b1.cell (i := 19) (by decide)
  rw [hl.nT] at c8
  rw [hl.nO] at c15
  rw [hl.sI] at c16
  rw [hl.nI] at c17
  rw [hl.sT] at c18
  rw [hl.nL] at c19
  have c20 := (d4 20 (by decide) (by decide)).1
  unfold tlV at c20
  generalize ((default : TV) 20).1 = a20 at c20
  generalize ((default : TV) 20).2 = m20 at c20
  have c21 := (d4 21 (by decide) (by decide)).1
  unfold tlV at c21
  generalize ((default : TV) 21).1 = a21 at c21
  generalize ((default : TV) 21).2 = m21 at c21
  have c22 := (d4 22 (by decide) (by decide)).1
  unfold tlV at c22
  generalize ((default : TV) 22).1 = a22 at c22
  generalize ((default : TV) 22).2 = m22 at c22
  have l1 := hl.lT
  have l2 := hl.lO
  have l3 := hl.lI
  have l4 := hl.lL
  generalize ty.length = n1 at *
  generalize op.length = n2 at *
  generalize ins.length = n3 at *
  generalize t.length = n4 at *
  clear b1 b2 b3 d4 hl
  have i1 : decide ((n1 : Int) < 0) = false := decide_eq_false (by omega)
  have i2 : decide ((8 : Int) < (n1 : Int)) = false := decide_eq_false (by omega)
  have i3 : decide ((n2 : Int) < 0) = false := decide_eq_false (by omega)
  have i4 : decide ((6 : Int) < (n2 : Int)) = false := decide_eq_false (by omega)
  have i5 : decide ((n3 : Int) < 0) = false := decide_eq_false (by omega)
  have i6 : decide ((96 : Int) < (n3 : Int)) = false := decide_eq_false (by omega)
  have i7 : decide ((n4 : Int) < 0) = false := decide_eq_false (by omega)
  have i8 : decide ((24 : Int) < (n4 : Int)) = false := decide_eq_false (by omega)
  have j2 : decide (8 < n1) = false := decide_eq_false (by omega)
  have j4 : decide (6 < n2) = false := decide_eq_false (by omega)
  have j6 : decide (96 < n3) = false := decide_eq_false (by omega)
  have j8 : decide (24 < n4) = false := decide_eq_false (by omega)
  go_enter Tryz.func24, Tryz.ntmps24
  go_wp2_with fail
  go_quiet (fail)
  go_wp2
  refine bodyPost_ret (v := .bool true) (by simp [results, Tryz.results24, go_sem]) rfl ?_
  exact ⟨rfl, kp_drewN _ _ _⟩
end
theorem mk102d (W : World) : (Instr.makeSlice 102 (.int .i64 96) (.int .i64 96)).run Tryz.prog W = .ok (.slice (some ⟨W.heap.size, 0, none⟩) 96 96) (W.alloc (.cells (madeCells Z102 288) 129)) :=
  make_n2 W 102 129 96 3 16 Z102 (by kernel_rfl) (by kernel_rfl) (by kernel_rfl) (by omega) (by omega)
theorem mk103d (W : World) : (Instr.makeSlice 103 (.int .i64 24) (.int .i64 24)).run Tryz.prog W = .ok (.slice (some ⟨W.heap.size, 0, none⟩) 24 24) (W.alloc (.cells (madeCells Z103b 24) 127)) :=
  make_n2 W 103 127 24 1 4 Z103b (by kernel_rfl) (by kernel_rfl) (by kernel_rfl) (by omega) (by omega)
theorem blk_arr2 (w : World) (cs : Array Value) (e : TypeId) : Blk (w.alloc (.cells cs e)) w.heap.size cs.size (fun i => cs[i]!) := by
  intro i hi
  rw [World.cell?_alloc_at _ _ _ _ rfl, World.frozen?_alloc_at _ _ _ _ rfl]
  refine ⟨?_, rfl⟩
  dsimp only
  rw [Array.getElem?_eq_getElem hi, getElem!_pos cs i hi]
def A106 (ib tb : Nat) : Array Value := #[.int .i64 0, .int .i64 0, .int .i64 0, .int .i64 0, .int .i64 0, .int .i64 0, .int .i64 0, .int .i64 0, .int .i64 0, .int .u8 0, .int .u8 0, .int .u8 0, .int .u8 0, .int .u8 0, .int .u8 0, .int .i64 0, .slice (some ⟨ib, 0, none⟩) 96 96, .int .i64 0, .slice (some ⟨tb, 0, none⟩) 24 24, .int .i64 0, .slice none 0 0, .slice none 0 0, .slice none 0 0]
theorem bt_new {w3 : World} {ib tb : Nat} {G H : Nat → Value} (b2 : Blk w3 ib 288 G) (b3 : Blk w3 tb 24 H) (hne : ib ≠ tb) : Bt (w3.alloc (.cells (A106 ib tb) 106)).drew w3.heap.size ib tb [] := by
  have h2 := b2.lt (by decide)
  have h3 := b3.lt (by decide)
  have hk : Kp (fun _ => False) w3 (w3.alloc (.cells (A106 ib tb) 106)).drew := ((Kp.refl _ _).alloc _).drew
  have hb := blk_arr2 w3 (A106 ib tb) 106
  refine ⟨[], [], [], ⟨fun i => (A106 ib tb)[i]!, G, H, fun i hi => hb i (Nat.lt_trans hi (by show 20 < 23; decide)), b2.keep hk (fun h => h), b3.keep hk (fun h => h), ?_⟩, by omega, by omega, hne, fun j h1 h2 => ?_⟩
  · exact ⟨fun i t h => by simp at h, rfl, fun i t h => by simp at h, rfl, rfl, rfl, rfl, rfl, fun i t h => by simp at h, fun i t h => by simp at h, by simp, by simp, by simp, by simp⟩
  · refine ⟨?_, (hb j (by show j < 23; omega)).2⟩
    have e := (hb j (by show j < 23; omega)).1
    refine Eq.trans e ?_
    rcases (by omega : j = 20 ∨ j = 21 ∨ j = 22) with rfl | rfl | rfl <;> rfl
set_option maxHeartbeats 4000000 in
theorem bnew_calls (w : World) : Calls Tryz.prog 31 #[] w (fun en w' => ∃ bb ib tb, en = .returned (.pointer (some ⟨bb, 0, none⟩)) ∧ w.heap.size ≤ bb ∧ w.heap.size ≤ ib ∧ w.heap.size ≤ tb ∧ Kp (fun _ => False) w w' ∧ Bt w' bb ib tb []) := by
  have hm1 := mk102d
  have hm2 := mk103d
  go_enter Tryz.func31, Tryz.ntmps31
  go_wp2_with fail
  go_region
  · go_wp2
    refine bodyPost_ret (v := .pointer (some ⟨w.heap.size + 1 + 1, 0, none⟩)) (by simp [results, Tryz.results31, go_sem]) rfl ?_
    have b2 := (blk_made w Z102 288 129).keep ((Kp.refl (fun _ => False) _).alloc (.cells (madeCells Z103b 24) 127)) (fun h => h)
    have b3 := blk_made (w.alloc (.cells (madeCells Z102 288) 129)) Z103b 24 127
    have hs : (w.alloc (.cells (madeCells Z102 288) 129)).heap.size = w.heap.size + 1 := by simp
    have hs2 : ((w.alloc (.cells (madeCells Z102 288) 129)).alloc (.cells (madeCells Z103b 24) 127)).heap.size = w.heap.size + 1 + 1 := by simp
    rw [hs] at b3
    have hbt := bt_new b2 b3 (by omega)
    rw [hs2] at hbt
    exact ⟨_, _, _, rfl, by omega, Nat.le_refl _, by omega, ((((Kp.refl _ _).alloc _).alloc _).alloc _).drew, hbt⟩
  · go_wp2
    refine bodyPost_ret (v := .pointer (some ⟨w.heap.size + 1 + 1, 0, none⟩)) (by simp [results, Tryz.results31, go_sem]) rfl ?_
    have b3 := (blk_made w Z103b 24 127).keep ((Kp.refl (fun _ => False) _).alloc (.cells (madeCells Z102 288) 129)) (fun h => h)
    have b2 := blk_made (w.alloc (.cells (madeCells Z103b 24) 127)) Z102 288 129
    have hs : (w.alloc (.cells (madeCells Z103b 24) 127)).heap.size = w.heap.size + 1 := by simp
    have hs2 : ((w.alloc (.cells (madeCells Z103b 24) 127)).alloc (.cells (madeCells Z102 288) 129)).heap.size = w.heap.size + 1 + 1 := by simp
    rw [hs] at b2
    have hbt := bt_new b2 b3 (by omega)
    rw [hs2] at hbt
    exact ⟨_, _, _, rfl, by omega, by omega, Nat.le_refl _, ((((Kp.refl _ _).alloc _).alloc _).alloc _).drew, hbt⟩
end Go.Proofs.Qxb6500275aGreatDoor
