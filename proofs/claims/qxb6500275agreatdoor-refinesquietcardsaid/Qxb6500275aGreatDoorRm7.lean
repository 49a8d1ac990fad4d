import Derived.Test.Qxb6500275aGreatDoorRm6
import Derived.Test.Qxb6500275aGreatDoorSp10
set_option maxRecDepth 100000
set_option linter.unusedVariables false
set_option linter.unusedSimpArgs false
namespace Go.Proofs.Qxb6500275aGreatDoor
open Go Go.RowKit
section
variable {w w' : World} {sb : Nat} {vm vt vg : Value} {S : Sm} {P : Nat → Prop}
theorem mk_b (W : World) (n : Nat) (hn : n ≤ 1000) : (Instr.makeSlice 104 (.int .i64 (n : Int)) (.int .i64 (n : Int))).run Tryz.prog W = .ok (.slice (some ⟨W.heap.size, 0, none⟩) n n) (W.alloc (.cells (madeCells Z104 (n * 1)) 5)) :=
  make_n2 W 104 5 n 1 1 Z104 (by kernel_rfl) (by kernel_rfl) (by kernel_rfl) (by omega) (by omega)
theorem mk_g (W : World) (n : Nat) (hn : n ≤ 1000) : (Instr.makeSlice 67 (.int .i64 (n : Int)) (.int .i64 (n : Int))).run Tryz.prog W = .ok (.slice (some ⟨W.heap.size, 0, none⟩) n n) (W.alloc (.cells (madeCells #[.int .u64 0] (n * 1)) 91)) :=
  make_n2 W 67 91 n 1 8 #[.int .u64 0] (by kernel_rfl) (by kernel_rfl) (by kernel_rfl) (by omega) (by omega)
theorem mnew_m (w : World) : Calls Tryz.prog 75 #[] w (fun en w' => ∃ sb, en = .returned (.pointer (some ⟨sb, 0, none⟩)) ∧ Ms w' sb (.slice none 0 0) (.slice none 0 0) (.slice none 0 0) Sm.none ∧ Kp (fun _ => False) w w' ∧ w.heap.size ≤ sb) := by
  go_enter Tryz.func75, Tryz.ntmps75
  go_wp2
  refine bodyPost_ret (v := .pointer (some ⟨w.heap.size, 0, none⟩)) (by simp [results, Tryz.results75, go_sem]) rfl ?_
  refine ⟨w.heap.size, rfl, ⟨⟨_, blk_arr3 _ _ _, rfl, rfl, rfl, rfl, rfl⟩, OR.nil _ _ _, OR.nil _ _ _, OR.nil _ _ _, fun k e => (nil_own e).elim, fun k e => (nil_own e).elim, fun k e => (nil_own e).elim⟩, (Kp.refl _ _).alloc _, Nat.le_refl _⟩
set_option maxHeartbeats 8000000 in
theorem mreset_no (h : Ms w sb vm vt vg S)  (tm : Int) (ng : Nat) (ht : -1 ≤ tm ∧ tm ≤ 8) (hn : ng ≤ 4) : Calls Tryz.prog 192 #[.pointer (some ⟨sb, 0, none⟩), .int .i64 (-1), .int .i64 (-1), .int .i64 tm, .int .i64 ng] w (Rz w (Mt sb vm vt vg) sb ⟨false, [], 0, List.replicate tm.toNat (-1), List.replicate ng 0⟩) := by
  obtain ⟨c0, c1, c2, c3, c4⟩ := h.c
  have hsb := h.lt
  have hsb2 : sb ≠ w.heap.size := by omega
  have z0 := h.fz 0 (by decide)
  have z1 := h.fz 1 (by decide)
  have z2 := h.fz 2 (by decide)
  have z3 := h.fz 3 (by decide)
  have z4 := h.fz 4 (by decide)
  have HMG : Hid (∀ W : World, _ = _) := fun W => mk_g W ng (by omega)
  have k3 : ¬ tm < -1 := by omega
  have k3b : ¬ (8 : Int) < tm := by omega
  have k4 : ¬ (ng : Int) < 0 := by omega
  have k5 : ¬ (4 : Int) < (ng : Int) := by omega
  have k1 : ¬ (6 : Int) < -1 := by omega
  obtain ⟨W0, hW0⟩ : ∃ W0, ((((w.setCell ⟨sb, 0, none⟩ (.bool false)).setCell ⟨sb, 1, none⟩ (.slice none 0 0)).setCell ⟨sb, 2, none⟩ (.int .i64 0)).setCell ⟨sb, 3, none⟩ (.slice none 0 0)) = W0 := ⟨_, rfl⟩
  have hQ : Mq w W0 (Mt sb vm vt vg) sb (.slice none 0 0) (.slice none 0 0) vg { S with has := false, bs := [], cap := 0, tab := [] } := by
    rw [← hW0]
    exact ((((show Mq w w (Mt sb vm vt vg) sb vm vt vg S from ⟨h, Gw.refl _ _⟩).f0 false).fMn).fC 0).fTn
  have HQ : Hid _ := hQ
  have HW : Hid _ := hW0
  clear h hQ hW0
  go_enter Tryz.func192, Tryz.ntmps192
  go_wp2
  rw [HW.out]
  clear HW c0 c1 c2 c3 c4 z0 z1 z2 z3 z4
  go_loopw [11] (fun ii u => ∃ (i : Nat) (vi : Value), i ≤ tm.toNat ∧ ii = .int .i64 i ∧ Hid (Mq w u (Mt sb vm vt vg) sb (.slice none 0 0) vi vg { S with has := false, bs := [], cap := 0, tab := List.replicate i (-1) })) (fun ii _ => 9 - (intOf ii).toNat)
  case atStart => exact ⟨0, _, by omega, rfl, HQ.out⟩
  case round =>
    obtain ⟨i, vi, hi, rfl, HI⟩ := hrel
    by_cases hlt : (i : Int) < tm
    · have d3 := (HI.out.1.c).2.2.2.1
      obtain ⟨b2, cap2, hvi⟩ := HI.out.1.t.slice
      obtain ⟨v3, w3, r1, ⟨r2, r3⟩, r4⟩ := HI.out.pT (by dsimp only; rw [List.length_replicate]; omega) (-1)
      have HR : Hid (Mq w (w3.setCell ⟨sb, 3, none⟩ v3) (Mt sb vm vt vg) sb (.slice none 0 0) v3 vg { S with has := false, bs := [], cap := 0, tab := List.replicate (i + 1) (-1) }) := by
        have := r4
        dsimp only at this
        rw [← List.replicate_succ'] at this
        exact this
      obtain ⟨b3, cap3, hv3⟩ := r4.1.t.slice
      dsimp only at hvi hv3
      generalize List.length _ = n2 at hvi
      generalize List.length _ = n3 at hv3
      subst hvi hv3
      clear r4 HI
      go_wp2_with (at_builtin; refine wpList_app rfl _ _ 203 rfl r1 ?_)
      exact ⟨⟨i + 1, _, by omega, by go_num, HR.out⟩, by simp [intOf]; omega⟩
    · have he : i = tm.toNat := by omega
      have HE := HI.out.fGm ng (by omega)
      dsimp only at HE
      rw [show List.replicate i (-1 : Int) = List.replicate tm.toNat (-1) by rw [he]] at HE
      obtain ⟨W1, hW1⟩ : ∃ W1, wr.alloc (.cells (madeCells #[.int .u64 0] (ng * 1)) 91) = W1 := ⟨_, rfl⟩
      obtain ⟨k1, hk1⟩ : ∃ k1, wr.heap.size = k1 := ⟨_, rfl⟩
      have hA : Ms W1 sb (.slice none 0 0) vi vg _ := hW1 ▸ HI.out.1.keep ((Kp.refl (fun _ => False) wr).alloc (.cells (madeCells #[.int .u64 0] (ng * 1)) 91)) (fun _ _ h => h)
      rw [hW1, hk1] at HE
      have HE : Hid _ := HE
      obtain ⟨_, _, _, _, d4⟩ := hA.c
      have y4 := hA.fz 4 (by decide)
      have HW1 : Hid _ := hW1
      have HK1 : Hid _ := hk1
      clear he HI hi hA hW1 hk1
      go_wp2
      rw [HMG.out, HW1.out, HK1.out]
      go_wp2
      refine bodyPost_ret (v := .int .i64 0) (by simp [results, Tryz.results192, go_sem]) rfl ?_
      exact ⟨rfl, _, _, _, HE.out.1, HE.out.2⟩
set_option maxHeartbeats 8000000 in
theorem mreset_a (h : Ms w sb vm vt vg S) (n : Nat) (hm : n ≤ 6)  (tm : Int) (ng : Nat) (ht : -1 ≤ tm ∧ tm ≤ 8) (hn : ng ≤ 4) : Calls Tryz.prog 192 #[.pointer (some ⟨sb, 0, none⟩), .int .i64 (n : Int), .int .i64 (-1), .int .i64 tm, .int .i64 ng] w (Rz w (Mt sb vm vt vg) sb ⟨true, List.replicate (n * 64) 0, 6 * 64, List.replicate tm.toNat (-1), List.replicate ng 0⟩) := by
  obtain ⟨c0, c1, c2, c3, c4⟩ := h.c
  have hsb := h.lt
  have hsb2 : sb ≠ w.heap.size := by omega
  have z0 := h.fz 0 (by decide)
  have z1 := h.fz 1 (by decide)
  have z2 := h.fz 2 (by decide)
  have z3 := h.fz 3 (by decide)
  have z4 := h.fz 4 (by decide)
  have HMG : Hid (∀ W : World, _ = _) := fun W => mk_g W ng (by omega)
  have k3 : ¬ tm < -1 := by omega
  have k3b : ¬ (8 : Int) < tm := by omega
  have k4 : ¬ (ng : Int) < 0 := by omega
  have k5 : ¬ (4 : Int) < (ng : Int) := by omega
  have k1 : ¬ (n : Int) < -1 := by omega
  have k1b : ¬ (6 : Int) < (n : Int) := by omega
  have k1c : ((n : Int) == -1) = false := by rw [beq_eq_false_iff_ne]; omega
  have k1d : (0 : Int) ≤ (n : Int) := by omega
  have hmb := fun W => mk_b W (n * 64) (by omega)
  have hcast : ((n * 64 : Nat) : Int) = (n : Int) * 64 := by omega
  rw [hcast] at hmb
  have HMB : Hid (∀ W : World, _ = _) := hmb
  clear hcast hmb
  have q1 := (((show Mq w w (Mt sb vm vt vg) sb vm vt vg S from ⟨h, Gw.refl _ _⟩).f0 true).fMn).fC 0
  have q2 := q1.fMm (n * 64) (by omega)
  have hs : (((w.setCell ⟨sb, 0, none⟩ (.bool true)).setCell ⟨sb, 1, none⟩ (.slice none 0 0)).setCell ⟨sb, 2, none⟩ (.int .i64 0)).heap.size = w.heap.size := by simp only [World.size_setCell]
  obtain ⟨W9, hW9⟩ : ∃ W9, (((w.setCell ⟨sb, 0, none⟩ (.bool true)).setCell ⟨sb, 1, none⟩ (.slice none 0 0)).setCell ⟨sb, 2, none⟩ (.int .i64 0)).alloc (.cells (madeCells Z104 (n * 64 * 1)) 5) = W9 := ⟨_, rfl⟩
  have hq9 : Mq w W9 (Mt sb vm vt vg) sb _ _ _ _ := hW9 ▸ (show Mq w ((((w.setCell ⟨sb, 0, none⟩ (.bool true)).setCell ⟨sb, 1, none⟩ (.slice none 0 0)).setCell ⟨sb, 2, none⟩ (.int .i64 0)).alloc (.cells (madeCells Z104 (n * 64 * 1)) 5)) _ _ _ _ _ _ from ⟨q1.1.keep ((Kp.refl (fun _ => False) _).alloc _) (fun _ _ h => h), q1.2.quiet ((Kp.refl (fun _ => False) _).alloc _)⟩)
  have q2 : Mq w (W9.setCell ⟨sb, 1, none⟩ (.slice (some ⟨w.heap.size, 0, none⟩) (n * 64) (n * 64))) (Mt sb vm vt vg) sb (.slice (some ⟨w.heap.size, 0, none⟩) (n * 64) (n * 64)) vt vg { S with has := true, bs := List.replicate (n * 64) 0, cap := 0 } := by
    rw [← hW9, ← hs]
    exact q2

  obtain ⟨W0, hW0⟩ : ∃ W0, ((((W9.setCell ⟨sb, 1, none⟩ (.slice (some ⟨w.heap.size, 0, none⟩) (n * 64) (n * 64))).setCell ⟨sb, 2, none⟩ (.int .i64 6))).setCell ⟨sb, 3, none⟩ (.slice none 0 0)) = W0 := ⟨_, rfl⟩
  have hQ : Mq w W0 (Mt sb vm vt vg) sb (.slice (some ⟨w.heap.size, 0, none⟩) (n * 64) (n * 64)) (.slice none 0 0) vg { S with has := true, bs := List.replicate (n * 64) 0, cap := 6 * 64, tab := [] } := by
    rw [← hW0]
    exact (q2.fC 6).fTn
  have hm9 := hq9.1
  obtain ⟨e0, e1, e2, e3, e4⟩ := hm9.c
  have y1 := hm9.fz 1 (by decide)
  have y2 := hm9.fz 2 (by decide)
  have y3 := hm9.fz 3 (by decide)
  have HW9 : Hid _ := hW9
  have HHS : Hid _ := hs
  clear hq9 q1 q2 hs hm9 hW9 e0
  have HQ : Hid _ := hQ
  have HW : Hid _ := hW0
  clear h hQ hW0
  go_enter Tryz.func192, Tryz.ntmps192
  go_wp2
  rw [HMB.out, HW9.out, HHS.out]
  clear c0 c1 c2 c3 c4 z0 z1 z2 z3 z4
  go_wp2
  rw [HW.out]
  clear HW
  go_loopw [11] (fun ii u => ∃ (i : Nat) (vi : Value), i ≤ tm.toNat ∧ ii = .int .i64 i ∧ Hid (Mq w u (Mt sb vm vt vg) sb (.slice (some ⟨w.heap.size, 0, none⟩) (n * 64) (n * 64)) vi vg { S with has := true, bs := List.replicate (n * 64) 0, cap := 6 * 64, tab := List.replicate i (-1) })) (fun ii _ => 9 - (intOf ii).toNat)
  case atStart => exact ⟨0, _, by omega, rfl, HQ.out⟩
  case round =>
    obtain ⟨i, vi, hi, rfl, HI⟩ := hrel
    by_cases hlt : (i : Int) < tm
    · have d3 := (HI.out.1.c).2.2.2.1
      obtain ⟨b2, cap2, hvi⟩ := HI.out.1.t.slice
      obtain ⟨v3, w3, r1, ⟨r2, r3⟩, r4⟩ := HI.out.pT (by dsimp only; rw [List.length_replicate]; omega) (-1)
      have HR : Hid (Mq w (w3.setCell ⟨sb, 3, none⟩ v3) (Mt sb vm vt vg) sb (.slice (some ⟨w.heap.size, 0, none⟩) (n * 64) (n * 64)) v3 vg { S with has := true, bs := List.replicate (n * 64) 0, cap := 6 * 64, tab := List.replicate (i + 1) (-1) }) := by
        have := r4
        dsimp only at this
        rw [← List.replicate_succ'] at this
        exact this
      obtain ⟨b3, cap3, hv3⟩ := r4.1.t.slice
      dsimp only at hvi hv3
      generalize List.length _ = n2 at hvi
      generalize List.length _ = n3 at hv3
      subst hvi hv3
      clear r4 HI
      go_wp2_with (at_builtin; refine wpList_app rfl _ _ 203 rfl r1 ?_)
      exact ⟨⟨i + 1, _, by omega, by go_num, HR.out⟩, by simp [intOf]; omega⟩
    · have he : i = tm.toNat := by omega
      have HE := HI.out.fGm ng (by omega)
      dsimp only at HE
      rw [show List.replicate i (-1 : Int) = List.replicate tm.toNat (-1) by rw [he]] at HE
      obtain ⟨W1, hW1⟩ : ∃ W1, wr.alloc (.cells (madeCells #[.int .u64 0] (ng * 1)) 91) = W1 := ⟨_, rfl⟩
      obtain ⟨k1, hk1⟩ : ∃ k1, wr.heap.size = k1 := ⟨_, rfl⟩
      have hA : Ms W1 sb (.slice (some ⟨w.heap.size, 0, none⟩) (n * 64) (n * 64)) vi vg _ := hW1 ▸ HI.out.1.keep ((Kp.refl (fun _ => False) wr).alloc (.cells (madeCells #[.int .u64 0] (ng * 1)) 91)) (fun _ _ h => h)
      rw [hW1, hk1] at HE
      have HE : Hid _ := HE
      obtain ⟨_, _, _, _, d4⟩ := hA.c
      have y4 := hA.fz 4 (by decide)
      have HW1 : Hid _ := hW1
      have HK1 : Hid _ := hk1
      clear he HI hi hA hW1 hk1
      go_wp2
      rw [HMG.out, HW1.out, HK1.out]
      go_wp2
      refine bodyPost_ret (v := .int .i64 0) (by simp [results, Tryz.results192, go_sem]) rfl ?_
      exact ⟨rfl, _, _, _, HE.out.1, HE.out.2⟩
set_option maxHeartbeats 8000000 in
theorem mreset_b (h : Ms w sb vm vt vg S) (n : Nat) (hm : n ≤ 6) (mx : Nat) (h6 : n ≤ mx) (h7 : mx < 6) (tm : Int) (ng : Nat) (ht : -1 ≤ tm ∧ tm ≤ 8) (hn : ng ≤ 4) : Calls Tryz.prog 192 #[.pointer (some ⟨sb, 0, none⟩), .int .i64 (n : Int), .int .i64 (mx : Int), .int .i64 tm, .int .i64 ng] w (Rz w (Mt sb vm vt vg) sb ⟨true, List.replicate (n * 64) 0, mx * 64, List.replicate tm.toNat (-1), List.replicate ng 0⟩) := by
  obtain ⟨c0, c1, c2, c3, c4⟩ := h.c
  have hsb := h.lt
  have hsb2 : sb ≠ w.heap.size := by omega
  have z0 := h.fz 0 (by decide)
  have z1 := h.fz 1 (by decide)
  have z2 := h.fz 2 (by decide)
  have z3 := h.fz 3 (by decide)
  have z4 := h.fz 4 (by decide)
  have HMG : Hid (∀ W : World, _ = _) := fun W => mk_g W ng (by omega)
  have k3 : ¬ tm < -1 := by omega
  have k3b : ¬ (8 : Int) < tm := by omega
  have k4 : ¬ (ng : Int) < 0 := by omega
  have k5 : ¬ (4 : Int) < (ng : Int) := by omega
  have k1 : ¬ (n : Int) < -1 := by omega
  have k1b : ¬ (6 : Int) < (n : Int) := by omega
  have k1c : ((n : Int) == -1) = false := by rw [beq_eq_false_iff_ne]; omega
  have k1d : (0 : Int) ≤ (n : Int) := by omega
  have hmb := fun W => mk_b W (n * 64) (by omega)
  have hcast : ((n * 64 : Nat) : Int) = (n : Int) * 64 := by omega
  rw [hcast] at hmb
  have HMB : Hid (∀ W : World, _ = _) := hmb
  clear hcast hmb
  have k6 : ¬ (mx : Int) < -1 := by omega
  have k7 : ((mx : Int) == -1) = false := by rw [beq_eq_false_iff_ne]; omega
  have k7b : ((mx : Int) != -1) = true := by rw [bne, k7]; rfl
  have k8 : ¬ (mx : Int) < (n : Int) := by omega
  have k9 : (mx : Int) < 6 := by omega
  have q1 := (((show Mq w w (Mt sb vm vt vg) sb vm vt vg S from ⟨h, Gw.refl _ _⟩).f0 true).fMn).fC 0
  have q2 := q1.fMm (n * 64) (by omega)
  have hs : (((w.setCell ⟨sb, 0, none⟩ (.bool true)).setCell ⟨sb, 1, none⟩ (.slice none 0 0)).setCell ⟨sb, 2, none⟩ (.int .i64 0)).heap.size = w.heap.size := by simp only [World.size_setCell]
  obtain ⟨W9, hW9⟩ : ∃ W9, (((w.setCell ⟨sb, 0, none⟩ (.bool true)).setCell ⟨sb, 1, none⟩ (.slice none 0 0)).setCell ⟨sb, 2, none⟩ (.int .i64 0)).alloc (.cells (madeCells Z104 (n * 64 * 1)) 5) = W9 := ⟨_, rfl⟩
  have hq9 : Mq w W9 (Mt sb vm vt vg) sb _ _ _ _ := hW9 ▸ (show Mq w ((((w.setCell ⟨sb, 0, none⟩ (.bool true)).setCell ⟨sb, 1, none⟩ (.slice none 0 0)).setCell ⟨sb, 2, none⟩ (.int .i64 0)).alloc (.cells (madeCells Z104 (n * 64 * 1)) 5)) _ _ _ _ _ _ from ⟨q1.1.keep ((Kp.refl (fun _ => False) _).alloc _) (fun _ _ h => h), q1.2.quiet ((Kp.refl (fun _ => False) _).alloc _)⟩)
  have q2 : Mq w (W9.setCell ⟨sb, 1, none⟩ (.slice (some ⟨w.heap.size, 0, none⟩) (n * 64) (n * 64))) (Mt sb vm vt vg) sb (.slice (some ⟨w.heap.size, 0, none⟩) (n * 64) (n * 64)) vt vg { S with has := true, bs := List.replicate (n * 64) 0, cap := 0 } := by
    rw [← hW9, ← hs]
    exact q2

  obtain ⟨W0, hW0⟩ : ∃ W0, ((((W9.setCell ⟨sb, 1, none⟩ (.slice (some ⟨w.heap.size, 0, none⟩) (n * 64) (n * 64))).setCell ⟨sb, 2, none⟩ (.int .i64 6)).setCell ⟨sb, 2, none⟩ (.int .i64 (mx : Int))).setCell ⟨sb, 3, none⟩ (.slice none 0 0)) = W0 := ⟨_, rfl⟩
  have hQ : Mq w W0 (Mt sb vm vt vg) sb (.slice (some ⟨w.heap.size, 0, none⟩) (n * 64) (n * 64)) (.slice none 0 0) vg { S with has := true, bs := List.replicate (n * 64) 0, cap := mx * 64, tab := [] } := by
    rw [← hW0]
    exact ((q2.fC 6).fC mx).fTn
  have hm9 := hq9.1
  obtain ⟨e0, e1, e2, e3, e4⟩ := hm9.c
  have y1 := hm9.fz 1 (by decide)
  have y2 := hm9.fz 2 (by decide)
  have y3 := hm9.fz 3 (by decide)
  have HW9 : Hid _ := hW9
  have HHS : Hid _ := hs
  clear hq9 q1 q2 hs hm9 hW9 e0
  have HQ : Hid _ := hQ
  have HW : Hid _ := hW0
  clear h hQ hW0
  go_enter Tryz.func192, Tryz.ntmps192
  go_wp2
  rw [HMB.out, HW9.out, HHS.out]
  clear c0 c1 c2 c3 c4 z0 z1 z2 z3 z4
  go_wp2
  rw [HW.out]
  clear HW
  go_loopw [11] (fun ii u => ∃ (i : Nat) (vi : Value), i ≤ tm.toNat ∧ ii = .int .i64 i ∧ Hid (Mq w u (Mt sb vm vt vg) sb (.slice (some ⟨w.heap.size, 0, none⟩) (n * 64) (n * 64)) vi vg { S with has := true, bs := List.replicate (n * 64) 0, cap := mx * 64, tab := List.replicate i (-1) })) (fun ii _ => 9 - (intOf ii).toNat)
  case atStart => exact ⟨0, _, by omega, rfl, HQ.out⟩
  case round =>
    obtain ⟨i, vi, hi, rfl, HI⟩ := hrel
    by_cases hlt : (i : Int) < tm
    · have d3 := (HI.out.1.c).2.2.2.1
      obtain ⟨b2, cap2, hvi⟩ := HI.out.1.t.slice
      obtain ⟨v3, w3, r1, ⟨r2, r3⟩, r4⟩ := HI.out.pT (by dsimp only; rw [List.length_replicate]; omega) (-1)
      have HR : Hid (Mq w (w3.setCell ⟨sb, 3, none⟩ v3) (Mt sb vm vt vg) sb (.slice (some ⟨w.heap.size, 0, none⟩) (n * 64) (n * 64)) v3 vg { S with has := true, bs := List.replicate (n * 64) 0, cap := mx * 64, tab := List.replicate (i + 1) (-1) }) := by
        have := r4
        dsimp only at this
        rw [← List.replicate_succ'] at this
        exact this
      obtain ⟨b3, cap3, hv3⟩ := r4.1.t.slice
      dsimp only at hvi hv3
      generalize List.length _ = n2 at hvi
      generalize List.length _ = n3 at hv3
      subst hvi hv3
      clear r4 HI
      go_wp2_with (at_builtin; refine wpList_app rfl _ _ 203 rfl r1 ?_)
      exact ⟨⟨i + 1, _, by omega, by go_num, HR.out⟩, by simp [intOf]; omega⟩
    · have he : i = tm.toNat := by omega
      have HE := HI.out.fGm ng (by omega)
      dsimp only at HE
      rw [show List.replicate i (-1 : Int) = List.replicate tm.toNat (-1) by rw [he]] at HE
      obtain ⟨W1, hW1⟩ : ∃ W1, wr.alloc (.cells (madeCells #[.int .u64 0] (ng * 1)) 91) = W1 := ⟨_, rfl⟩
      obtain ⟨k1, hk1⟩ : ∃ k1, wr.heap.size = k1 := ⟨_, rfl⟩
      have hA : Ms W1 sb (.slice (some ⟨w.heap.size, 0, none⟩) (n * 64) (n * 64)) vi vg _ := hW1 ▸ HI.out.1.keep ((Kp.refl (fun _ => False) wr).alloc (.cells (madeCells #[.int .u64 0] (ng * 1)) 91)) (fun _ _ h => h)
      rw [hW1, hk1] at HE
      have HE : Hid _ := HE
      obtain ⟨_, _, _, _, d4⟩ := hA.c
      have y4 := hA.fz 4 (by decide)
      have HW1 : Hid _ := hW1
      have HK1 : Hid _ := hk1
      clear he HI hi hA hW1 hk1
      go_wp2
      rw [HMG.out, HW1.out, HK1.out]
      go_wp2
      refine bodyPost_ret (v := .int .i64 0) (by simp [results, Tryz.results192, go_sem]) rfl ?_
      exact ⟨rfl, _, _, _, HE.out.1, HE.out.2⟩
set_option maxHeartbeats 8000000 in
theorem mreset_c (h : Ms w sb vm vt vg S) (n : Nat) (hm : n ≤ 6) (mx : Nat) (h6 : 6 ≤ mx) (h7 : mx < 4294967296) (tm : Int) (ng : Nat) (ht : -1 ≤ tm ∧ tm ≤ 8) (hn : ng ≤ 4) : Calls Tryz.prog 192 #[.pointer (some ⟨sb, 0, none⟩), .int .i64 (n : Int), .int .i64 (mx : Int), .int .i64 tm, .int .i64 ng] w (Rz w (Mt sb vm vt vg) sb ⟨true, List.replicate (n * 64) 0, 6 * 64, List.replicate tm.toNat (-1), List.replicate ng 0⟩) := by
  obtain ⟨c0, c1, c2, c3, c4⟩ := h.c
  have hsb := h.lt
  have hsb2 : sb ≠ w.heap.size := by omega
  have z0 := h.fz 0 (by decide)
  have z1 := h.fz 1 (by decide)
  have z2 := h.fz 2 (by decide)
  have z3 := h.fz 3 (by decide)
  have z4 := h.fz 4 (by decide)
  have HMG : Hid (∀ W : World, _ = _) := fun W => mk_g W ng (by omega)
  have k3 : ¬ tm < -1 := by omega
  have k3b : ¬ (8 : Int) < tm := by omega
  have k4 : ¬ (ng : Int) < 0 := by omega
  have k5 : ¬ (4 : Int) < (ng : Int) := by omega
  have k1 : ¬ (n : Int) < -1 := by omega
  have k1b : ¬ (6 : Int) < (n : Int) := by omega
  have k1c : ((n : Int) == -1) = false := by rw [beq_eq_false_iff_ne]; omega
  have k1d : (0 : Int) ≤ (n : Int) := by omega
  have hmb := fun W => mk_b W (n * 64) (by omega)
  have hcast : ((n * 64 : Nat) : Int) = (n : Int) * 64 := by omega
  rw [hcast] at hmb
  have HMB : Hid (∀ W : World, _ = _) := hmb
  clear hcast hmb
  have k6 : ¬ (mx : Int) < -1 := by omega
  have k7 : ((mx : Int) == -1) = false := by rw [beq_eq_false_iff_ne]; omega
  have k7b : ((mx : Int) != -1) = true := by rw [bne, k7]; rfl
  have k8 : ¬ (mx : Int) < (n : Int) := by omega
  have k9 : ¬ (mx : Int) < 6 := by omega
  have q1 := (((show Mq w w (Mt sb vm vt vg) sb vm vt vg S from ⟨h, Gw.refl _ _⟩).f0 true).fMn).fC 0
  have q2 := q1.fMm (n * 64) (by omega)
  have hs : (((w.setCell ⟨sb, 0, none⟩ (.bool true)).setCell ⟨sb, 1, none⟩ (.slice none 0 0)).setCell ⟨sb, 2, none⟩ (.int .i64 0)).heap.size = w.heap.size := by simp only [World.size_setCell]
  obtain ⟨W9, hW9⟩ : ∃ W9, (((w.setCell ⟨sb, 0, none⟩ (.bool true)).setCell ⟨sb, 1, none⟩ (.slice none 0 0)).setCell ⟨sb, 2, none⟩ (.int .i64 0)).alloc (.cells (madeCells Z104 (n * 64 * 1)) 5) = W9 := ⟨_, rfl⟩
  have hq9 : Mq w W9 (Mt sb vm vt vg) sb _ _ _ _ := hW9 ▸ (show Mq w ((((w.setCell ⟨sb, 0, none⟩ (.bool true)).setCell ⟨sb, 1, none⟩ (.slice none 0 0)).setCell ⟨sb, 2, none⟩ (.int .i64 0)).alloc (.cells (madeCells Z104 (n * 64 * 1)) 5)) _ _ _ _ _ _ from ⟨q1.1.keep ((Kp.refl (fun _ => False) _).alloc _) (fun _ _ h => h), q1.2.quiet ((Kp.refl (fun _ => False) _).alloc _)⟩)
  have q2 : Mq w (W9.setCell ⟨sb, 1, none⟩ (.slice (some ⟨w.heap.size, 0, none⟩) (n * 64) (n * 64))) (Mt sb vm vt vg) sb (.slice (some ⟨w.heap.size, 0, none⟩) (n * 64) (n * 64)) vt vg { S with has := true, bs := List.replicate (n * 64) 0, cap := 0 } := by
    rw [← hW9, ← hs]
    exact q2

  obtain ⟨W0, hW0⟩ : ∃ W0, ((((W9.setCell ⟨sb, 1, none⟩ (.slice (some ⟨w.heap.size, 0, none⟩) (n * 64) (n * 64))).setCell ⟨sb, 2, none⟩ (.int .i64 6))).setCell ⟨sb, 3, none⟩ (.slice none 0 0)) = W0 := ⟨_, rfl⟩
  have hQ : Mq w W0 (Mt sb vm vt vg) sb (.slice (some ⟨w.heap.size, 0, none⟩) (n * 64) (n * 64)) (.slice none 0 0) vg { S with has := true, bs := List.replicate (n * 64) 0, cap := 6 * 64, tab := [] } := by
    rw [← hW0]
    exact (q2.fC 6).fTn
  have hm9 := hq9.1
  obtain ⟨e0, e1, e2, e3, e4⟩ := hm9.c
  have y1 := hm9.fz 1 (by decide)
  have y2 := hm9.fz 2 (by decide)
  have y3 := hm9.fz 3 (by decide)
  have HW9 : Hid _ := hW9
  have HHS : Hid _ := hs
  clear hq9 q1 q2 hs hm9 hW9 e0
  have HQ : Hid _ := hQ
  have HW : Hid _ := hW0
  clear h hQ hW0
  go_enter Tryz.func192, Tryz.ntmps192
  go_wp2
  rw [HMB.out, HW9.out, HHS.out]
  clear c0 c1 c2 c3 c4 z0 z1 z2 z3 z4
  go_wp2
  rw [HW.out]
  clear HW
  go_loopw [11] (fun ii u => ∃ (i : Nat) (vi : Value), i ≤ tm.toNat ∧ ii = .int .i64 i ∧ Hid (Mq w u (Mt sb vm vt vg) sb (.slice (some ⟨w.heap.size, 0, none⟩) (n * 64) (n * 64)) vi vg { S with has := true, bs := List.replicate (n * 64) 0, cap := 6 * 64, tab := List.replicate i (-1) })) (fun ii _ => 9 - (intOf ii).toNat)
  case atStart => exact ⟨0, _, by omega, rfl, HQ.out⟩
  case round =>
    obtain ⟨i, vi, hi, rfl, HI⟩ := hrel
    by_cases hlt : (i : Int) < tm
    · have d3 := (HI.out.1.c).2.2.2.1
      obtain ⟨b2, cap2, hvi⟩ := HI.out.1.t.slice
      obtain ⟨v3, w3, r1, ⟨r2, r3⟩, r4⟩ := HI.out.pT (by dsimp only; rw [List.length_replicate]; omega) (-1)
      have HR : Hid (Mq w (w3.setCell ⟨sb, 3, none⟩ v3) (Mt sb vm vt vg) sb (.slice (some ⟨w.heap.size, 0, none⟩) (n * 64) (n * 64)) v3 vg { S with has := true, bs := List.replicate (n * 64) 0, cap := 6 * 64, tab := List.replicate (i + 1) (-1) }) := by
        have := r4
        dsimp only at this
        rw [← List.replicate_succ'] at this
        exact this
      obtain ⟨b3, cap3, hv3⟩ := r4.1.t.slice
      dsimp only at hvi hv3
      generalize List.length _ = n2 at hvi
      generalize List.length _ = n3 at hv3
      subst hvi hv3
      clear r4 HI
      go_wp2_with (at_builtin; refine wpList_app rfl _ _ 203 rfl r1 ?_)
      exact ⟨⟨i + 1, _, by omega, by go_num, HR.out⟩, by simp [intOf]; omega⟩
    · have he : i = tm.toNat := by omega
      have HE := HI.out.fGm ng (by omega)
      dsimp only at HE
      rw [show List.replicate i (-1 : Int) = List.replicate tm.toNat (-1) by rw [he]] at HE
      obtain ⟨W1, hW1⟩ : ∃ W1, wr.alloc (.cells (madeCells #[.int .u64 0] (ng * 1)) 91) = W1 := ⟨_, rfl⟩
      obtain ⟨k1, hk1⟩ : ∃ k1, wr.heap.size = k1 := ⟨_, rfl⟩
      have hA : Ms W1 sb (.slice (some ⟨w.heap.size, 0, none⟩) (n * 64) (n * 64)) vi vg _ := hW1 ▸ HI.out.1.keep ((Kp.refl (fun _ => False) wr).alloc (.cells (madeCells #[.int .u64 0] (ng * 1)) 91)) (fun _ _ h => h)
      rw [hW1, hk1] at HE
      have HE : Hid _ := HE
      obtain ⟨_, _, _, _, d4⟩ := hA.c
      have y4 := hA.fz 4 (by decide)
      have HW1 : Hid _ := hW1
      have HK1 : Hid _ := hk1
      clear he HI hi hA hW1 hk1
      go_wp2
      rw [HMG.out, HW1.out, HK1.out]
      go_wp2
      refine bodyPost_ret (v := .int .i64 0) (by simp [results, Tryz.results192, go_sem]) rfl ?_
      exact ⟨rfl, _, _, _, HE.out.1, HE.out.2⟩
/- Reset: where the real's answers a store, the model's answers the same -/
theorem mreset_m (h : Ms w sb vm vt vg S) (mm mx tm : Int) (ng : Nat) (hn : ng ≤ 4) (hr : -1 ≤ mm ∧ mm < 4294967296 ∧ -1 ≤ mx ∧ mx < 4294967296 ∧ -1 ≤ tm ∧ tm < 4294967296) {R : Sm} (hR : resetS mm mx tm ng = some R) : Calls Tryz.prog 192 #[.pointer (some ⟨sb, 0, none⟩), .int .i64 mm, .int .i64 mx, .int .i64 tm, .int .i64 ng] w (Rz w (Mt sb vm vt vg) sb R) := by
  unfold resetS at hR
  rcases iteC hR with ⟨_, hR⟩ | ⟨h1, hR⟩
  · cases hR
  rcases iteC hR with ⟨_, hR⟩ | ⟨h2, hR⟩
  · cases hR
  rcases iteC hR with ⟨_, hR⟩ | ⟨h3, hR⟩
  · cases hR
  rcases iteC hR with ⟨_, hR⟩ | ⟨h4, hR⟩
  · cases hR
  injection hR with hR
  have ht : -1 ≤ tm ∧ tm ≤ 8 := by omega
  by_cases hm : mm = -1
  · have hx : mx = -1 := by
      by_cases e : mx = -1
      · exact e
      · exact absurd ⟨hm, e⟩ h3
    subst hm hx
    have e : R = ⟨false, [], 0, List.replicate tm.toNat (-1), List.replicate ng 0⟩ := by rw [← hR]; rfl
    rw [e]
    exact mreset_no h tm ng ht hn
  · obtain ⟨n, rfl⟩ : ∃ n : Nat, mm = (n : Int) := ⟨mm.toNat, by omega⟩
    have hd : decide (0 ≤ (n : Int)) = true := by simp
    have hng : ¬ (n : Int) < 0 := by omega
    rw [hd, if_neg hng, Int.toNat_natCast] at hR
    unfold capR at hR
    by_cases hx : mx = -1
    · subst hx
      rw [if_pos rfl] at hR
      rw [← hR]
      exact mreset_a h n (by omega) tm ng ht hn
    · obtain ⟨x, rfl⟩ : ∃ x : Nat, mx = (x : Int) := ⟨mx.toNat, by omega⟩
      rw [if_neg hx] at hR
      by_cases h6 : x < 6
      · rw [if_pos (by omega), Int.toNat_natCast] at hR
        rw [← hR]
        exact mreset_b h n (by omega) x (by omega) h6 tm ng ht hn
      · have hR2 : R = ⟨true, List.replicate (n * 64) 0, 6 * 64, List.replicate tm.toNat (-1), List.replicate ng 0⟩ := by
          rw [← hR]
          split
          · rename_i h7
            have : x = 6 := by omega
            subst this
            rfl
          · rfl
        rw [hR2]
        exact mreset_c h n (by omega) x (by omega) (by omega) tm ng ht hn
end
end Go.Proofs.Qxb6500275aGreatDoor
