import Derived.Test.Qxb6500275aGreatDoorPpb
set_option maxRecDepth 100000
set_option linter.unusedVariables false
set_option linter.unusedSimpArgs false
namespace Go.Proofs.Qxb6500275aGreatDoor
open Go Go.RowKit
section
variable {w : World} {pb cb x : Nat}
structure PrW (w : World) (pb cb x n : Nat) : Prop where
  c0 : w.cell? ⟨pb, 0, none⟩ = some (.slice (some ⟨cb, 0, none⟩) n 121)
  c1 : w.cell? ⟨pb, 1, none⟩ = some (.int .i64 x)
  c51 : w.cell? ⟨pb, 51, none⟩ = some (.int .i64 0)
  b : 1 ≤ n ∧ n ≤ x ∧ x ≤ 121
  z : w.cell? ⟨cb, 0, none⟩ = some (.int .u8 0) ∧ w.cell? ⟨cb, 1, none⟩ = some (.int .u32 0) ∧ w.cell? ⟨cb, 2, none⟩ = some (.int .u64 0)
  zs : ∀ i, x ≤ i → i < 121 → w.cell? ⟨cb, i * 3, none⟩ = some (.int .u8 0) ∧ w.cell? ⟨cb, i * 3 + 1, none⟩ = some (.int .u32 0) ∧ w.cell? ⟨cb, i * 3 + 2, none⟩ = some (.int .u64 0)
theorem Pr.walk (h : Pr w pb cb x) : ∃ n, PrW w pb cb x n := by
  obtain ⟨⟨F, G, cells, b1, b2, hl, hx, h51⟩, ne⟩ := h
  have hz : ∀ i : Nat, i < 121 → insP Ins.zero (fun k => G (i * 3 + k)) → w.cell? ⟨cb, i * 3, none⟩ = Option.some (Value.int .u8 0) ∧ w.cell? ⟨cb, i * 3 + 1, none⟩ = Option.some (Value.int .u32 0) ∧ w.cell? ⟨cb, i * 3 + 2, none⟩ = Option.some (Value.int .u64 0) := fun i hi hp => by
    obtain ⟨e0, e1, e2⟩ := hp
    dsimp only at e0 e1 e2
    rw [Nat.add_zero] at e0
    refine ⟨?_, ?_, ?_⟩
    · rw [b2.cell (by omega), e0]; rfl
    · rw [b2.cell (by omega), e1]; rfl
    · rw [b2.cell (by omega), e2]; rfl
  have h0 := hz 0 (by omega) (hl.cl 0 _ hl.z)
  refine ⟨cells.length, by rw [b1.cell (by decide), hl.sl], by rw [b1.cell (by decide), hl.hi.1], by rw [b1.cell (by decide), h51], ⟨(List.getElem?_eq_some_iff.1 hl.z).1, hx, hl.hi.2.2⟩, ⟨by simpa using h0.1, by simpa using h0.2.1, by simpa using h0.2.2⟩, fun i h1 h2 => hz i h2 (hl.zr i h1 (by omega) h2)⟩
set_option maxHeartbeats 4000000 in
theorem pcheck_calls (h : Pr w pb cb x) : Calls Tryz.prog 140 #[.pointer (some ⟨pb, 0, none⟩)] w (fun en w' => en = .returned (.bool true) ∧ Kp (fun _ => False) w w') := by
  obtain ⟨n, hw⟩ := h.walk
  have c0 := hw.c0
  have c1 := hw.c1
  have c51 := hw.c51
  have z0 := hw.z.1
  have z1 := hw.z.2.1
  have z2 := hw.z.2.2
  have HZ : Hid _ := hw.zs
  obtain ⟨hb1, hb2, hb3⟩ := hw.b
  clear hw h
  have i1 : decide ((n : Int) < 1) = false := decide_eq_false (by omega)
  have i2 : decide (x < n) = false := decide_eq_false (by omega)
  have i3 : decide ((121 : Int) < (x : Int)) = false := decide_eq_false (by omega)
  have i4 : decide ((2401 : Int) < (x : Int)) = false := decide_eq_false (by omega)
  have i1' : decide (n < 1) = false := decide_eq_false (by omega)
  have i2' : decide ((x : Int) < (n : Int)) = false := decide_eq_false (by omega)
  have i3' : decide (121 < x) = false := decide_eq_false (by omega)
  have i4' : decide (2401 < x) = false := decide_eq_false (by omega)
  go_enter Tryz.func140, Tryz.ntmps140
  go_wp2_with fail
  go_quiet (fail)
  go_wp2_with fail
  go_quiet (fail)
  go_wp2_with fail
  clear i1 i2 i3 i4 i1' i2' i3' i4' z0 z1 z2 c0 c1 c51
  go_loopw [5] (fun ii w1 => ∃ (i m : Nat), x ≤ i ∧ i ≤ 121 ∧ ii = .int .i64 i ∧ w1 = w.drewN m) (fun ii _ => 122 - (intOf ii).toNat)
  case atStart => exact ⟨x, _, by omega, by omega, rfl, rfl⟩
  case round =>
    obtain ⟨i, m, hi1, hi2, rfl, rfl⟩ := hrel
    by_cases hlt : i < 121
    · obtain ⟨z0, z1, z2⟩ := HZ.out i hi1 hlt
      have hb : (i : Int) < 121 := by omega
      go_wp2
      go_light
      exact ⟨⟨i + 1, m, by omega, by omega, by go_num, rfl⟩, by simp [intOf]; omega⟩
    · have hb : ¬ ((i : Int) < 121) := by omega
      go_wp2
      refine bodyPost_ret (v := .bool true) (by simp [results, Tryz.results140, go_sem]) rfl ?_
      exact ⟨rfl, (Kp.refl _ _).drewM _⟩
theorem mk102c (W : World) : (Instr.makeSlice 102 (.int .i64 1) (.int .i64 121)).run Tryz.prog W = .ok (.slice (some ⟨W.heap.size, 0, none⟩) 1 121) (W.alloc (.cells (madeCells Z102 363) 129)) :=
  make_c2 W 102 129 1 121 3 16 Z102 (by kernel_rfl) (by kernel_rfl) (by kernel_rfl) (by omega) (by omega) (by omega)
theorem blk_arr (w : World) (cs : Array Value) (e : TypeId) : Blk (w.alloc (.cells cs e)) w.heap.size cs.size (fun i => cs[i]!) := by
  intro i hi
  rw [World.cell?_alloc_at _ _ _ _ rfl, World.frozen?_alloc_at _ _ _ _ rfl]
  refine ⟨?_, rfl⟩
  dsimp only
  rw [Array.getElem?_eq_getElem hi, getElem!_pos cs i hi]
theorem blk_made1 (w : World) (o : Obj) (z : Array Value) (m e : Nat) : Blk ((w.alloc o).alloc (.cells (madeCells z m) e)) (w.heap.size + 1) m (fun i => z[i % z.size]!) := by
  have := blk_made (w.alloc o) z m e
  simpa using this
theorem zins (i : Nat) : insP Ins.zero (fun k => Z102[(i * 3 + k) % Z102.size]!) := by
  have h : ∀ k, k < 3 → (i * 3 + k) % Z102.size = k := fun k hk => by
    show (i * 3 + k) % 3 = k
    omega
  refine ⟨?_, ?_, ?_⟩
  · dsimp only; rw [h 0 (by omega)]; rfl
  · dsimp only; rw [h 1 (by omega)]; rfl
  · dsimp only; rw [h 2 (by omega)]; rfl
set_option maxHeartbeats 4000000 in
theorem pnew_calls (w : World) : Calls Tryz.prog 33 #[] w (fun en w' => en = .returned (.pointer (some ⟨w.heap.size, 0, none⟩)) ∧ Kp (fun _ => False) w w' ∧ Pr w' w.heap.size (w.heap.size + 1) 1) := by
  have hmk := mk102c
  go_enter Tryz.func33, Tryz.ntmps33
  go_wp2
  refine bodyPost_ret (v := .pointer (some ⟨w.heap.size, 0, none⟩)) (by simp [results, Tryz.results33, go_sem]) rfl ?_
  refine ⟨rfl, ((Kp.refl _ _).alloc _).alloc _, ⟨_, fun i => Z102[i % Z102.size]!, [Ins.zero], (blk_arr w _ _).keep ((Kp.refl (fun _ => False) _).alloc _) (fun h => h), ?_, ⟨rfl, ⟨rfl, by omega, by omega⟩, fun i _ _ _ => zins i, fun i c hc => ?_, rfl, by simp⟩, by simp, rfl⟩, by omega⟩
  · exact blk_made1 w _ Z102 363 129
  · have hi := (List.getElem?_eq_some_iff.1 hc).1
    have : i = 0 := by simp at hi; exact hi
    subst this
    simp at hc
    subst hc
    exact zins 0
end
end Go.Proofs.Qxb6500275aGreatDoor
