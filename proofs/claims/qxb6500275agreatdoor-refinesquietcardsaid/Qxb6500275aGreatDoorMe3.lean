import Derived.Test.Qxb6500275aGreatDoorMe2
set_option maxRecDepth 100000
set_option linter.unusedVariables false
set_option linter.unusedSimpArgs false
namespace Go.Proofs.Qxb6500275aGreatDoor
open Go Go.RowKit
theorem at263 (W : World) (a : Option Addr) (n c : Nat) (h : 8 ≤ n) : (Instr.arrayAt 263 (.slice a n c)).run Tryz.prog W = .ok (.pointer a) W := by
  have h2 : Tryz.prog.underlying 263 = some (.array 8 5) := by kernel_rfl
  simp [Instr.arrayAt, run_underlying h2, Nat.not_lt.2 h]
section
variable {w w' : World} {sb rb : Nat} {S : Sm}
def byS (S : Sm) (i : Nat) : Nat := S.bs.getD i 0
theorem byS_at {i : Nat} (h : i < S.bs.length) : S.bs[i]? = some (byS S i) := by
  unfold byS
  rw [List.getD_eq_getElem?_getD, List.getElem?_eq_getElem h]; rfl
def loadV (op : Nat) (f : Nat → Nat) : Int :=
  if op = 44 then bits .and .u64 (IntKind.u64.wrap (wrap64 (IntKind.i8.wrap (f 0 : Int)))) 4294967295
  else if op = 45 ∨ op = 49 then (f 0 : Int)
  else if op = 48 then IntKind.u64.wrap (wrap64 (IntKind.i8.wrap (f 0 : Int)))
  else if op = 46 then IntKind.u64.wrap (wrap64 (IntKind.i16.wrap (halfS (f 0) (f 1)))) % 4294967296
  else if op = 50 then IntKind.u64.wrap (wrap64 (IntKind.i16.wrap (halfS (f 0) (f 1))))
  else if op = 47 ∨ op = 51 then IntKind.u64.wrap (halfS (f 0) (f 1))
  else if op = 52 then IntKind.u64.wrap (wrap64 (wrap32 (longS (f 0) (f 1) (f 2) (f 3))))
  else if op = 41 ∨ op = 43 then wordR f 8
  else IntKind.u64.wrap (longS (f 0) (f 1) (f 2) (f 3))
def widL (op : Nat) : Nat := if op = 44 ∨ op = 45 ∨ op = 48 ∨ op = 49 then 1 else if op = 46 ∨ op = 47 ∨ op = 50 ∨ op = 51 then 2 else if op = 41 ∨ op = 43 then 8 else 4
set_option maxHeartbeats 4000000 in
theorem load_40 (h : Mm w sb rb S) (hS : SmOk S) (a o : Nat) (ha : a < 4294967296) (ho : o < 4294967296) (hfit : a + o + 4 ≤ S.bs.length) : Calls Tryz.prog 101 #[.pointer (some ⟨sb, 0, none⟩), .int .i64 40, .int .u32 a, .int .u32 o] w (fun en w' => en = .returned (.tuple #[.int .u64 (loadV 40 (fun i => byS S (a + o + i))), .int .i64 0]) ∧ Kp (fun _ => False) w w') := by
  have hp := place_calls h hS a o 4 ha ho (by omega)
  rw [if_pos hfit] at hp
  obtain ⟨X, hX⟩ : ∃ X, loadV 40 (fun i => byS S (a + o + i)) = X := ⟨_, rfl⟩
  rw [hX]
  have HX : Hid _ := hX
  clear hX
  have hm := hS.m
  have hh := sm_has hS (by omega)
  have hc := h.cells
  have c2 := hc.c2
  rw [if_pos hh] at c2
  have e0 := long_calls h hS (a + o) _ _ _ _ (byS_at (by omega)) (byS_at (by omega)) (byS_at (by omega)) (byS_at (by omega))
  generalize hb0 : byS S (a + o) = b0 at *
  generalize hb1 : byS S (a + o + 1) = b1 at *
  generalize hb2 : byS S (a + o + 2) = b2 at *
  generalize hb3 : byS S (a + o + 3) = b3 at *
  generalize S.bs.length = m at *
  obtain ⟨q, hq⟩ : ∃ q, a + o = q := ⟨_, rfl⟩
  rw [hq] at e0 hp hfit
  have HQ : Hid _ := hq
  clear hc h hh hq
  go_enter Tryz.func101, Tryz.ntmps101
  go_wp2_with fail
  refine hp.mono ?_
  rintro en w6 ⟨rfl, rfl⟩
  clear hp
  go_wp2_with fail
  refine e0.mono ?_
  rintro en w7 ⟨rfl, hk7⟩
  go_wp2_with fail
  refine bodyPost_ret (v := .tuple #[.int .u64 (IntKind.u64.wrap (longS b0 b1 b2 b3)), .int .i64 0]) (by simp [results, Tryz.results101, go_sem]) rfl ?_
  rw [← HX.out]
  exact ⟨by simp [loadV, hb0, hb1, hb2, hb3], hk7⟩
set_option maxHeartbeats 4000000 in
theorem load_41 (h : Mm w sb rb S) (hS : SmOk S) (a o : Nat) (ha : a < 4294967296) (ho : o < 4294967296) (hfit : a + o + 8 ≤ S.bs.length) : Calls Tryz.prog 101 #[.pointer (some ⟨sb, 0, none⟩), .int .i64 41, .int .u32 a, .int .u32 o] w (fun en w' => en = .returned (.tuple #[.int .u64 (loadV 41 (fun i => byS S (a + o + i))), .int .i64 0]) ∧ Kp (fun _ => False) w w') := by
  have hp := place_calls h hS a o 8 ha ho (by omega)
  rw [if_pos hfit] at hp
  obtain ⟨X, hX⟩ : ∃ X, loadV 41 (fun i => byS S (a + o + i)) = X := ⟨_, rfl⟩
  rw [hX]
  have HX : Hid _ := hX
  clear hX
  have hm := hS.m
  have hh := sm_has hS (by omega)
  have hc := h.cells
  have c2 := hc.c2
  rw [if_pos hh] at c2
  have e0 := mword_calls (w := w) (rb := rb) (a := a + o) (f := fun i => byS S (a + o + i)) (fun i hi => ⟨hc.bb (a + o + i) _ (byS_at (by omega)) (by omega), hS.b _ (List.mem_of_getElem? (byS_at (S := S) (i := a + o + i) (by omega)))⟩)
  generalize hb0 : wordR (fun i => byS S (a + o + i)) 8 = b0 at *
  have hat := fun (W : World) (p : Option Addr) (c : Nat) => at263 W p (S.bs.length - (a + o)) c (by omega)
  generalize S.bs.length = m at *
  obtain ⟨q, hq⟩ : ∃ q, a + o = q := ⟨_, rfl⟩
  rw [hq] at e0 hp hfit hat
  have HQ : Hid _ := hq
  clear hc h hh hq
  go_enter Tryz.func101, Tryz.ntmps101
  go_wp2_with fail
  refine hp.mono ?_
  rintro en w6 ⟨rfl, rfl⟩
  clear hp
  go_wp2_with fail
  refine e0.mono ?_
  rintro en w7 ⟨rfl, hk7⟩
  go_wp2_with fail
  refine bodyPost_ret (v := .tuple #[.int .u64 (b0), .int .i64 0]) (by simp [results, Tryz.results101, go_sem]) rfl ?_
  rw [← HX.out]
  exact ⟨by simp [loadV, hb0], Kp.refl _ _⟩
set_option maxHeartbeats 4000000 in
theorem load_42 (h : Mm w sb rb S) (hS : SmOk S) (a o : Nat) (ha : a < 4294967296) (ho : o < 4294967296) (hfit : a + o + 4 ≤ S.bs.length) : Calls Tryz.prog 101 #[.pointer (some ⟨sb, 0, none⟩), .int .i64 42, .int .u32 a, .int .u32 o] w (fun en w' => en = .returned (.tuple #[.int .u64 (loadV 42 (fun i => byS S (a + o + i))), .int .i64 0]) ∧ Kp (fun _ => False) w w') := by
  have hp := place_calls h hS a o 4 ha ho (by omega)
  rw [if_pos hfit] at hp
  obtain ⟨X, hX⟩ : ∃ X, loadV 42 (fun i => byS S (a + o + i)) = X := ⟨_, rfl⟩
  rw [hX]
  have HX : Hid _ := hX
  clear hX
  have hm := hS.m
  have hh := sm_has hS (by omega)
  have hc := h.cells
  have c2 := hc.c2
  rw [if_pos hh] at c2
  have e0 := long_calls h hS (a + o) _ _ _ _ (byS_at (by omega)) (byS_at (by omega)) (byS_at (by omega)) (byS_at (by omega))
  generalize hb0 : byS S (a + o) = b0 at *
  generalize hb1 : byS S (a + o + 1) = b1 at *
  generalize hb2 : byS S (a + o + 2) = b2 at *
  generalize hb3 : byS S (a + o + 3) = b3 at *
  generalize S.bs.length = m at *
  obtain ⟨q, hq⟩ : ∃ q, a + o = q := ⟨_, rfl⟩
  rw [hq] at e0 hp hfit
  have HQ : Hid _ := hq
  clear hc h hh hq
  go_enter Tryz.func101, Tryz.ntmps101
  go_wp2_with fail
  refine hp.mono ?_
  rintro en w6 ⟨rfl, rfl⟩
  clear hp
  go_wp2_with fail
  refine e0.mono ?_
  rintro en w7 ⟨rfl, hk7⟩
  go_wp2_with fail
  refine bodyPost_ret (v := .tuple #[.int .u64 (IntKind.u64.wrap (longS b0 b1 b2 b3)), .int .i64 0]) (by simp [results, Tryz.results101, go_sem]) rfl ?_
  rw [← HX.out]
  exact ⟨by simp [loadV, hb0, hb1, hb2, hb3], hk7⟩
set_option maxHeartbeats 4000000 in
theorem load_43 (h : Mm w sb rb S) (hS : SmOk S) (a o : Nat) (ha : a < 4294967296) (ho : o < 4294967296) (hfit : a + o + 8 ≤ S.bs.length) : Calls Tryz.prog 101 #[.pointer (some ⟨sb, 0, none⟩), .int .i64 43, .int .u32 a, .int .u32 o] w (fun en w' => en = .returned (.tuple #[.int .u64 (loadV 43 (fun i => byS S (a + o + i))), .int .i64 0]) ∧ Kp (fun _ => False) w w') := by
  have hp := place_calls h hS a o 8 ha ho (by omega)
  rw [if_pos hfit] at hp
  obtain ⟨X, hX⟩ : ∃ X, loadV 43 (fun i => byS S (a + o + i)) = X := ⟨_, rfl⟩
  rw [hX]
  have HX : Hid _ := hX
  clear hX
  have hm := hS.m
  have hh := sm_has hS (by omega)
  have hc := h.cells
  have c2 := hc.c2
  rw [if_pos hh] at c2
  have e0 := mword_calls (w := w) (rb := rb) (a := a + o) (f := fun i => byS S (a + o + i)) (fun i hi => ⟨hc.bb (a + o + i) _ (byS_at (by omega)) (by omega), hS.b _ (List.mem_of_getElem? (byS_at (S := S) (i := a + o + i) (by omega)))⟩)
  generalize hb0 : wordR (fun i => byS S (a + o + i)) 8 = b0 at *
  have hat := fun (W : World) (p : Option Addr) (c : Nat) => at263 W p (S.bs.length - (a + o)) c (by omega)
  generalize S.bs.length = m at *
  obtain ⟨q, hq⟩ : ∃ q, a + o = q := ⟨_, rfl⟩
  rw [hq] at e0 hp hfit hat
  have HQ : Hid _ := hq
  clear hc h hh hq
  go_enter Tryz.func101, Tryz.ntmps101
  go_wp2_with fail
  refine hp.mono ?_
  rintro en w6 ⟨rfl, rfl⟩
  clear hp
  go_wp2_with fail
  refine e0.mono ?_
  rintro en w7 ⟨rfl, hk7⟩
  go_wp2_with fail
  refine bodyPost_ret (v := .tuple #[.int .u64 (b0), .int .i64 0]) (by simp [results, Tryz.results101, go_sem]) rfl ?_
  rw [← HX.out]
  exact ⟨by simp [loadV, hb0], Kp.refl _ _⟩
set_option maxHeartbeats 4000000 in
theorem load_44 (h : Mm w sb rb S) (hS : SmOk S) (a o : Nat) (ha : a < 4294967296) (ho : o < 4294967296) (hfit : a + o + 1 ≤ S.bs.length) : Calls Tryz.prog 101 #[.pointer (some ⟨sb, 0, none⟩), .int .i64 44, .int .u32 a, .int .u32 o] w (fun en w' => en = .returned (.tuple #[.int .u64 (loadV 44 (fun i => byS S (a + o + i))), .int .i64 0]) ∧ Kp (fun _ => False) w w') := by
  have hp := place_calls h hS a o 1 ha ho (by omega)
  rw [if_pos hfit] at hp
  obtain ⟨X, hX⟩ : ∃ X, loadV 44 (fun i => byS S (a + o + i)) = X := ⟨_, rfl⟩
  rw [hX]
  have HX : Hid _ := hX
  clear hX
  have hm := hS.m
  have hh := sm_has hS (by omega)
  have hc := h.cells
  have c2 := hc.c2
  rw [if_pos hh] at c2
  have e0 := hc.bb (a + o) _ (byS_at (by omega)) (by omega)
  have r0 := hS.b _ (List.mem_of_getElem? (byS_at (S := S) (i := a + o) (by omega)))
  generalize hb0 : byS S (a + o) = b0 at *
  generalize S.bs.length = m at *
  obtain ⟨q, hq⟩ : ∃ q, a + o = q := ⟨_, rfl⟩
  rw [hq] at e0 hp hfit
  have HQ : Hid _ := hq
  clear hc h hh hq
  go_enter Tryz.func101, Tryz.ntmps101
  go_wp2_with fail
  refine hp.mono ?_
  rintro en w6 ⟨rfl, rfl⟩
  clear hp
  go_wp2_with fail
  refine bodyPost_ret (v := .tuple #[.int .u64 (bits .and .u64 (IntKind.u64.wrap (wrap64 (IntKind.i8.wrap (b0 : Int)))) 4294967295), .int .i64 0]) (by simp [results, Tryz.results101, go_sem]) rfl ?_
  rw [← HX.out]
  exact ⟨by simp [loadV, hb0], Kp.refl _ _⟩
set_option maxHeartbeats 4000000 in
theorem load_45 (h : Mm w sb rb S) (hS : SmOk S) (a o : Nat) (ha : a < 4294967296) (ho : o < 4294967296) (hfit : a + o + 1 ≤ S.bs.length) : Calls Tryz.prog 101 #[.pointer (some ⟨sb, 0, none⟩), .int .i64 45, .int .u32 a, .int .u32 o] w (fun en w' => en = .returned (.tuple #[.int .u64 (loadV 45 (fun i => byS S (a + o + i))), .int .i64 0]) ∧ Kp (fun _ => False) w w') := by
  have hp := place_calls h hS a o 1 ha ho (by omega)
  rw [if_pos hfit] at hp
  obtain ⟨X, hX⟩ : ∃ X, loadV 45 (fun i => byS S (a + o + i)) = X := ⟨_, rfl⟩
  rw [hX]
  have HX : Hid _ := hX
  clear hX
  have hm := hS.m
  have hh := sm_has hS (by omega)
  have hc := h.cells
  have c2 := hc.c2
  rw [if_pos hh] at c2
  have e0 := hc.bb (a + o) _ (byS_at (by omega)) (by omega)
  have r0 := hS.b _ (List.mem_of_getElem? (byS_at (S := S) (i := a + o) (by omega)))
  generalize hb0 : byS S (a + o) = b0 at *
  generalize S.bs.length = m at *
  obtain ⟨q, hq⟩ : ∃ q, a + o = q := ⟨_, rfl⟩
  rw [hq] at e0 hp hfit
  have HQ : Hid _ := hq
  clear hc h hh hq
  go_enter Tryz.func101, Tryz.ntmps101
  go_wp2_with fail
  refine hp.mono ?_
  rintro en w6 ⟨rfl, rfl⟩
  clear hp
  go_wp2_with fail
  refine bodyPost_ret (v := .tuple #[.int .u64 ((b0 : Int)), .int .i64 0]) (by simp [results, Tryz.results101, go_sem]) rfl ?_
  rw [← HX.out]
  exact ⟨by simp [loadV, hb0], Kp.refl _ _⟩
set_option maxHeartbeats 4000000 in
theorem load_46 (h : Mm w sb rb S) (hS : SmOk S) (a o : Nat) (ha : a < 4294967296) (ho : o < 4294967296) (hfit : a + o + 2 ≤ S.bs.length) : Calls Tryz.prog 101 #[.pointer (some ⟨sb, 0, none⟩), .int .i64 46, .int .u32 a, .int .u32 o] w (fun en w' => en = .returned (.tuple #[.int .u64 (loadV 46 (fun i => byS S (a + o + i))), .int .i64 0]) ∧ Kp (fun _ => False) w w') := by
  have hp := place_calls h hS a o 2 ha ho (by omega)
  rw [if_pos hfit] at hp
  obtain ⟨X, hX⟩ : ∃ X, loadV 46 (fun i => byS S (a + o + i)) = X := ⟨_, rfl⟩
  rw [hX]
  have HX : Hid _ := hX
  clear hX
  have hm := hS.m
  have hh := sm_has hS (by omega)
  have hc := h.cells
  have c2 := hc.c2
  rw [if_pos hh] at c2
  have e0 := half_calls h hS (a + o) _ _ (byS_at (by omega)) (byS_at (by omega))
  generalize hb0 : byS S (a + o) = b0 at *
  generalize hb1 : byS S (a + o + 1) = b1 at *
  generalize S.bs.length = m at *
  obtain ⟨q, hq⟩ : ∃ q, a + o = q := ⟨_, rfl⟩
  rw [hq] at e0 hp hfit
  have HQ : Hid _ := hq
  clear hc h hh hq
  go_enter Tryz.func101, Tryz.ntmps101
  go_wp2_with fail
  refine hp.mono ?_
  rintro en w6 ⟨rfl, rfl⟩
  clear hp
  go_wp2_with fail
  refine e0.mono ?_
  rintro en w7 ⟨rfl, hk7⟩
  go_wp2_with fail
  refine bodyPost_ret (v := .tuple #[.int .u64 (IntKind.u64.wrap (wrap64 (IntKind.i16.wrap (halfS b0 b1))) % 4294967296), .int .i64 0]) (by simp [results, Tryz.results101, go_sem]) rfl ?_
  rw [← HX.out]
  exact ⟨by simp [loadV, hb0, hb1], hk7⟩
set_option maxHeartbeats 4000000 in
theorem load_47 (h : Mm w sb rb S) (hS : SmOk S) (a o : Nat) (ha : a < 4294967296) (ho : o < 4294967296) (hfit : a + o + 2 ≤ S.bs.length) : Calls Tryz.prog 101 #[.pointer (some ⟨sb, 0, none⟩), .int .i64 47, .int .u32 a, .int .u32 o] w (fun en w' => en = .returned (.tuple #[.int .u64 (loadV 47 (fun i => byS S (a + o + i))), .int .i64 0]) ∧ Kp (fun _ => False) w w') := by
  have hp := place_calls h hS a o 2 ha ho (by omega)
  rw [if_pos hfit] at hp
  obtain ⟨X, hX⟩ : ∃ X, loadV 47 (fun i => byS S (a + o + i)) = X := ⟨_, rfl⟩
  rw [hX]
  have HX : Hid _ := hX
  clear hX
  have hm := hS.m
  have hh := sm_has hS (by omega)
  have hc := h.cells
  have c2 := hc.c2
  rw [if_pos hh] at c2
  have e0 := half_calls h hS (a + o) _ _ (byS_at (by omega)) (byS_at (by omega))
  generalize hb0 : byS S (a + o) = b0 at *
  generalize hb1 : byS S (a + o + 1) = b1 at *
  generalize S.bs.length = m at *
  obtain ⟨q, hq⟩ : ∃ q, a + o = q := ⟨_, rfl⟩
  rw [hq] at e0 hp hfit
  have HQ : Hid _ := hq
  clear hc h hh hq
  go_enter Tryz.func101, Tryz.ntmps101
  go_wp2_with fail
  refine hp.mono ?_
  rintro en w6 ⟨rfl, rfl⟩
  clear hp
  go_wp2_with fail
  refine e0.mono ?_
  rintro en w7 ⟨rfl, hk7⟩
  go_wp2_with fail
  refine bodyPost_ret (v := .tuple #[.int .u64 (IntKind.u64.wrap (halfS b0 b1)), .int .i64 0]) (by simp [results, Tryz.results101, go_sem]) rfl ?_
  rw [← HX.out]
  exact ⟨by simp [loadV, hb0, hb1], hk7⟩
set_option maxHeartbeats 4000000 in
theorem load_48 (h : Mm w sb rb S) (hS : SmOk S) (a o : Nat) (ha : a < 4294967296) (ho : o < 4294967296) (hfit : a + o + 1 ≤ S.bs.length) : Calls Tryz.prog 101 #[.pointer (some ⟨sb, 0, none⟩), .int .i64 48, .int .u32 a, .int .u32 o] w (fun en w' => en = .returned (.tuple #[.int .u64 (loadV 48 (fun i => byS S (a + o + i))), .int .i64 0]) ∧ Kp (fun _ => False) w w') := by
  have hp := place_calls h hS a o 1 ha ho (by omega)
  rw [if_pos hfit] at hp
  obtain ⟨X, hX⟩ : ∃ X, loadV 48 (fun i => byS S (a + o + i)) = X := ⟨_, rfl⟩
  rw [hX]
  have HX : Hid _ := hX
  clear hX
  have hm := hS.m
  have hh := sm_has hS (by omega)
  have hc := h.cells
  have c2 := hc.c2
  rw [if_pos hh] at c2
  have e0 := hc.bb (a + o) _ (byS_at (by omega)) (by omega)
  have r0 := hS.b _ (List.mem_of_getElem? (byS_at (S := S) (i := a + o) (by omega)))
  generalize hb0 : byS S (a + o) = b0 at *
  generalize S.bs.length = m at *
  obtain ⟨q, hq⟩ : ∃ q, a + o = q := ⟨_, rfl⟩
  rw [hq] at e0 hp hfit
  have HQ : Hid _ := hq
  clear hc h hh hq
  go_enter Tryz.func101, Tryz.ntmps101
  go_wp2_with fail
  refine hp.mono ?_
  rintro en w6 ⟨rfl, rfl⟩
  clear hp
  go_wp2_with fail
  refine bodyPost_ret (v := .tuple #[.int .u64 (IntKind.u64.wrap (wrap64 (IntKind.i8.wrap (b0 : Int)))), .int .i64 0]) (by simp [results, Tryz.results101, go_sem]) rfl ?_
  rw [← HX.out]
  exact ⟨by simp [loadV, hb0], Kp.refl _ _⟩
set_option maxHeartbeats 4000000 in
theorem load_49 (h : Mm w sb rb S) (hS : SmOk S) (a o : Nat) (ha : a < 4294967296) (ho : o < 4294967296) (hfit : a + o + 1 ≤ S.bs.length) : Calls Tryz.prog 101 #[.pointer (some ⟨sb, 0, none⟩), .int .i64 49, .int .u32 a, .int .u32 o] w (fun en w' => en = .returned (.tuple #[.int .u64 (loadV 49 (fun i => byS S (a + o + i))), .int .i64 0]) ∧ Kp (fun _ => False) w w') := by
  have hp := place_calls h hS a o 1 ha ho (by omega)
  rw [if_pos hfit] at hp
  obtain ⟨X, hX⟩ : ∃ X, loadV 49 (fun i => byS S (a + o + i)) = X := ⟨_, rfl⟩
  rw [hX]
  have HX : Hid _ := hX
  clear hX
  have hm := hS.m
  have hh := sm_has hS (by omega)
  have hc := h.cells
  have c2 := hc.c2
  rw [if_pos hh] at c2
  have e0 := hc.bb (a + o) _ (byS_at (by omega)) (by omega)
  have r0 := hS.b _ (List.mem_of_getElem? (byS_at (S := S) (i := a + o) (by omega)))
  generalize hb0 : byS S (a + o) = b0 at *
  generalize S.bs.length = m at *
  obtain ⟨q, hq⟩ : ∃ q, a + o = q := ⟨_, rfl⟩
  rw [hq] at e0 hp hfit
  have HQ : Hid _ := hq
  clear hc h hh hq
  go_enter Tryz.func101, Tryz.ntmps101
  go_wp2_with fail
  refine hp.mono ?_
  rintro en w6 ⟨rfl, rfl⟩
  clear hp
  go_wp2_with fail
  refine bodyPost_ret (v := .tuple #[.int .u64 ((b0 : Int)), .int .i64 0]) (by simp [results, Tryz.results101, go_sem]) rfl ?_
  rw [← HX.out]
  exact ⟨by simp [loadV, hb0], Kp.refl _ _⟩
set_option maxHeartbeats 4000000 in
theorem load_50 (h : Mm w sb rb S) (hS : SmOk S) (a o : Nat) (ha : a < 4294967296) (ho : o < 4294967296) (hfit : a + o + 2 ≤ S.bs.length) : Calls Tryz.prog 101 #[.pointer (some ⟨sb, 0, none⟩), .int .i64 50, .int .u32 a, .int .u32 o] w (fun en w' => en = .returned (.tuple #[.int .u64 (loadV 50 (fun i => byS S (a + o + i))), .int .i64 0]) ∧ Kp (fun _ => False) w w') := by
  have hp := place_calls h hS a o 2 ha ho (by omega)
  rw [if_pos hfit] at hp
  obtain ⟨X, hX⟩ : ∃ X, loadV 50 (fun i => byS S (a + o + i)) = X := ⟨_, rfl⟩
  rw [hX]
  have HX : Hid _ := hX
  clear hX
  have hm := hS.m
  have hh := sm_has hS (by omega)
  have hc := h.cells
  have c2 := hc.c2
  rw [if_pos hh] at c2
  have e0 := half_calls h hS (a + o) _ _ (byS_at (by omega)) (byS_at (by omega))
  generalize hb0 : byS S (a + o) = b0 at *
  generalize hb1 : byS S (a + o + 1) = b1 at *
  generalize S.bs.length = m at *
  obtain ⟨q, hq⟩ : ∃ q, a + o = q := ⟨_, rfl⟩
  rw [hq] at e0 hp hfit
  have HQ : Hid _ := hq
  clear hc h hh hq
  go_enter Tryz.func101, Tryz.ntmps101
  go_wp2_with fail
  refine hp.mono ?_
  rintro en w6 ⟨rfl, rfl⟩
  clear hp
  go_wp2_with fail
  refine e0.mono ?_
  rintro en w7 ⟨rfl, hk7⟩
  go_wp2_with fail
  refine bodyPost_ret (v := .tuple #[.int .u64 (IntKind.u64.wrap (wrap64 (IntKind.i16.wrap (halfS b0 b1)))), .int .i64 0]) (by simp [results, Tryz.results101, go_sem]) rfl ?_
  rw [← HX.out]
  exact ⟨by simp [loadV, hb0, hb1], hk7⟩
set_option maxHeartbeats 4000000 in
theorem load_51 (h : Mm w sb rb S) (hS : SmOk S) (a o : Nat) (ha : a < 4294967296) (ho : o < 4294967296) (hfit : a + o + 2 ≤ S.bs.length) : Calls Tryz.prog 101 #[.pointer (some ⟨sb, 0, none⟩), .int .i64 51, .int .u32 a, .int .u32 o] w (fun en w' => en = .returned (.tuple #[.int .u64 (loadV 51 (fun i => byS S (a + o + i))), .int .i64 0]) ∧ Kp (fun _ => False) w w') := by
  have hp := place_calls h hS a o 2 ha ho (by omega)
  rw [if_pos hfit] at hp
  obtain ⟨X, hX⟩ : ∃ X, loadV 51 (fun i => byS S (a + o + i)) = X := ⟨_, rfl⟩
  rw [hX]
  have HX : Hid _ := hX
  clear hX
  have hm := hS.m
  have hh := sm_has hS (by omega)
  have hc := h.cells
  have c2 := hc.c2
  rw [if_pos hh] at c2
  have e0 := half_calls h hS (a + o) _ _ (byS_at (by omega)) (byS_at (by omega))
  generalize hb0 : byS S (a + o) = b0 at *
  generalize hb1 : byS S (a + o + 1) = b1 at *
  generalize S.bs.length = m at *
  obtain ⟨q, hq⟩ : ∃ q, a + o = q := ⟨_, rfl⟩
  rw [hq] at e0 hp hfit
  have HQ : Hid _ := hq
  clear hc h hh hq
  go_enter Tryz.func101, Tryz.ntmps101
  go_wp2_with fail
  refine hp.mono ?_
  rintro en w6 ⟨rfl, rfl⟩
  clear hp
  go_wp2_with fail
  refine e0.mono ?_
  rintro en w7 ⟨rfl, hk7⟩
  go_wp2_with fail
  refine bodyPost_ret (v := .tuple #[.int .u64 (IntKind.u64.wrap (halfS b0 b1)), .int .i64 0]) (by simp [results, Tryz.results101, go_sem]) rfl ?_
  rw [← HX.out]
  exact ⟨by simp [loadV, hb0, hb1], hk7⟩
set_option maxHeartbeats 4000000 in
theorem load_52 (h : Mm w sb rb S) (hS : SmOk S) (a o : Nat) (ha : a < 4294967296) (ho : o < 4294967296) (hfit : a + o + 4 ≤ S.bs.length) : Calls Tryz.prog 101 #[.pointer (some ⟨sb, 0, none⟩), .int .i64 52, .int .u32 a, .int .u32 o] w (fun en w' => en = .returned (.tuple #[.int .u64 (loadV 52 (fun i => byS S (a + o + i))), .int .i64 0]) ∧ Kp (fun _ => False) w w') := by
  have hp := place_calls h hS a o 4 ha ho (by omega)
  rw [if_pos hfit] at hp
  obtain ⟨X, hX⟩ : ∃ X, loadV 52 (fun i => byS S (a + o + i)) = X := ⟨_, rfl⟩
  rw [hX]
  have HX : Hid _ := hX
  clear hX
  have hm := hS.m
  have hh := sm_has hS (by omega)
  have hc := h.cells
  have c2 := hc.c2
  rw [if_pos hh] at c2
  have e0 := long_calls h hS (a + o) _ _ _ _ (byS_at (by omega)) (byS_at (by omega)) (byS_at (by omega)) (byS_at (by omega))
  generalize hb0 : byS S (a + o) = b0 at *
  generalize hb1 : byS S (a + o + 1) = b1 at *
  generalize hb2 : byS S (a + o + 2) = b2 at *
  generalize hb3 : byS S (a + o + 3) = b3 at *
  generalize S.bs.length = m at *
  obtain ⟨q, hq⟩ : ∃ q, a + o = q := ⟨_, rfl⟩
  rw [hq] at e0 hp hfit
  have HQ : Hid _ := hq
  clear hc h hh hq
  go_enter Tryz.func101, Tryz.ntmps101
  go_wp2_with fail
  refine hp.mono ?_
  rintro en w6 ⟨rfl, rfl⟩
  clear hp
  go_wp2_with fail
  refine e0.mono ?_
  rintro en w7 ⟨rfl, hk7⟩
  go_wp2_with fail
  refine bodyPost_ret (v := .tuple #[.int .u64 (IntKind.u64.wrap (wrap64 (wrap32 (longS b0 b1 b2 b3)))), .int .i64 0]) (by simp [results, Tryz.results101, go_sem]) rfl ?_
  rw [← HX.out]
  exact ⟨by simp [loadV, hb0, hb1, hb2, hb3], hk7⟩
set_option maxHeartbeats 4000000 in
theorem load_53 (h : Mm w sb rb S) (hS : SmOk S) (a o : Nat) (ha : a < 4294967296) (ho : o < 4294967296) (hfit : a + o + 4 ≤ S.bs.length) : Calls Tryz.prog 101 #[.pointer (some ⟨sb, 0, none⟩), .int .i64 53, .int .u32 a, .int .u32 o] w (fun en w' => en = .returned (.tuple #[.int .u64 (loadV 53 (fun i => byS S (a + o + i))), .int .i64 0]) ∧ Kp (fun _ => False) w w') := by
  have hp := place_calls h hS a o 4 ha ho (by omega)
  rw [if_pos hfit] at hp
  obtain ⟨X, hX⟩ : ∃ X, loadV 53 (fun i => byS S (a + o + i)) = X := ⟨_, rfl⟩
  rw [hX]
  have HX : Hid _ := hX
  clear hX
  have hm := hS.m
  have hh := sm_has hS (by omega)
  have hc := h.cells
  have c2 := hc.c2
  rw [if_pos hh] at c2
  have e0 := long_calls h hS (a + o) _ _ _ _ (byS_at (by omega)) (byS_at (by omega)) (byS_at (by omega)) (byS_at (by omega))
  generalize hb0 : byS S (a + o) = b0 at *
  generalize hb1 : byS S (a + o + 1) = b1 at *
  generalize hb2 : byS S (a + o + 2) = b2 at *
  generalize hb3 : byS S (a + o + 3) = b3 at *
  generalize S.bs.length = m at *
  obtain ⟨q, hq⟩ : ∃ q, a + o = q := ⟨_, rfl⟩
  rw [hq] at e0 hp hfit
  have HQ : Hid _ := hq
  clear hc h hh hq
  go_enter Tryz.func101, Tryz.ntmps101
  go_wp2_with fail
  refine hp.mono ?_
  rintro en w6 ⟨rfl, rfl⟩
  clear hp
  go_wp2_with fail
  refine e0.mono ?_
  rintro en w7 ⟨rfl, hk7⟩
  go_wp2_with fail
  refine bodyPost_ret (v := .tuple #[.int .u64 (IntKind.u64.wrap (longS b0 b1 b2 b3)), .int .i64 0]) (by simp [results, Tryz.results101, go_sem]) rfl ?_
  rw [← HX.out]
  exact ⟨by simp [loadV, hb0, hb1, hb2, hb3], hk7⟩
end
end Go.Proofs.Qxb6500275aGreatDoor
