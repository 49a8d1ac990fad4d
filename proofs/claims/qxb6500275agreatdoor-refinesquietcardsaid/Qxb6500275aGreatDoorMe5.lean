import Derived.Test.Qxb6500275aGreatDoorMe4
set_option maxRecDepth 100000
set_option linter.unusedVariables false
set_option linter.unusedSimpArgs false
namespace Go.Proofs.Qxb6500275aGreatDoor
open Go Go.RowKit
/- n bytes are put at i, the low one first -/
def putB : Nat → List Nat → Nat → Nat → List Nat
  | 0, bs, _, _ => bs
  | n + 1, bs, i, v => putB n (bs.set i (v % 256)) (i + 1) (v / 256)
theorem at262' (n : Nat) (h : 4 ≤ n) (W : World) (a : Option Addr) (c : Nat) : (Instr.arrayAt 262 (.slice a n c)).run Tryz.prog W = .ok (.pointer a) W := by
  have h2 : Tryz.prog.underlying 262 = some (.array 4 5) := by kernel_rfl
  simp [Instr.arrayAt, run_underlying h2, Nat.not_lt.2 h]
theorem at263' (n : Nat) (h : 8 ≤ n) (W : World) (a : Option Addr) (c : Nat) : (Instr.arrayAt 263 (.slice a n c)).run Tryz.prog W = .ok (.pointer a) W := at263 W a n c h
section
variable {w w' : World} {sb rb : Nat} {S : Sm}
theorem Mm.setB (h : Mm w sb rb S) {i : Nat} (hi : i < 384) (b : Nat) : Mm (w.setCell ⟨rb, i, none⟩ (.int .u8 (b : Int))) sb rb { S with bs := S.bs.set i b } := by
  obtain ⟨⟨F, G, b1, b2, hl⟩, ne⟩ := h
  refine ⟨⟨F, _, b1.other ne _, b2.set (i := i) hi _, ⟨hl.bk, hl.hs, ?_, hl.tb, hl.nt, hl.gb, hl.ng, fun j t hj => ?_⟩⟩, ne⟩
  · dsimp only; rw [List.length_set]; exact hl.mm
  · dsimp only at hj
    rw [List.getElem?_set] at hj
    by_cases e : i = j
    · subst e
      rw [if_pos rfl] at hj
      split at hj
      · simp at hj; rw [upd_same, hj]
      · simp at hj
    · rw [if_neg e] at hj
      rw [upd_ne _ _ (by omega)]
      exact hl.bb j t hj
theorem Mm.bz (h : Mm w sb rb S) {i : Nat} (hi : i < 384) : (∃ v, w.cell? ⟨rb, i, none⟩ = some v) ∧ w.frozen? ⟨rb, i, none⟩ = false := by
  obtain ⟨⟨F, G, b1, b2, hl⟩, ne⟩ := h
  exact ⟨⟨_, b2.cell hi⟩, b2.fz hi⟩
set_option maxHeartbeats 4000000 in
theorem save_54 (h : Mm w sb rb S) (hS : SmOk S) (a o v : Nat) (ha : a < 4294967296) (ho : o < 4294967296) (hv : v < 18446744073709551616) (hfit : a + o + 4 ≤ S.bs.length) : Calls Tryz.prog 102 #[.pointer (some ⟨sb, 0, none⟩), .int .i64 54, .int .u32 a, .int .u32 o, .int .u64 v] w (fun en w' => en = .returned (.int .i64 0) ∧ Kp (· = rb) w w' ∧ Mm w' sb rb { S with bs := putB 4 S.bs (a + o) (v % 4294967296) }) := by
  have hp := place_calls h hS a o 4 ha ho (by omega)
  rw [if_pos hfit] at hp
  have hm := hS.m
  have hh := sm_has hS (by omega)
  have c2 := h.cells.c2
  rw [if_pos hh] at c2
  have hne := h.ne
  obtain ⟨q, hq⟩ : ∃ q, a + o = q := ⟨_, rfl⟩
  rw [hq] at hp hfit
  rw [hq]
  have HM : Hid _ := h
  obtain ⟨m, hm'⟩ : ∃ m, S.bs.length = m := ⟨_, rfl⟩
  rw [hm'] at c2 hm hfit
  have HL : Hid _ := hm'
  have HS : Hid _ := hS
  clear h hh hq hm' hS
  obtain ⟨R, hR⟩ : ∃ R, putB 4 S.bs q (v % 4294967296) = R := ⟨_, rfl⟩
  rw [hR]
  have HB : Hid _ := hR
  clear hR
  go_enter Tryz.func102, Tryz.ntmps102
  go_wp2_with fail
  refine hp.mono ?_
  rintro en w6 ⟨rfl, rfl⟩
  clear hp
  have hat := at262' (m - q) (by omega)
  go_wp2
  go_loopw [15, 88] (fun uu ii w1 => ∃ (i u : Nat) (B : List Nat), i ≤ 4 ∧ ii = .int .i64 i ∧ uu = .int .u32 u ∧ u < 4294967296 ∧ Hid (Kp (· = rb) w6 w1) ∧ Hid (Mm w1 sb rb { S with bs := B }) ∧ Hid (putB (4 - i) B (q + i) u = R)) (fun _ ii _ => 5 - (intOf ii).toNat)
  case atStart => exact ⟨0, (v % 4294967296), S.bs, by omega, rfl, by first | rfl | (simp [IntKind.wrap]; try omega), by omega, Kp.refl _ _, HM.out, HB.out⟩
  case round =>
    obtain ⟨i, u, B, hi, rfl, rfl, hu, HK, HM2, HR⟩ := hrel
    by_cases hlt : i < 4
    · obtain ⟨⟨v0, c0⟩, f0⟩ := HM2.out.bz (i := q + i) (by omega)
      have hb : (i : Int) < 4 := by omega
      go_wp2
      go_light
      refine ⟨⟨i + 1, u / 256, B.set (q + i) (u % 256), by omega, by go_num, by go_num, by omega, HK.out.setCell (p := ⟨rb, q + i, none⟩) (.inl rfl) _, ?_, ?_⟩, by simp [intOf]; omega⟩
      · exact HM2.out.setB (i := q + i) (by omega) (u % 256)
      · have := HR.out
        rw [show 4 - i = (4 - (i + 1)) + 1 by omega, putB] at this
        exact this
    · have hb : ¬ ((i : Int) < 4) := by omega
      have h8 : i = 4 := by omega
      subst h8
      go_wp2
      refine bodyPost_ret (v := .int .i64 0) (by simp [results, Tryz.results102, go_sem]) rfl ?_
      have := HR.out
      rw [Nat.sub_self, putB] at this
      subst this
      exact ⟨rfl, HK.out, HM2.out⟩
set_option maxHeartbeats 4000000 in
theorem save_55 (h : Mm w sb rb S) (hS : SmOk S) (a o v : Nat) (ha : a < 4294967296) (ho : o < 4294967296) (hv : v < 18446744073709551616) (hfit : a + o + 8 ≤ S.bs.length) : Calls Tryz.prog 102 #[.pointer (some ⟨sb, 0, none⟩), .int .i64 55, .int .u32 a, .int .u32 o, .int .u64 v] w (fun en w' => en = .returned (.int .i64 0) ∧ Kp (· = rb) w w' ∧ Mm w' sb rb { S with bs := putB 8 S.bs (a + o) v }) := by
  have hp := place_calls h hS a o 8 ha ho (by omega)
  rw [if_pos hfit] at hp
  have hm := hS.m
  have hh := sm_has hS (by omega)
  have c2 := h.cells.c2
  rw [if_pos hh] at c2
  have hne := h.ne
  obtain ⟨q, hq⟩ : ∃ q, a + o = q := ⟨_, rfl⟩
  rw [hq] at hp hfit
  rw [hq]
  have HM : Hid _ := h
  obtain ⟨m, hm'⟩ : ∃ m, S.bs.length = m := ⟨_, rfl⟩
  rw [hm'] at c2 hm hfit
  have HL : Hid _ := hm'
  have HS : Hid _ := hS
  clear h hh hq hm' hS
  obtain ⟨R, hR⟩ : ∃ R, putB 8 S.bs q v = R := ⟨_, rfl⟩
  rw [hR]
  have HB : Hid _ := hR
  clear hR
  go_enter Tryz.func102, Tryz.ntmps102
  go_wp2_with fail
  refine hp.mono ?_
  rintro en w6 ⟨rfl, rfl⟩
  clear hp
  have hat := at263' (m - q) (by omega)
  go_wp2
  go_loopw [4, 109] (fun uu ii w1 => ∃ (i u : Nat) (B : List Nat), i ≤ 8 ∧ ii = .int .i64 i ∧ uu = .int .u64 u ∧ u < 18446744073709551616 ∧ Hid (Kp (· = rb) w6 w1) ∧ Hid (Mm w1 sb rb { S with bs := B }) ∧ Hid (putB (8 - i) B (q + i) u = R)) (fun _ ii _ => 9 - (intOf ii).toNat)
  case atStart => exact ⟨0, v, S.bs, by omega, rfl, rfl, by omega, Kp.refl _ _, HM.out, HB.out⟩
  case round =>
    obtain ⟨i, u, B, hi, rfl, rfl, hu, HK, HM2, HR⟩ := hrel
    by_cases hlt : i < 8
    · obtain ⟨⟨v0, c0⟩, f0⟩ := HM2.out.bz (i := q + i) (by omega)
      have hb : (i : Int) < 8 := by omega
      go_wp2
      go_light
      refine ⟨⟨i + 1, u / 256, B.set (q + i) (u % 256), by omega, by go_num, by go_num, by omega, HK.out.setCell (p := ⟨rb, q + i, none⟩) (.inl rfl) _, ?_, ?_⟩, by simp [intOf]; omega⟩
      · exact HM2.out.setB (i := q + i) (by omega) (u % 256)
      · have := HR.out
        rw [show 8 - i = (8 - (i + 1)) + 1 by omega, putB] at this
        exact this
    · have hb : ¬ ((i : Int) < 8) := by omega
      have h8 : i = 8 := by omega
      subst h8
      go_wp2
      refine bodyPost_ret (v := .int .i64 0) (by simp [results, Tryz.results102, go_sem]) rfl ?_
      have := HR.out
      rw [Nat.sub_self, putB] at this
      subst this
      exact ⟨rfl, HK.out, HM2.out⟩
set_option maxHeartbeats 4000000 in
theorem save_56 (h : Mm w sb rb S) (hS : SmOk S) (a o v : Nat) (ha : a < 4294967296) (ho : o < 4294967296) (hv : v < 18446744073709551616) (hfit : a + o + 4 ≤ S.bs.length) : Calls Tryz.prog 102 #[.pointer (some ⟨sb, 0, none⟩), .int .i64 56, .int .u32 a, .int .u32 o, .int .u64 v] w (fun en w' => en = .returned (.int .i64 0) ∧ Kp (· = rb) w w' ∧ Mm w' sb rb { S with bs := putB 4 S.bs (a + o) (v % 4294967296) }) := by
  have hp := place_calls h hS a o 4 ha ho (by omega)
  rw [if_pos hfit] at hp
  have hm := hS.m
  have hh := sm_has hS (by omega)
  have c2 := h.cells.c2
  rw [if_pos hh] at c2
  have hne := h.ne
  obtain ⟨q, hq⟩ : ∃ q, a + o = q := ⟨_, rfl⟩
  rw [hq] at hp hfit
  rw [hq]
  have HM : Hid _ := h
  obtain ⟨m, hm'⟩ : ∃ m, S.bs.length = m := ⟨_, rfl⟩
  rw [hm'] at c2 hm hfit
  have HL : Hid _ := hm'
  have HS : Hid _ := hS
  clear h hh hq hm' hS
  obtain ⟨R, hR⟩ : ∃ R, putB 4 S.bs q (v % 4294967296) = R := ⟨_, rfl⟩
  rw [hR]
  have HB : Hid _ := hR
  clear hR
  go_enter Tryz.func102, Tryz.ntmps102
  go_wp2_with fail
  refine hp.mono ?_
  rintro en w6 ⟨rfl, rfl⟩
  clear hp
  have hat := at262' (m - q) (by omega)
  go_wp2
  go_loopw [15, 88] (fun uu ii w1 => ∃ (i u : Nat) (B : List Nat), i ≤ 4 ∧ ii = .int .i64 i ∧ uu = .int .u32 u ∧ u < 4294967296 ∧ Hid (Kp (· = rb) w6 w1) ∧ Hid (Mm w1 sb rb { S with bs := B }) ∧ Hid (putB (4 - i) B (q + i) u = R)) (fun _ ii _ => 5 - (intOf ii).toNat)
  case atStart => exact ⟨0, (v % 4294967296), S.bs, by omega, rfl, by first | rfl | (simp [IntKind.wrap]; try omega), by omega, Kp.refl _ _, HM.out, HB.out⟩
  case round =>
    obtain ⟨i, u, B, hi, rfl, rfl, hu, HK, HM2, HR⟩ := hrel
    by_cases hlt : i < 4
    · obtain ⟨⟨v0, c0⟩, f0⟩ := HM2.out.bz (i := q + i) (by omega)
      have hb : (i : Int) < 4 := by omega
      go_wp2
      go_light
      refine ⟨⟨i + 1, u / 256, B.set (q + i) (u % 256), by omega, by go_num, by go_num, by omega, HK.out.setCell (p := ⟨rb, q + i, none⟩) (.inl rfl) _, ?_, ?_⟩, by simp [intOf]; omega⟩
      · exact HM2.out.setB (i := q + i) (by omega) (u % 256)
      · have := HR.out
        rw [show 4 - i = (4 - (i + 1)) + 1 by omega, putB] at this
        exact this
    · have hb : ¬ ((i : Int) < 4) := by omega
      have h8 : i = 4 := by omega
      subst h8
      go_wp2
      refine bodyPost_ret (v := .int .i64 0) (by simp [results, Tryz.results102, go_sem]) rfl ?_
      have := HR.out
      rw [Nat.sub_self, putB] at this
      subst this
      exact ⟨rfl, HK.out, HM2.out⟩
set_option maxHeartbeats 4000000 in
theorem save_57 (h : Mm w sb rb S) (hS : SmOk S) (a o v : Nat) (ha : a < 4294967296) (ho : o < 4294967296) (hv : v < 18446744073709551616) (hfit : a + o + 8 ≤ S.bs.length) : Calls Tryz.prog 102 #[.pointer (some ⟨sb, 0, none⟩), .int .i64 57, .int .u32 a, .int .u32 o, .int .u64 v] w (fun en w' => en = .returned (.int .i64 0) ∧ Kp (· = rb) w w' ∧ Mm w' sb rb { S with bs := putB 8 S.bs (a + o) v }) := by
  have hp := place_calls h hS a o 8 ha ho (by omega)
  rw [if_pos hfit] at hp
  have hm := hS.m
  have hh := sm_has hS (by omega)
  have c2 := h.cells.c2
  rw [if_pos hh] at c2
  have hne := h.ne
  obtain ⟨q, hq⟩ : ∃ q, a + o = q := ⟨_, rfl⟩
  rw [hq] at hp hfit
  rw [hq]
  have HM : Hid _ := h
  obtain ⟨m, hm'⟩ : ∃ m, S.bs.length = m := ⟨_, rfl⟩
  rw [hm'] at c2 hm hfit
  have HL : Hid _ := hm'
  have HS : Hid _ := hS
  clear h hh hq hm' hS
  obtain ⟨R, hR⟩ : ∃ R, putB 8 S.bs q v = R := ⟨_, rfl⟩
  rw [hR]
  have HB : Hid _ := hR
  clear hR
  go_enter Tryz.func102, Tryz.ntmps102
  go_wp2_with fail
  refine hp.mono ?_
  rintro en w6 ⟨rfl, rfl⟩
  clear hp
  have hat := at263' (m - q) (by omega)
  go_wp2
  go_loopw [4, 109] (fun uu ii w1 => ∃ (i u : Nat) (B : List Nat), i ≤ 8 ∧ ii = .int .i64 i ∧ uu = .int .u64 u ∧ u < 18446744073709551616 ∧ Hid (Kp (· = rb) w6 w1) ∧ Hid (Mm w1 sb rb { S with bs := B }) ∧ Hid (putB (8 - i) B (q + i) u = R)) (fun _ ii _ => 9 - (intOf ii).toNat)
  case atStart => exact ⟨0, v, S.bs, by omega, rfl, rfl, by omega, Kp.refl _ _, HM.out, HB.out⟩
  case round =>
    obtain ⟨i, u, B, hi, rfl, rfl, hu, HK, HM2, HR⟩ := hrel
    by_cases hlt : i < 8
    · obtain ⟨⟨v0, c0⟩, f0⟩ := HM2.out.bz (i := q + i) (by omega)
      have hb : (i : Int) < 8 := by omega
      go_wp2
      go_light
      refine ⟨⟨i + 1, u / 256, B.set (q + i) (u % 256), by omega, by go_num, by go_num, by omega, HK.out.setCell (p := ⟨rb, q + i, none⟩) (.inl rfl) _, ?_, ?_⟩, by simp [intOf]; omega⟩
      · exact HM2.out.setB (i := q + i) (by omega) (u % 256)
      · have := HR.out
        rw [show 8 - i = (8 - (i + 1)) + 1 by omega, putB] at this
        exact this
    · have hb : ¬ ((i : Int) < 8) := by omega
      have h8 : i = 8 := by omega
      subst h8
      go_wp2
      refine bodyPost_ret (v := .int .i64 0) (by simp [results, Tryz.results102, go_sem]) rfl ?_
      have := HR.out
      rw [Nat.sub_self, putB] at this
      subst this
      exact ⟨rfl, HK.out, HM2.out⟩
set_option maxHeartbeats 4000000 in
theorem save_58 (h : Mm w sb rb S) (hS : SmOk S) (a o v : Nat) (ha : a < 4294967296) (ho : o < 4294967296) (hv : v < 18446744073709551616) (hfit : a + o + 1 ≤ S.bs.length) : Calls Tryz.prog 102 #[.pointer (some ⟨sb, 0, none⟩), .int .i64 58, .int .u32 a, .int .u32 o, .int .u64 v] w (fun en w' => en = .returned (.int .i64 0) ∧ Kp (· = rb) w w' ∧ Mm w' sb rb { S with bs := putB 1 S.bs (a + o) v }) := by
  have hp := place_calls h hS a o 1 ha ho (by omega)
  rw [if_pos hfit] at hp
  have hm := hS.m
  have hh := sm_has hS (by omega)
  have c2 := h.cells.c2
  rw [if_pos hh] at c2
  have hne := h.ne
  obtain ⟨q, hq⟩ : ∃ q, a + o = q := ⟨_, rfl⟩
  rw [hq] at hp hfit
  rw [hq]
  have HM : Hid _ := h
  obtain ⟨m, hm'⟩ : ∃ m, S.bs.length = m := ⟨_, rfl⟩
  rw [hm'] at c2 hm hfit
  have HL : Hid _ := hm'
  have HS : Hid _ := hS
  clear h hh hq hm' hS
  obtain ⟨⟨v0, c0⟩, f0⟩ := HM.out.bz (i := q) (by omega)
  go_enter Tryz.func102, Tryz.ntmps102
  go_wp2_with fail
  refine hp.mono ?_
  rintro en w6 ⟨rfl, rfl⟩
  clear hp
  go_wp2_with fail
  refine bodyPost_ret (v := .int .i64 0) (by simp [results, Tryz.results102, go_sem]) rfl ?_
  have := HM.out.setB (i := q) (by omega) (v % 256)
  exact ⟨rfl, (Kp.refl (fun k => k = rb) _).setCell (p := ⟨rb, q, none⟩) (.inl rfl) _, by simpa [putB] using this⟩
set_option maxHeartbeats 4000000 in
theorem save_59 (h : Mm w sb rb S) (hS : SmOk S) (a o v : Nat) (ha : a < 4294967296) (ho : o < 4294967296) (hv : v < 18446744073709551616) (hfit : a + o + 2 ≤ S.bs.length) : Calls Tryz.prog 102 #[.pointer (some ⟨sb, 0, none⟩), .int .i64 59, .int .u32 a, .int .u32 o, .int .u64 v] w (fun en w' => en = .returned (.int .i64 0) ∧ Kp (· = rb) w w' ∧ Mm w' sb rb { S with bs := putB 2 S.bs (a + o) (v % 65536) }) := by
  have hp := place_calls h hS a o 2 ha ho (by omega)
  rw [if_pos hfit] at hp
  have hm := hS.m
  have hh := sm_has hS (by omega)
  have c2 := h.cells.c2
  rw [if_pos hh] at c2
  have hne := h.ne
  obtain ⟨q, hq⟩ : ∃ q, a + o = q := ⟨_, rfl⟩
  rw [hq] at hp hfit
  rw [hq]
  have HM : Hid _ := h
  obtain ⟨m, hm'⟩ : ∃ m, S.bs.length = m := ⟨_, rfl⟩
  rw [hm'] at c2 hm hfit
  have HL : Hid _ := hm'
  have HS : Hid _ := hS
  clear h hh hq hm' hS
  obtain ⟨⟨v0, c0⟩, f0⟩ := HM.out.bz (i := q) (by omega)
  obtain ⟨⟨v1, c1⟩, f1⟩ := HM.out.bz (i := q + 1) (by omega)
  go_enter Tryz.func102, Tryz.ntmps102
  go_wp2_with fail
  refine hp.mono ?_
  rintro en w6 ⟨rfl, rfl⟩
  clear hp
  go_wp2_with fail
  refine bodyPost_ret (v := .int .i64 0) (by simp [results, Tryz.results102, go_sem]) rfl ?_
  have hw : IntKind.u16.wrap (v : Int) = ((v % 65536 : Nat) : Int) := by simp [IntKind.wrap, IntKind.signed, IntKind.bits]
  rw [hw]
  have := (HM.out.setB (i := q) (by omega) (v % 65536 % 256)).setB (i := q + 1) (by omega) (v % 65536 / 256 % 256)
  exact ⟨rfl, ((Kp.refl (fun k => k = rb) _).setCell (p := ⟨rb, q, none⟩) (.inl rfl) _).setCell (p := ⟨rb, q + 1, none⟩) (.inl rfl) _, this⟩
set_option maxHeartbeats 4000000 in
theorem save_60 (h : Mm w sb rb S) (hS : SmOk S) (a o v : Nat) (ha : a < 4294967296) (ho : o < 4294967296) (hv : v < 18446744073709551616) (hfit : a + o + 1 ≤ S.bs.length) : Calls Tryz.prog 102 #[.pointer (some ⟨sb, 0, none⟩), .int .i64 60, .int .u32 a, .int .u32 o, .int .u64 v] w (fun en w' => en = .returned (.int .i64 0) ∧ Kp (· = rb) w w' ∧ Mm w' sb rb { S with bs := putB 1 S.bs (a + o) v }) := by
  have hp := place_calls h hS a o 1 ha ho (by omega)
  rw [if_pos hfit] at hp
  have hm := hS.m
  have hh := sm_has hS (by omega)
  have c2 := h.cells.c2
  rw [if_pos hh] at c2
  have hne := h.ne
  obtain ⟨q, hq⟩ : ∃ q, a + o = q := ⟨_, rfl⟩
  rw [hq] at hp hfit
  rw [hq]
  have HM : Hid _ := h
  obtain ⟨m, hm'⟩ : ∃ m, S.bs.length = m := ⟨_, rfl⟩
  rw [hm'] at c2 hm hfit
  have HL : Hid _ := hm'
  have HS : Hid _ := hS
  clear h hh hq hm' hS
  obtain ⟨⟨v0, c0⟩, f0⟩ := HM.out.bz (i := q) (by omega)
  go_enter Tryz.func102, Tryz.ntmps102
  go_wp2_with fail
  refine hp.mono ?_
  rintro en w6 ⟨rfl, rfl⟩
  clear hp
  go_wp2_with fail
  refine bodyPost_ret (v := .int .i64 0) (by simp [results, Tryz.results102, go_sem]) rfl ?_
  have := HM.out.setB (i := q) (by omega) (v % 256)
  exact ⟨rfl, (Kp.refl (fun k => k = rb) _).setCell (p := ⟨rb, q, none⟩) (.inl rfl) _, by simpa [putB] using this⟩
set_option maxHeartbeats 4000000 in
theorem save_61 (h : Mm w sb rb S) (hS : SmOk S) (a o v : Nat) (ha : a < 4294967296) (ho : o < 4294967296) (hv : v < 18446744073709551616) (hfit : a + o + 2 ≤ S.bs.length) : Calls Tryz.prog 102 #[.pointer (some ⟨sb, 0, none⟩), .int .i64 61, .int .u32 a, .int .u32 o, .int .u64 v] w (fun en w' => en = .returned (.int .i64 0) ∧ Kp (· = rb) w w' ∧ Mm w' sb rb { S with bs := putB 2 S.bs (a + o) (v % 65536) }) := by
  have hp := place_calls h hS a o 2 ha ho (by omega)
  rw [if_pos hfit] at hp
  have hm := hS.m
  have hh := sm_has hS (by omega)
  have c2 := h.cells.c2
  rw [if_pos hh] at c2
  have hne := h.ne
  obtain ⟨q, hq⟩ : ∃ q, a + o = q := ⟨_, rfl⟩
  rw [hq] at hp hfit
  rw [hq]
  have HM : Hid _ := h
  obtain ⟨m, hm'⟩ : ∃ m, S.bs.length = m := ⟨_, rfl⟩
  rw [hm'] at c2 hm hfit
  have HL : Hid _ := hm'
  have HS : Hid _ := hS
  clear h hh hq hm' hS
  obtain ⟨⟨v0, c0⟩, f0⟩ := HM.out.bz (i := q) (by omega)
  obtain ⟨⟨v1, c1⟩, f1⟩ := HM.out.bz (i := q + 1) (by omega)
  go_enter Tryz.func102, Tryz.ntmps102
  go_wp2_with fail
  refine hp.mono ?_
  rintro en w6 ⟨rfl, rfl⟩
  clear hp
  go_wp2_with fail
  refine bodyPost_ret (v := .int .i64 0) (by simp [results, Tryz.results102, go_sem]) rfl ?_
  have hw : IntKind.u16.wrap (v : Int) = ((v % 65536 : Nat) : Int) := by simp [IntKind.wrap, IntKind.signed, IntKind.bits]
  rw [hw]
  have := (HM.out.setB (i := q) (by omega) (v % 65536 % 256)).setB (i := q + 1) (by omega) (v % 65536 / 256 % 256)
  exact ⟨rfl, ((Kp.refl (fun k => k = rb) _).setCell (p := ⟨rb, q, none⟩) (.inl rfl) _).setCell (p := ⟨rb, q + 1, none⟩) (.inl rfl) _, this⟩
set_option maxHeartbeats 4000000 in
theorem save_62 (h : Mm w sb rb S) (hS : SmOk S) (a o v : Nat) (ha : a < 4294967296) (ho : o < 4294967296) (hv : v < 18446744073709551616) (hfit : a + o + 4 ≤ S.bs.length) : Calls Tryz.prog 102 #[.pointer (some ⟨sb, 0, none⟩), .int .i64 62, .int .u32 a, .int .u32 o, .int .u64 v] w (fun en w' => en = .returned (.int .i64 0) ∧ Kp (· = rb) w w' ∧ Mm w' sb rb { S with bs := putB 4 S.bs (a + o) (v % 4294967296) }) := by
  have hp := place_calls h hS a o 4 ha ho (by omega)
  rw [if_pos hfit] at hp
  have hm := hS.m
  have hh := sm_has hS (by omega)
  have c2 := h.cells.c2
  rw [if_pos hh] at c2
  have hne := h.ne
  obtain ⟨q, hq⟩ : ∃ q, a + o = q := ⟨_, rfl⟩
  rw [hq] at hp hfit
  rw [hq]
  have HM : Hid _ := h
  obtain ⟨m, hm'⟩ : ∃ m, S.bs.length = m := ⟨_, rfl⟩
  rw [hm'] at c2 hm hfit
  have HL : Hid _ := hm'
  have HS : Hid _ := hS
  clear h hh hq hm' hS
  obtain ⟨R, hR⟩ : ∃ R, putB 4 S.bs q (v % 4294967296) = R := ⟨_, rfl⟩
  rw [hR]
  have HB : Hid _ := hR
  clear hR
  go_enter Tryz.func102, Tryz.ntmps102
  go_wp2_with fail
  refine hp.mono ?_
  rintro en w6 ⟨rfl, rfl⟩
  clear hp
  have hat := at262' (m - q) (by omega)
  go_wp2
  go_loopw [15, 88] (fun uu ii w1 => ∃ (i u : Nat) (B : List Nat), i ≤ 4 ∧ ii = .int .i64 i ∧ uu = .int .u32 u ∧ u < 4294967296 ∧ Hid (Kp (· = rb) w6 w1) ∧ Hid (Mm w1 sb rb { S with bs := B }) ∧ Hid (putB (4 - i) B (q + i) u = R)) (fun _ ii _ => 5 - (intOf ii).toNat)
  case atStart => exact ⟨0, (v % 4294967296), S.bs, by omega, rfl, by first | rfl | (simp [IntKind.wrap]; try omega), by omega, Kp.refl _ _, HM.out, HB.out⟩
  case round =>
    obtain ⟨i, u, B, hi, rfl, rfl, hu, HK, HM2, HR⟩ := hrel
    by_cases hlt : i < 4
    · obtain ⟨⟨v0, c0⟩, f0⟩ := HM2.out.bz (i := q + i) (by omega)
      have hb : (i : Int) < 4 := by omega
      go_wp2
      go_light
      refine ⟨⟨i + 1, u / 256, B.set (q + i) (u % 256), by omega, by go_num, by go_num, by omega, HK.out.setCell (p := ⟨rb, q + i, none⟩) (.inl rfl) _, ?_, ?_⟩, by simp [intOf]; omega⟩
      · exact HM2.out.setB (i := q + i) (by omega) (u % 256)
      · have := HR.out
        rw [show 4 - i = (4 - (i + 1)) + 1 by omega, putB] at this
        exact this
    · have hb : ¬ ((i : Int) < 4) := by omega
      have h8 : i = 4 := by omega
      subst h8
      go_wp2
      refine bodyPost_ret (v := .int .i64 0) (by simp [results, Tryz.results102, go_sem]) rfl ?_
      have := HR.out
      rw [Nat.sub_self, putB] at this
      subst this
      exact ⟨rfl, HK.out, HM2.out⟩
set_option maxHeartbeats 4000000 in
theorem saveT_54 (h : Mm w sb rb S) (hS : SmOk S) (a o v : Nat) (ha : a < 4294967296) (ho : o < 4294967296) (hfit : ¬ (a + o + 4 ≤ S.bs.length)) : Calls Tryz.prog 102 #[.pointer (some ⟨sb, 0, none⟩), .int .i64 54, .int .u32 a, .int .u32 o, .int .u64 v] w (fun en w' => en = .returned (.int .i64 42) ∧ w' = w) := by
  have hp := place_calls h hS a o 4 ha ho (by omega)
  rw [if_neg hfit] at hp
  go_enter Tryz.func102, Tryz.ntmps102
  go_wp2_with fail
  refine hp.mono ?_
  rintro en w6 ⟨rfl, rfl⟩
  clear hp
  go_wp2_with fail
  refine bodyPost_ret (v := .int .i64 42) (by simp [results, Tryz.results102, go_sem]) rfl ?_
  exact ⟨rfl, rfl⟩
set_option maxHeartbeats 4000000 in
theorem saveT_55 (h : Mm w sb rb S) (hS : SmOk S) (a o v : Nat) (ha : a < 4294967296) (ho : o < 4294967296) (hfit : ¬ (a + o + 8 ≤ S.bs.length)) : Calls Tryz.prog 102 #[.pointer (some ⟨sb, 0, none⟩), .int .i64 55, .int .u32 a, .int .u32 o, .int .u64 v] w (fun en w' => en = .returned (.int .i64 42) ∧ w' = w) := by
  have hp := place_calls h hS a o 8 ha ho (by omega)
  rw [if_neg hfit] at hp
  go_enter Tryz.func102, Tryz.ntmps102
  go_wp2_with fail
  refine hp.mono ?_
  rintro en w6 ⟨rfl, rfl⟩
  clear hp
  go_wp2_with fail
  refine bodyPost_ret (v := .int .i64 42) (by simp [results, Tryz.results102, go_sem]) rfl ?_
  exact ⟨rfl, rfl⟩
set_option maxHeartbeats 4000000 in
theorem saveT_56 (h : Mm w sb rb S) (hS : SmOk S) (a o v : Nat) (ha : a < 4294967296) (ho : o < 4294967296) (hfit : ¬ (a + o + 4 ≤ S.bs.length)) : Calls Tryz.prog 102 #[.pointer (some ⟨sb, 0, none⟩), .int .i64 56, .int .u32 a, .int .u32 o, .int .u64 v] w (fun en w' => en = .returned (.int .i64 42) ∧ w' = w) := by
  have hp := place_calls h hS a o 4 ha ho (by omega)
  rw [if_neg hfit] at hp
  go_enter Tryz.func102, Tryz.ntmps102
  go_wp2_with fail
  refine hp.mono ?_
  rintro en w6 ⟨rfl, rfl⟩
  clear hp
  go_wp2_with fail
  refine bodyPost_ret (v := .int .i64 42) (by simp [results, Tryz.results102, go_sem]) rfl ?_
  exact ⟨rfl, rfl⟩
set_option maxHeartbeats 4000000 in
theorem saveT_57 (h : Mm w sb rb S) (hS : SmOk S) (a o v : Nat) (ha : a < 4294967296) (ho : o < 4294967296) (hfit : ¬ (a + o + 8 ≤ S.bs.length)) : Calls Tryz.prog 102 #[.pointer (some ⟨sb, 0, none⟩), .int .i64 57, .int .u32 a, .int .u32 o, .int .u64 v] w (fun en w' => en = .returned (.int .i64 42) ∧ w' = w) := by
  have hp := place_calls h hS a o 8 ha ho (by omega)
  rw [if_neg hfit] at hp
  go_enter Tryz.func102, Tryz.ntmps102
  go_wp2_with fail
  refine hp.mono ?_
  rintro en w6 ⟨rfl, rfl⟩
  clear hp
  go_wp2_with fail
  refine bodyPost_ret (v := .int .i64 42) (by simp [results, Tryz.results102, go_sem]) rfl ?_
  exact ⟨rfl, rfl⟩
set_option maxHeartbeats 4000000 in
theorem saveT_58 (h : Mm w sb rb S) (hS : SmOk S) (a o v : Nat) (ha : a < 4294967296) (ho : o < 4294967296) (hfit : ¬ (a + o + 1 ≤ S.bs.length)) : Calls Tryz.prog 102 #[.pointer (some ⟨sb, 0, none⟩), .int .i64 58, .int .u32 a, .int .u32 o, .int .u64 v] w (fun en w' => en = .returned (.int .i64 42) ∧ w' = w) := by
  have hp := place_calls h hS a o 1 ha ho (by omega)
  rw [if_neg hfit] at hp
  go_enter Tryz.func102, Tryz.ntmps102
  go_wp2_with fail
  refine hp.mono ?_
  rintro en w6 ⟨rfl, rfl⟩
  clear hp
  go_wp2_with fail
  refine bodyPost_ret (v := .int .i64 42) (by simp [results, Tryz.results102, go_sem]) rfl ?_
  exact ⟨rfl, rfl⟩
set_option maxHeartbeats 4000000 in
theorem saveT_59 (h : Mm w sb rb S) (hS : SmOk S) (a o v : Nat) (ha : a < 4294967296) (ho : o < 4294967296) (hfit : ¬ (a + o + 2 ≤ S.bs.length)) : Calls Tryz.prog 102 #[.pointer (some ⟨sb, 0, none⟩), .int .i64 59, .int .u32 a, .int .u32 o, .int .u64 v] w (fun en w' => en = .returned (.int .i64 42) ∧ w' = w) := by
  have hp := place_calls h hS a o 2 ha ho (by omega)
  rw [if_neg hfit] at hp
  go_enter Tryz.func102, Tryz.ntmps102
  go_wp2_with fail
  refine hp.mono ?_
  rintro en w6 ⟨rfl, rfl⟩
  clear hp
  go_wp2_with fail
  refine bodyPost_ret (v := .int .i64 42) (by simp [results, Tryz.results102, go_sem]) rfl ?_
  exact ⟨rfl, rfl⟩
set_option maxHeartbeats 4000000 in
theorem saveT_60 (h : Mm w sb rb S) (hS : SmOk S) (a o v : Nat) (ha : a < 4294967296) (ho : o < 4294967296) (hfit : ¬ (a + o + 1 ≤ S.bs.length)) : Calls Tryz.prog 102 #[.pointer (some ⟨sb, 0, none⟩), .int .i64 60, .int .u32 a, .int .u32 o, .int .u64 v] w (fun en w' => en = .returned (.int .i64 42) ∧ w' = w) := by
  have hp := place_calls h hS a o 1 ha ho (by omega)
  rw [if_neg hfit] at hp
  go_enter Tryz.func102, Tryz.ntmps102
  go_wp2_with fail
  refine hp.mono ?_
  rintro en w6 ⟨rfl, rfl⟩
  clear hp
  go_wp2_with fail
  refine bodyPost_ret (v := .int .i64 42) (by simp [results, Tryz.results102, go_sem]) rfl ?_
  exact ⟨rfl, rfl⟩
set_option maxHeartbeats 4000000 in
theorem saveT_61 (h : Mm w sb rb S) (hS : SmOk S) (a o v : Nat) (ha : a < 4294967296) (ho : o < 4294967296) (hfit : ¬ (a + o + 2 ≤ S.bs.length)) : Calls Tryz.prog 102 #[.pointer (some ⟨sb, 0, none⟩), .int .i64 61, .int .u32 a, .int .u32 o, .int .u64 v] w (fun en w' => en = .returned (.int .i64 42) ∧ w' = w) := by
  have hp := place_calls h hS a o 2 ha ho (by omega)
  rw [if_neg hfit] at hp
  go_enter Tryz.func102, Tryz.ntmps102
  go_wp2_with fail
  refine hp.mono ?_
  rintro en w6 ⟨rfl, rfl⟩
  clear hp
  go_wp2_with fail
  refine bodyPost_ret (v := .int .i64 42) (by simp [results, Tryz.results102, go_sem]) rfl ?_
  exact ⟨rfl, rfl⟩
set_option maxHeartbeats 4000000 in
theorem saveT_62 (h : Mm w sb rb S) (hS : SmOk S) (a o v : Nat) (ha : a < 4294967296) (ho : o < 4294967296) (hfit : ¬ (a + o + 4 ≤ S.bs.length)) : Calls Tryz.prog 102 #[.pointer (some ⟨sb, 0, none⟩), .int .i64 62, .int .u32 a, .int .u32 o, .int .u64 v] w (fun en w' => en = .returned (.int .i64 42) ∧ w' = w) := by
  have hp := place_calls h hS a o 4 ha ho (by omega)
  rw [if_neg hfit] at hp
  go_enter Tryz.func102, Tryz.ntmps102
  go_wp2_with fail
  refine hp.mono ?_
  rintro en w6 ⟨rfl, rfl⟩
  clear hp
  go_wp2_with fail
  refine bodyPost_ret (v := .int .i64 42) (by simp [results, Tryz.results102, go_sem]) rfl ?_
  exact ⟨rfl, rfl⟩
theorem putB_len : ∀ (n : Nat) (l : List Nat) (i v : Nat), (putB n l i v).length = l.length
  | 0, _, _, _ => rfl
  | n + 1, l, i, v => by rw [putB, putB_len n, List.length_set]
theorem putB_lt : ∀ (n : Nat) (l : List Nat) (i v : Nat), (∀ x, x ∈ l → x < 256) → ∀ x, x ∈ putB n l i v → x < 256
  | 0, _, _, _, h => h
  | n + 1, l, i, v, h => fun x hx => by
    rw [putB] at hx
    refine putB_lt n _ _ _ (fun y hy => ?_) x hx
    rcases List.mem_or_eq_of_mem_set hy with h1 | h1
    · exact h y h1
    · omega
theorem SmOk.put (h : SmOk S) (n i v : Nat) (hl : 0 < S.bs.length) : SmOk { S with bs := putB n S.bs i v } := by
  refine ⟨by dsimp only; rw [putB_len]; exact h.m, putB_lt n _ i v h.b, fun e => ?_, h.t, h.g⟩
  have := sm_has h hl
  dsimp only at e
  rw [this] at e
  simp at e
/- a store as a plain function -/
def widS (op : Nat) : Nat := if op = 58 ∨ op = 60 then 1 else if op = 59 ∨ op = 61 then 2 else if op = 55 ∨ op = 57 then 8 else 4
def cutS (n v : Nat) : Nat := if n = 2 then v % 65536 else if n = 4 then v % 4294967296 else v
def saveS (S : Sm) (op a o v : Nat) : Option Sm := if a + o + widS op ≤ S.bs.length then some { S with bs := putB (widS op) S.bs (a + o) (cutS (widS op) v) } else none
theorem widS_pos (op : Nat) : 0 < widS op := by unfold widS; split; omega; split; omega; split <;> omega
theorem saveS_ok (hS : SmOk S) {op a o v : Nat} {T : Sm} (h : saveS S op a o v = some T) : SmOk T := by
  unfold saveS at h
  split at h
  · simp at h
    subst h
    have := widS_pos op
    exact hS.put _ _ _ (by omega)
  · simp at h
def SaO (sb rb : Nat) (w : World) : Option Sm → Ending → World → Prop
  | none, en, w' => en = .returned (.int .i64 42) ∧ w' = w
  | some T, en, w' => en = .returned (.int .i64 0) ∧ Kp (· = rb) w w' ∧ Mm w' sb rb T
theorem save_calls (h : Mm w sb rb S) (hS : SmOk S) (op a o v : Nat) (h1 : 54 ≤ op) (h2 : op ≤ 62) (ha : a < 4294967296) (ho : o < 4294967296) (hv : v < 18446744073709551616) : Calls Tryz.prog 102 #[.pointer (some ⟨sb, 0, none⟩), .int .i64 op, .int .u32 a, .int .u32 o, .int .u64 v] w (SaO sb rb w (saveS S op a o v)) := by
  unfold saveS
  split
  · rename_i hf
    rcases (by omega : op = 54 ∨ op = 55 ∨ op = 56 ∨ op = 57 ∨ op = 58 ∨ op = 59 ∨ op = 60 ∨ op = 61 ∨ op = 62) with rfl | rfl | rfl | rfl | rfl | rfl | rfl | rfl | rfl
    · exact save_54 h hS a o v ha ho hv hf
    · exact save_55 h hS a o v ha ho hv hf
    · exact save_56 h hS a o v ha ho hv hf
    · exact save_57 h hS a o v ha ho hv hf
    · exact save_58 h hS a o v ha ho hv hf
    · exact save_59 h hS a o v ha ho hv hf
    · exact save_60 h hS a o v ha ho hv hf
    · exact save_61 h hS a o v ha ho hv hf
    · exact save_62 h hS a o v ha ho hv hf
  · rename_i hf
    rcases (by omega : op = 54 ∨ op = 55 ∨ op = 56 ∨ op = 57 ∨ op = 58 ∨ op = 59 ∨ op = 60 ∨ op = 61 ∨ op = 62) with rfl | rfl | rfl | rfl | rfl | rfl | rfl | rfl | rfl
    · exact saveT_54 h hS a o v ha ho hf
    · exact saveT_55 h hS a o v ha ho hf
    · exact saveT_56 h hS a o v ha ho hf
    · exact saveT_57 h hS a o v ha ho hf
    · exact saveT_58 h hS a o v ha ho hf
    · exact saveT_59 h hS a o v ha ho hf
    · exact saveT_60 h hS a o v ha ho hf
    · exact saveT_61 h hS a o v ha ho hf
    · exact saveT_62 h hS a o v ha ho hf
end
end Go.Proofs.Qxb6500275aGreatDoor
