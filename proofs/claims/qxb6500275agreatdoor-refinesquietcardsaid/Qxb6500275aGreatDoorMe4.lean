import Derived.Test.Qxb6500275aGreatDoorMe3
set_option maxRecDepth 100000
set_option linter.unusedVariables false
set_option linter.unusedSimpArgs false
namespace Go.Proofs.Qxb6500275aGreatDoor
open Go Go.RowKit
section
variable {w w' : World} {sb rb : Nat} {S : Sm}
set_option maxHeartbeats 4000000 in
theorem loadT_40 (h : Mm w sb rb S) (hS : SmOk S) (a o : Nat) (ha : a < 4294967296) (ho : o < 4294967296) (hfit : ¬ (a + o + 4 ≤ S.bs.length)) : Calls Tryz.prog 101 #[.pointer (some ⟨sb, 0, none⟩), .int .i64 40, .int .u32 a, .int .u32 o] w (fun en w' => en = .returned (.tuple #[.int .u64 0, .int .i64 42]) ∧ Kp (fun _ => False) w w') := by
  have hp := place_calls h hS a o 4 ha ho (by omega)
  rw [if_neg hfit] at hp
  go_enter Tryz.func101, Tryz.ntmps101
  go_wp2_with fail
  refine hp.mono ?_
  rintro en w6 ⟨rfl, rfl⟩
  clear hp
  go_wp2_with fail
  refine bodyPost_ret (v := .tuple #[.int .u64 0, .int .i64 42]) (by simp [results, Tryz.results101, go_sem]) rfl ?_
  exact ⟨rfl, Kp.refl _ _⟩
set_option maxHeartbeats 4000000 in
theorem loadT_41 (h : Mm w sb rb S) (hS : SmOk S) (a o : Nat) (ha : a < 4294967296) (ho : o < 4294967296) (hfit : ¬ (a + o + 8 ≤ S.bs.length)) : Calls Tryz.prog 101 #[.pointer (some ⟨sb, 0, none⟩), .int .i64 41, .int .u32 a, .int .u32 o] w (fun en w' => en = .returned (.tuple #[.int .u64 0, .int .i64 42]) ∧ Kp (fun _ => False) w w') := by
  have hp := place_calls h hS a o 8 ha ho (by omega)
  rw [if_neg hfit] at hp
  go_enter Tryz.func101, Tryz.ntmps101
  go_wp2_with fail
  refine hp.mono ?_
  rintro en w6 ⟨rfl, rfl⟩
  clear hp
  go_wp2_with fail
  refine bodyPost_ret (v := .tuple #[.int .u64 0, .int .i64 42]) (by simp [results, Tryz.results101, go_sem]) rfl ?_
  exact ⟨rfl, Kp.refl _ _⟩
set_option maxHeartbeats 4000000 in
theorem loadT_42 (h : Mm w sb rb S) (hS : SmOk S) (a o : Nat) (ha : a < 4294967296) (ho : o < 4294967296) (hfit : ¬ (a + o + 4 ≤ S.bs.length)) : Calls Tryz.prog 101 #[.pointer (some ⟨sb, 0, none⟩), .int .i64 42, .int .u32 a, .int .u32 o] w (fun en w' => en = .returned (.tuple #[.int .u64 0, .int .i64 42]) ∧ Kp (fun _ => False) w w') := by
  have hp := place_calls h hS a o 4 ha ho (by omega)
  rw [if_neg hfit] at hp
  go_enter Tryz.func101, Tryz.ntmps101
  go_wp2_with fail
  refine hp.mono ?_
  rintro en w6 ⟨rfl, rfl⟩
  clear hp
  go_wp2_with fail
  refine bodyPost_ret (v := .tuple #[.int .u64 0, .int .i64 42]) (by simp [results, Tryz.results101, go_sem]) rfl ?_
  exact ⟨rfl, Kp.refl _ _⟩
set_option maxHeartbeats 4000000 in
theorem loadT_43 (h : Mm w sb rb S) (hS : SmOk S) (a o : Nat) (ha : a < 4294967296) (ho : o < 4294967296) (hfit : ¬ (a + o + 8 ≤ S.bs.length)) : Calls Tryz.prog 101 #[.pointer (some ⟨sb, 0, none⟩), .int .i64 43, .int .u32 a, .int .u32 o] w (fun en w' => en = .returned (.tuple #[.int .u64 0, .int .i64 42]) ∧ Kp (fun _ => False) w w') := by
  have hp := place_calls h hS a o 8 ha ho (by omega)
  rw [if_neg hfit] at hp
  go_enter Tryz.func101, Tryz.ntmps101
  go_wp2_with fail
  refine hp.mono ?_
  rintro en w6 ⟨rfl, rfl⟩
  clear hp
  go_wp2_with fail
  refine bodyPost_ret (v := .tuple #[.int .u64 0, .int .i64 42]) (by simp [results, Tryz.results101, go_sem]) rfl ?_
  exact ⟨rfl, Kp.refl _ _⟩
set_option maxHeartbeats 4000000 in
theorem loadT_44 (h : Mm w sb rb S) (hS : SmOk S) (a o : Nat) (ha : a < 4294967296) (ho : o < 4294967296) (hfit : ¬ (a + o + 1 ≤ S.bs.length)) : Calls Tryz.prog 101 #[.pointer (some ⟨sb, 0, none⟩), .int .i64 44, .int .u32 a, .int .u32 o] w (fun en w' => en = .returned (.tuple #[.int .u64 0, .int .i64 42]) ∧ Kp (fun _ => False) w w') := by
  have hp := place_calls h hS a o 1 ha ho (by omega)
  rw [if_neg hfit] at hp
  go_enter Tryz.func101, Tryz.ntmps101
  go_wp2_with fail
  refine hp.mono ?_
  rintro en w6 ⟨rfl, rfl⟩
  clear hp
  go_wp2_with fail
  refine bodyPost_ret (v := .tuple #[.int .u64 0, .int .i64 42]) (by simp [results, Tryz.results101, go_sem]) rfl ?_
  exact ⟨rfl, Kp.refl _ _⟩
set_option maxHeartbeats 4000000 in
theorem loadT_45 (h : Mm w sb rb S) (hS : SmOk S) (a o : Nat) (ha : a < 4294967296) (ho : o < 4294967296) (hfit : ¬ (a + o + 1 ≤ S.bs.length)) : Calls Tryz.prog 101 #[.pointer (some ⟨sb, 0, none⟩), .int .i64 45, .int .u32 a, .int .u32 o] w (fun en w' => en = .returned (.tuple #[.int .u64 0, .int .i64 42]) ∧ Kp (fun _ => False) w w') := by
  have hp := place_calls h hS a o 1 ha ho (by omega)
  rw [if_neg hfit] at hp
  go_enter Tryz.func101, Tryz.ntmps101
  go_wp2_with fail
  refine hp.mono ?_
  rintro en w6 ⟨rfl, rfl⟩
  clear hp
  go_wp2_with fail
  refine bodyPost_ret (v := .tuple #[.int .u64 0, .int .i64 42]) (by simp [results, Tryz.results101, go_sem]) rfl ?_
  exact ⟨rfl, Kp.refl _ _⟩
set_option maxHeartbeats 4000000 in
theorem loadT_46 (h : Mm w sb rb S) (hS : SmOk S) (a o : Nat) (ha : a < 4294967296) (ho : o < 4294967296) (hfit : ¬ (a + o + 2 ≤ S.bs.length)) : Calls Tryz.prog 101 #[.pointer (some ⟨sb, 0, none⟩), .int .i64 46, .int .u32 a, .int .u32 o] w (fun en w' => en = .returned (.tuple #[.int .u64 0, .int .i64 42]) ∧ Kp (fun _ => False) w w') := by
  have hp := place_calls h hS a o 2 ha ho (by omega)
  rw [if_neg hfit] at hp
  go_enter Tryz.func101, Tryz.ntmps101
  go_wp2_with fail
  refine hp.mono ?_
  rintro en w6 ⟨rfl, rfl⟩
  clear hp
  go_wp2_with fail
  refine bodyPost_ret (v := .tuple #[.int .u64 0, .int .i64 42]) (by simp [results, Tryz.results101, go_sem]) rfl ?_
  exact ⟨rfl, Kp.refl _ _⟩
set_option maxHeartbeats 4000000 in
theorem loadT_47 (h : Mm w sb rb S) (hS : SmOk S) (a o : Nat) (ha : a < 4294967296) (ho : o < 4294967296) (hfit : ¬ (a + o + 2 ≤ S.bs.length)) : Calls Tryz.prog 101 #[.pointer (some ⟨sb, 0, none⟩), .int .i64 47, .int .u32 a, .int .u32 o] w (fun en w' => en = .returned (.tuple #[.int .u64 0, .int .i64 42]) ∧ Kp (fun _ => False) w w') := by
  have hp := place_calls h hS a o 2 ha ho (by omega)
  rw [if_neg hfit] at hp
  go_enter Tryz.func101, Tryz.ntmps101
  go_wp2_with fail
  refine hp.mono ?_
  rintro en w6 ⟨rfl, rfl⟩
  clear hp
  go_wp2_with fail
  refine bodyPost_ret (v := .tuple #[.int .u64 0, .int .i64 42]) (by simp [results, Tryz.results101, go_sem]) rfl ?_
  exact ⟨rfl, Kp.refl _ _⟩
set_option maxHeartbeats 4000000 in
theorem loadT_48 (h : Mm w sb rb S) (hS : SmOk S) (a o : Nat) (ha : a < 4294967296) (ho : o < 4294967296) (hfit : ¬ (a + o + 1 ≤ S.bs.length)) : Calls Tryz.prog 101 #[.pointer (some ⟨sb, 0, none⟩), .int .i64 48, .int .u32 a, .int .u32 o] w (fun en w' => en = .returned (.tuple #[.int .u64 0, .int .i64 42]) ∧ Kp (fun _ => False) w w') := by
  have hp := place_calls h hS a o 1 ha ho (by omega)
  rw [if_neg hfit] at hp
  go_enter Tryz.func101, Tryz.ntmps101
  go_wp2_with fail
  refine hp.mono ?_
  rintro en w6 ⟨rfl, rfl⟩
  clear hp
  go_wp2_with fail
  refine bodyPost_ret (v := .tuple #[.int .u64 0, .int .i64 42]) (by simp [results, Tryz.results101, go_sem]) rfl ?_
  exact ⟨rfl, Kp.refl _ _⟩
set_option maxHeartbeats 4000000 in
theorem loadT_49 (h : Mm w sb rb S) (hS : SmOk S) (a o : Nat) (ha : a < 4294967296) (ho : o < 4294967296) (hfit : ¬ (a + o + 1 ≤ S.bs.length)) : Calls Tryz.prog 101 #[.pointer (some ⟨sb, 0, none⟩), .int .i64 49, .int .u32 a, .int .u32 o] w (fun en w' => en = .returned (.tuple #[.int .u64 0, .int .i64 42]) ∧ Kp (fun _ => False) w w') := by
  have hp := place_calls h hS a o 1 ha ho (by omega)
  rw [if_neg hfit] at hp
  go_enter Tryz.func101, Tryz.ntmps101
  go_wp2_with fail
  refine hp.mono ?_
  rintro en w6 ⟨rfl, rfl⟩
  clear hp
  go_wp2_with fail
  refine bodyPost_ret (v := .tuple #[.int .u64 0, .int .i64 42]) (by simp [results, Tryz.results101, go_sem]) rfl ?_
  exact ⟨rfl, Kp.refl _ _⟩
set_option maxHeartbeats 4000000 in
theorem loadT_50 (h : Mm w sb rb S) (hS : SmOk S) (a o : Nat) (ha : a < 4294967296) (ho : o < 4294967296) (hfit : ¬ (a + o + 2 ≤ S.bs.length)) : Calls Tryz.prog 101 #[.pointer (some ⟨sb, 0, none⟩), .int .i64 50, .int .u32 a, .int .u32 o] w (fun en w' => en = .returned (.tuple #[.int .u64 0, .int .i64 42]) ∧ Kp (fun _ => False) w w') := by
  have hp := place_calls h hS a o 2 ha ho (by omega)
  rw [if_neg hfit] at hp
  go_enter Tryz.func101, Tryz.ntmps101
  go_wp2_with fail
  refine hp.mono ?_
  rintro en w6 ⟨rfl, rfl⟩
  clear hp
  go_wp2_with fail
  refine bodyPost_ret (v := .tuple #[.int .u64 0, .int .i64 42]) (by simp [results, Tryz.results101, go_sem]) rfl ?_
  exact ⟨rfl, Kp.refl _ _⟩
set_option maxHeartbeats 4000000 in
theorem loadT_51 (h : Mm w sb rb S) (hS : SmOk S) (a o : Nat) (ha : a < 4294967296) (ho : o < 4294967296) (hfit : ¬ (a + o + 2 ≤ S.bs.length)) : Calls Tryz.prog 101 #[.pointer (some ⟨sb, 0, none⟩), .int .i64 51, .int .u32 a, .int .u32 o] w (fun en w' => en = .returned (.tuple #[.int .u64 0, .int .i64 42]) ∧ Kp (fun _ => False) w w') := by
  have hp := place_calls h hS a o 2 ha ho (by omega)
  rw [if_neg hfit] at hp
  go_enter Tryz.func101, Tryz.ntmps101
  go_wp2_with fail
  refine hp.mono ?_
  rintro en w6 ⟨rfl, rfl⟩
  clear hp
  go_wp2_with fail
  refine bodyPost_ret (v := .tuple #[.int .u64 0, .int .i64 42]) (by simp [results, Tryz.results101, go_sem]) rfl ?_
  exact ⟨rfl, Kp.refl _ _⟩
set_option maxHeartbeats 4000000 in
theorem loadT_52 (h : Mm w sb rb S) (hS : SmOk S) (a o : Nat) (ha : a < 4294967296) (ho : o < 4294967296) (hfit : ¬ (a + o + 4 ≤ S.bs.length)) : Calls Tryz.prog 101 #[.pointer (some ⟨sb, 0, none⟩), .int .i64 52, .int .u32 a, .int .u32 o] w (fun en w' => en = .returned (.tuple #[.int .u64 0, .int .i64 42]) ∧ Kp (fun _ => False) w w') := by
  have hp := place_calls h hS a o 4 ha ho (by omega)
  rw [if_neg hfit] at hp
  go_enter Tryz.func101, Tryz.ntmps101
  go_wp2_with fail
  refine hp.mono ?_
  rintro en w6 ⟨rfl, rfl⟩
  clear hp
  go_wp2_with fail
  refine bodyPost_ret (v := .tuple #[.int .u64 0, .int .i64 42]) (by simp [results, Tryz.results101, go_sem]) rfl ?_
  exact ⟨rfl, Kp.refl _ _⟩
set_option maxHeartbeats 4000000 in
theorem loadT_53 (h : Mm w sb rb S) (hS : SmOk S) (a o : Nat) (ha : a < 4294967296) (ho : o < 4294967296) (hfit : ¬ (a + o + 4 ≤ S.bs.length)) : Calls Tryz.prog 101 #[.pointer (some ⟨sb, 0, none⟩), .int .i64 53, .int .u32 a, .int .u32 o] w (fun en w' => en = .returned (.tuple #[.int .u64 0, .int .i64 42]) ∧ Kp (fun _ => False) w w') := by
  have hp := place_calls h hS a o 4 ha ho (by omega)
  rw [if_neg hfit] at hp
  go_enter Tryz.func101, Tryz.ntmps101
  go_wp2_with fail
  refine hp.mono ?_
  rintro en w6 ⟨rfl, rfl⟩
  clear hp
  go_wp2_with fail
  refine bodyPost_ret (v := .tuple #[.int .u64 0, .int .i64 42]) (by simp [results, Tryz.results101, go_sem]) rfl ?_
  exact ⟨rfl, Kp.refl _ _⟩
/- a load as a plain function -/
def loadS (S : Sm) (op a o : Nat) : Option Int := if a + o + widL op ≤ S.bs.length then some (loadV op (fun i => byS S (a + o + i))) else none
def encLd : Option Int → Value
  | none => .tuple #[.int .u64 0, .int .i64 42]
  | some v => .tuple #[.int .u64 v, .int .i64 0]
theorem load_calls (h : Mm w sb rb S) (hS : SmOk S) (op a o : Nat) (h1 : 40 ≤ op) (h2 : op ≤ 53) (ha : a < 4294967296) (ho : o < 4294967296) : Calls Tryz.prog 101 #[.pointer (some ⟨sb, 0, none⟩), .int .i64 op, .int .u32 a, .int .u32 o] w (fun en w' => en = .returned (encLd (loadS S op a o)) ∧ Kp (fun _ => False) w w') := by
  unfold loadS
  split
  · rename_i hf
    rcases (by omega : op = 40 ∨ op = 41 ∨ op = 42 ∨ op = 43 ∨ op = 44 ∨ op = 45 ∨ op = 46 ∨ op = 47 ∨ op = 48 ∨ op = 49 ∨ op = 50 ∨ op = 51 ∨ op = 52 ∨ op = 53) with rfl | rfl | rfl | rfl | rfl | rfl | rfl | rfl | rfl | rfl | rfl | rfl | rfl | rfl
    · exact load_40 h hS a o ha ho hf
    · exact load_41 h hS a o ha ho hf
    · exact load_42 h hS a o ha ho hf
    · exact load_43 h hS a o ha ho hf
    · exact load_44 h hS a o ha ho hf
    · exact load_45 h hS a o ha ho hf
    · exact load_46 h hS a o ha ho hf
    · exact load_47 h hS a o ha ho hf
    · exact load_48 h hS a o ha ho hf
    · exact load_49 h hS a o ha ho hf
    · exact load_50 h hS a o ha ho hf
    · exact load_51 h hS a o ha ho hf
    · exact load_52 h hS a o ha ho hf
    · exact load_53 h hS a o ha ho hf
  · rename_i hf
    rcases (by omega : op = 40 ∨ op = 41 ∨ op = 42 ∨ op = 43 ∨ op = 44 ∨ op = 45 ∨ op = 46 ∨ op = 47 ∨ op = 48 ∨ op = 49 ∨ op = 50 ∨ op = 51 ∨ op = 52 ∨ op = 53) with rfl | rfl | rfl | rfl | rfl | rfl | rfl | rfl | rfl | rfl | rfl | rfl | rfl | rfl
    · exact loadT_40 h hS a o ha ho hf
    · exact loadT_41 h hS a o ha ho hf
    · exact loadT_42 h hS a o ha ho hf
    · exact loadT_43 h hS a o ha ho hf
    · exact loadT_44 h hS a o ha ho hf
    · exact loadT_45 h hS a o ha ho hf
    · exact loadT_46 h hS a o ha ho hf
    · exact loadT_47 h hS a o ha ho hf
    · exact loadT_48 h hS a o ha ho hf
    · exact loadT_49 h hS a o ha ho hf
    · exact loadT_50 h hS a o ha ho hf
    · exact loadT_51 h hS a o ha ho hf
    · exact loadT_52 h hS a o ha ho hf
    · exact loadT_53 h hS a o ha ho hf
end
end Go.Proofs.Qxb6500275aGreatDoor
