import Derived.Test.Qxb6500275aGreatDoorMe7
import Derived.Lib.LazyBuf
import Derived.Lib.BufferWrite
set_option maxRecDepth 100000
set_option linter.unusedVariables false
set_option linter.unusedSimpArgs false
namespace Go.Proofs.Qxb6500275aGreatDoor
open Go Go.RowKit
/- bytes laid over -/
def overB : List Nat → Nat → List Nat → List Nat
  | bs, _, [] => bs
  | bs, i, x :: xs => overB (bs.set i x) (i + 1) xs
section
variable {w w' : World} {sb rb : Nat} {S : Sm}
theorem Mm.over : ∀ (xs : List Nat) (i : Nat) (w : World) (S : Sm), Mm w sb rb S → i + xs.length ≤ 384 → Mm (w.setCells rb i (xs.map (fun (x : Nat) => Value.int .u8 (x : Int)))) sb rb { S with bs := overB S.bs i xs }
  | [], i, w, S, h, hl => h
  | x :: xs, i, w, S, h, hl => by
    have hl' : i + 1 + xs.length ≤ 384 := by simp at hl; omega
    exact Mm.over xs (i + 1) _ _ (h.setB (i := i) (by omega) x) hl'
theorem overB_len : ∀ (xs : List Nat) (l : List Nat) (i : Nat), (overB l i xs).length = l.length
  | [], _, _ => rfl
  | x :: xs, l, i => by rw [overB, overB_len xs, List.length_set]
theorem overB_lt : ∀ (xs : List Nat) (l : List Nat) (i : Nat), (∀ x, x ∈ l → x < 256) → (∀ x, x ∈ xs → x < 256) → ∀ x, x ∈ overB l i xs → x < 256
  | [], _, _, h, _ => h
  | y :: ys, l, i, h, h2 => fun x hx => by
    rw [overB] at hx
    refine overB_lt ys _ _ (fun z hz => ?_) (fun z hz => h2 z (by simp [hz])) x hx
    rcases List.mem_or_eq_of_mem_set hz with h1 | h1
    · exact h z h1
    · rw [h1]; exact h2 y (by simp)
def bytesN (t : ByteArray) : List Nat := t.data.toList.map (fun x => x.toNat)
def writeS (S : Sm) (i : Nat) (t : ByteArray) : Nat × Sm := if 24 < t.size then (1, S) else if i + t.size ≤ S.bs.length then (0, { S with bs := overB S.bs i (bytesN t) }) else (31, S)
theorem writeS_ok (h : SmOk S) (i : Nat) (t : ByteArray) : SmOk (writeS S i t).2 := by
  unfold writeS
  split
  · exact h
  split
  · refine ⟨by dsimp only; rw [overB_len]; exact h.m, overB_lt _ _ _ h.b (fun x hx => ?_), fun e => ?_, h.t, h.g⟩
    · unfold bytesN at hx
      obtain ⟨y, _, rfl⟩ := List.mem_map.1 hx
      exact y.toNat_lt
    · obtain ⟨h1, h2⟩ := h.no e
      refine ⟨List.length_eq_zero_iff.1 ?_, h2⟩
      dsimp only
      rw [overB_len, h1]
      rfl
  · exact h
theorem copy_none (W : World) (d : Option Addr) (l c : Nat) (t : ByteArray) (ht : t.size = 0) : (Builtin.copy_ #[104, 9] 3 #[.slice d l c, .string t]).run Tryz.prog W = .ok (goInt 0) W :=
  Go.Lib.run_copy_empty_string (P := Tryz.prog) W 104 9 3 5 d l c t (by kernel_rfl) (by kernel_rfl) ht
theorem sz5 (w : World) : (Go.sizeOf 5).run Tryz.prog w = .ok 1 w := by kernel_rfl
set_option maxHeartbeats 4000000 in
theorem write_calls (h : Mm w sb rb S) (hS : SmOk S) (i : Nat) (hi : i < 4294967296) (t : ByteArray) (ht : t.size < 1000000) : Calls Tryz.prog 94 #[.pointer (some ⟨sb, 0, none⟩), .int .u32 i, .string t] w (fun en w' => en = .returned (.int .i64 ((writeS S i t).1 : Int)) ∧ Kp (· = rb) w w' ∧ Mm w' sb rb (writeS S i t).2) := by
  obtain ⟨X, hX⟩ : ∃ X, writeS S i t = X := ⟨_, rfl⟩
  rw [hX]
  unfold writeS at hX
  have hf := mfits_calls h hS i t.size hi ht
  have c2 := h.cells.c2
  have hm := hS.m
  have HM : Hid _ := h
  have HS : Hid _ := hS
  clear h hS
  by_cases h24 : 24 < t.size
  · rw [if_pos h24] at hX
    have HX : Hid _ := hX
    clear hX hf
    have h24' : (24 : Int) < (t.size : Int) := by omega
    go_enter Tryz.func94, Tryz.ntmps94
    go_wp2
    refine bodyPost_ret (v := .int .i64 1) (by simp [results, Tryz.results94, go_sem]) rfl ?_
    rw [← HX.out]
    exact ⟨rfl, Kp.refl _ _, HM.out⟩
  · rw [if_neg h24] at hX
    have h24' : ¬ ((24 : Int) < (t.size : Int)) := by omega
    by_cases hfit : i + t.size ≤ S.bs.length
    · rw [if_pos hfit] at hX
      rw [decide_eq_true hfit] at hf
      have HX : Hid _ := hX
      clear hX
      obtain ⟨m, hm'⟩ : ∃ m, S.bs.length = m := ⟨_, rfl⟩
      rw [hm'] at c2 hm hfit
      have HL : Hid _ := hm'
      clear hm'
      by_cases ht0 : t.size = 0
      · have hcp := fun (W : World) (d : Option Addr) (l c : Nat) => copy_none W d l c t ht0
        have hbn : bytesN t = [] := by
          unfold bytesN
          have : t.data.toList.length = 0 := by rw [← Lib.size_eq]; exact ht0
          rw [List.length_eq_zero_iff.1 this]; rfl
        rw [hbn, overB] at HX
        obtain ⟨aa, haa⟩ : ∃ aa, (if S.has = true then some (⟨rb, 0, none⟩ : Addr) else none) = aa := ⟨_, rfl⟩
        rw [haa] at c2
        clear haa hbn ht0
        go_enter Tryz.func94, Tryz.ntmps94
        go_wp2_with fail
        refine hf.mono ?_
        rintro en w6 ⟨rfl, rfl⟩
        clear hf
        go_wp2_with fail
        all_goals
          refine bodyPost_ret (v := .int .i64 0) (by simp [results, Tryz.results94, go_sem]) rfl ?_
          rw [← HX.out]
          exact ⟨rfl, Kp.refl _ _, HM.out⟩
      · have hh := sm_has HS.out (by rw [HL.out]; omega)
        rw [if_pos hh] at c2
        have hic : i < S.cap := by omega
        have hcp : (Builtin.copy_ #[104, 9] 3 #[.slice (some ⟨rb, i, none⟩) (m - i) (S.cap - i), .string t]).run Tryz.prog w = .ok (goInt t.size) (w.setCells rb i (t.data.toList.map fun x => Value.int .u8 (x.toNat : Int))) := by
          obtain ⟨⟨F, G, b1, b2, hl⟩, ne⟩ := HM.out
          exact Go.run_copy_string w 104 9 3 5 rb i (m - i) (S.cap - i) t (by kernel_rfl) sz5 (by omega) (fun j hj => by rw [b2.cell (by omega)]; rfl) (fun j hj => b2.fz (by omega))
        have hlen : (bytesN t).length = t.size := by unfold bytesN; rw [List.length_map, ← Lib.size_eq]
        have hov := Mm.over (bytesN t) i w S HM.out (by rw [hlen]; omega)
        have heq : (bytesN t).map (fun (x : Nat) => Value.int .u8 (x : Int)) = t.data.toList.map fun x => Value.int .u8 (x.toNat : Int) := by unfold bytesN; rw [List.map_map]; rfl
        rw [heq] at hov
        have HV : Hid _ := hov
        clear hh hov heq hlen
        go_enter Tryz.func94, Tryz.ntmps94
        go_wp2_with fail
        refine hf.mono ?_
        rintro en w6 ⟨rfl, rfl⟩
        clear hf
        go_wp2_with fail
        refine bodyPost_ret (v := .int .i64 0) (by simp [results, Tryz.results94, go_sem]) rfl ?_
        rw [← HX.out]
        exact ⟨rfl, kpS _ _ _ _, HV.out⟩
    · rw [if_neg hfit] at hX
      rw [decide_eq_false hfit] at hf
      have HX : Hid _ := hX
      clear hX
      go_enter Tryz.func94, Tryz.ntmps94
      go_wp2_with fail
      refine hf.mono ?_
      rintro en w6 ⟨rfl, rfl⟩
      clear hf
      go_wp2_with fail
      refine bodyPost_ret (v := .int .i64 31) (by simp [results, Tryz.results94, go_sem]) rfl ?_
      rw [← HX.out]
      exact ⟨rfl, Kp.refl _ _, HM.out⟩
end
end Go.Proofs.Qxb6500275aGreatDoor
