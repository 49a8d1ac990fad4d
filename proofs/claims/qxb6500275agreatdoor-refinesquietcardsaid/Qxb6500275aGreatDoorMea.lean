import Derived.Test.Qxb6500275aGreatDoorMe1
set_option maxRecDepth 100000
set_option linter.unusedVariables false
set_option linter.unusedSimpArgs false
namespace Go.Proofs.Qxb6500275aGreatDoor
open Go Go.RowKit
section
variable {w w' : World} {sb rb : Nat} {S : Sm}
/- a global's word, whatever its number -/
theorem global_none (h : Mm w sb rb S) (hS : SmOk S) (i : Nat) (hv : S.gl.length ≤ i) : Calls Tryz.prog 98 #[.pointer (some ⟨sb, 0, none⟩), .int .i64 i] w (Qm w (.tuple #[.int .u64 0, .int .i64 36])) := by
  have c16 := h.cells.c16
  generalize S.gl.length = n at *
  have h1 : (n : Int) ≤ (i : Int) := by omega
  have h2 : ¬ ((i : Int) < 0) := by omega
  go_enter Tryz.func98, Tryz.ntmps98
  go_wp2
  refine bodyPost_ret (v := .tuple #[.int .u64 0, .int .i64 36]) (by simp [results, Tryz.results98, go_sem]) rfl ?_
  exact ⟨rfl, rfl⟩
theorem setGlobal_none (h : Mm w sb rb S) (hS : SmOk S) (i : Nat) (hv : S.gl.length ≤ i) (v : Int) : Calls Tryz.prog 90 #[.pointer (some ⟨sb, 0, none⟩), .int .i64 i, .int .u64 v] w (Qm w (.int .i64 36)) := by
  have c16 := h.cells.c16
  generalize S.gl.length = n at *
  have h1 : (n : Int) ≤ (i : Int) := by omega
  have h2 : ¬ ((i : Int) < 0) := by omega
  go_enter Tryz.func90, Tryz.ntmps90
  go_wp2
  refine bodyPost_ret (v := .int .i64 36) (by simp [results, Tryz.results90, go_sem]) rfl ?_
  exact ⟨rfl, rfl⟩
theorem Mm.drewN (h : Mm w sb rb S) (n : Nat) : Mm (w.drewN n) sb rb S := by
  obtain ⟨⟨F, G, b1, b2, hl⟩, ne⟩ := h
  exact ⟨⟨F, G, b1, b2, hl⟩, ne⟩
/- .. as the machine takes it -/
theorem global_any (hS : SmOk S) (i : Nat) : ∃ e : Int, ∀ w, Mm w sb rb S → Calls Tryz.prog 98 #[.pointer (some ⟨sb, 0, none⟩), .int .i64 i] w (Qm w (.tuple #[.int .u64 (S.gl.getD i 0), .int .i64 e])) := by
  cases hg : S.gl[i]? with
  | none =>
    refine ⟨36, fun w h => ?_⟩
    have := global_none h hS i (List.getElem?_eq_none_iff.1 hg)
    rw [List.getD_eq_getElem?_getD, hg]
    exact this
  | some v =>
    refine ⟨0, fun w h => ?_⟩
    have := global_calls h hS i hg
    rw [List.getD_eq_getElem?_getD, hg]
    exact this
theorem setGlobal_any (h : Mm w sb rb S) (hS : SmOk S) (i : Nat) (v : Int) : Calls Tryz.prog 90 #[.pointer (some ⟨sb, 0, none⟩), .int .i64 i, .int .u64 v] w (fun en w' => (∃ x, en = .returned x) ∧ Kp (· = sb) w w' ∧ Mm w' sb rb { S with gl := S.gl.set i v }) := by
  by_cases hi : i < S.gl.length
  · refine (setGlobal_calls h hS i hi v).mono ?_
    rintro en w' ⟨rfl, hk, hm⟩
    exact ⟨⟨_, rfl⟩, hk, hm⟩
  · refine (setGlobal_none h hS i (by omega) v).mono ?_
    rintro en w' ⟨rfl, rfl⟩
    refine ⟨⟨_, rfl⟩, Kp.refl _ _, ?_⟩
    have : S.gl.set i v = S.gl := List.set_eq_of_length_le (by omega)
    rw [this]
    exact h
end
end Go.Proofs.Qxb6500275aGreatDoor
