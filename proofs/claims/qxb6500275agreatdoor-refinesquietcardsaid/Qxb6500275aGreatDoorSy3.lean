import Derived.Test.Qxb6500275aGreatDoorXp5
import Derived.Test.Qxb6500275aGreatDoorSp11
import Derived.Test.Qxb6500275aGreatDoorDm1
set_option linter.unusedVariables false
set_option linter.unusedSimpArgs false
namespace Go.Proofs.Qxb6500275aGreatDoor
open Go Go.RowKit
section
variable {M : Mod}
/- a compiled function is short -/
theorem flatL_len {fn : Fn} (hF : FnOk fn) : ∀ (l : List Ins) (i : Nat) (q p : PS), PI q → (q.ctl = [] → l = []) → (∀ x, x ∈ l → InsOk x) → flatL M fn l i q = .ok p → p.cells.length ≤ q.cells.length + costL l
  | [], i, q, p, hq, hc, hx, h => by
    rw [flatL] at h
    rcases iteC h with ⟨_, h⟩ | ⟨_, h⟩
    · simp at h; subst h; omega
    · simp at h
  | x :: xs, i, q, p, hq, hc, hx, h => by
    rw [flatL] at h
    cases hs : stepP M fn (decide (xs.length = 0)) q x with
    | none => rw [hs] at h; simp at h
    | some q' =>
      rw [hs] at h
      dsimp only at h
      have hk := hq.step (fun e => by have := hc e; simp at this) (hx x (by simp)) hF hs
      have := flatL_len hF xs (i + 1) q' p hk.pi (fun e => by have := hk.e e; simpa using this) (fun y hy => hx y (by simp [hy])) h
      have := hk.n
      rw [costL_cons]
      omega
theorem flatP_len {fn : Fn} (hF : FnOk fn) (hR : FnRoom fn) {rs : Nat} (hr : rs ≤ 1) {p : PS} (h : flatP M fn rs = .ok p) : p.cells.length ≤ 121 := by
  unfold flatP at h
  have := flatL_len hF fn.body 0 _ p (PI.first rs hr) (fun e => by simp at e) hF.body h
  have h1 := hF.nb.2
  have h2 := hF.nt
  have h3 := hR.sum
  unfold costL at this
  simp only [List.length_cons, List.length_nil] at this
  omega
theorem compL_len (hM : ModOk M) (hR : ∀ f, f ∈ M.funcs → FnRoom f) : ∀ (l : List Fn) (k : Nat) (acc fs : List FF), (∀ f, f ∈ l → f ∈ M.funcs) → (∀ ff, ff ∈ acc → ff.cells.length ≤ 121) → compL M l k acc = .ok fs → ∀ ff, ff ∈ fs → ff.cells.length ≤ 121
  | [], k, acc, fs, hl, ha, h => by
    rw [compL] at h
    simp at h
    subst h
    exact ha
  | f :: l, k, acc, fs, hl, ha, h => by
    rw [compL] at h
    cases ht : M.typeOf ((M.imports.length + k : Nat) : Int) with
    | none => rw [ht] at h; simp at h
    | some t =>
      rw [ht] at h
      dsimp only at h
      rcases iteC h with ⟨_, h⟩ | ⟨_, h⟩
      · simp at h
      cases hp : flatP M f t.q.size with
      | error a => rw [hp] at h; simp at h
      | ok p =>
        rw [hp] at h
        dsimp only at h
        have hfm := hl f (by simp)
        have hT := typeOf_ok hM ht
        have hlen := flatP_len (hM.funcs f hfm) (hR f hfm) hT.nq hp
        refine compL_len hM hR l (k + 1) _ fs (fun f hf => hl f (by simp [hf])) (fun ff hff => ?_) h
        rcases List.mem_append.1 hff with h1 | h1
        · exact ha ff h1
        · simp at h1
          subst h1
          simp
          omega
/- a compiled function ends with OpEnd -/
theorem branch_ctl (p : PS) (op l : Nat) : (branchP p op l).ctl.length = p.ctl.length := by
  unfold branchP
  dsimp only
  split <;> simp
theorem rows_ctl : ∀ (ls : List Int) (p q : PS), rowsP p ls = some q → q.ctl.length = p.ctl.length
  | [], p, q, h => by rw [rowsP] at h; simp at h; rw [h]
  | l :: ls, p, q, h => by
    rw [rowsP] at h
    rcases iteC h with ⟨_, h⟩ | ⟨_, h⟩
    · simp at h
    · rw [rows_ctl ls _ q h, branch_ctl]
theorem step_last {fn : Fn} {last : Bool} {p q : PS} {x : Ins} (hc : p.ctl ≠ []) (h : stepP M fn last p x = some q) (hq : q.ctl = []) : last = true ∧ ∃ c, q.cells = c ++ [⟨11, 0, 0⟩] := by
  have hpl : 0 < p.ctl.length := List.length_pos_iff.2 hc
  have hql : q.ctl.length = 0 := by rw [hq]; rfl
  have no : q.ctl.length = p.ctl.length → last = true ∧ ∃ c, q.cells = c ++ [⟨11, 0, 0⟩] := fun e => by omega
  unfold stepP at h
  split at h
  · rename_i q' hk
    simp only [Option.some.injEq] at h
    subst h
    refine no ?_
    unfold skipP at hk
    rcases iteC hk with ⟨_, hk⟩ | ⟨_, hk⟩
    · simp at hk
    rcases iteC hk with ⟨_, hk⟩ | ⟨_, hk⟩
    · simp only [Option.some.injEq] at hk; rw [← hk]
    rcases iteC hk with ⟨_, hk⟩ | ⟨_, hk⟩
    · rcases iteC hk with ⟨_, hk⟩ | ⟨_, hk⟩
      · simp only [Option.some.injEq] at hk; rw [← hk]
      · simp at hk
    rcases iteC hk with ⟨_, hk⟩ | ⟨_, hk⟩
    · rcases iteC hk with ⟨_, hk⟩ | ⟨_, hk⟩
      · simp at hk
      · simp only [Option.some.injEq] at hk; rw [← hk]
    · simp only [Option.some.injEq] at hk; rw [← hk]
  · rcases iteC h with ⟨_, h⟩ | ⟨_, h⟩
    · unfold openP at h
      rcases iteC h with ⟨_, h⟩ | ⟨_, h⟩
      · simp at h
      rcases iteC h with ⟨_, h⟩ | ⟨_, h⟩
      · rcases iteC h with ⟨_, h⟩ | ⟨_, h⟩
        · simp at h
        · simp only [Option.some.injEq] at h; rw [← h] at hq; simp at hq
      · simp only [Option.some.injEq] at h; rw [← h] at hq; simp at hq
    rcases iteC h with ⟨_, h⟩ | ⟨_, h⟩
    · unfold turnP at h
      rcases iteC h with ⟨_, h⟩ | ⟨_, h⟩
      · simp at h
      rcases iteC h with ⟨_, h⟩ | ⟨_, h⟩
      · simp at h
      rcases iteC h with ⟨_, h⟩ | ⟨_, h⟩
      · simp only [Option.some.injEq] at h; rw [← h] at hq; simp at hq
      · simp only [Option.some.injEq] at h; rw [← h] at hq; simp at hq
    rcases iteC h with ⟨_, h⟩ | ⟨_, h⟩
    · split at h
      · simp at h
      · rename_i q' hs
        rcases iteC h with ⟨_, h⟩ | ⟨hl, h⟩
        · simp at h
        · simp only [Option.some.injEq] at h
          subst h
          refine ⟨by cases last with | true => rfl | false => exact absurd ⟨hql, rfl⟩ hl, ?_⟩
          unfold shutP at hs
          rcases iteC hs with ⟨_, hs⟩ | ⟨_, hs⟩
          · simp at hs
          rcases iteC hs with ⟨_, hs⟩ | ⟨_, hs⟩
          · simp at hs
          dsimp only at hs
          simp only [Option.some.injEq] at hs
          rw [← hs] at hql ⊢
          dsimp only at hql ⊢
          rw [if_pos hql]
          exact ⟨_, rfl⟩
    rcases iteC h with ⟨_, h⟩ | ⟨_, h⟩
    · refine no ?_
      unfold brP at h
      rcases iteC h with ⟨_, h⟩ | ⟨_, h⟩
      · rcases iteC h with ⟨_, h⟩ | ⟨_, h⟩
        · simp at h
        · simp only [Option.some.injEq] at h; rw [← h, branch_ctl]
      · rcases iteC h with ⟨_, h⟩ | ⟨_, h⟩
        · simp at h
        · simp only [Option.some.injEq] at h; rw [← h]; exact branch_ctl _ _ _
    rcases iteC h with ⟨_, h⟩ | ⟨_, h⟩
    · refine no ?_
      unfold tableP at h
      rcases iteC h with ⟨_, h⟩ | ⟨_, h⟩
      · simp at h
      split at h
      · simp at h
      · rename_i q' hr
        simp only [Option.some.injEq] at h
        rw [← h]
        have := rows_ctl _ _ _ hr
        exact this
    rcases iteC h with ⟨_, h⟩ | ⟨_, h⟩
    · simp only [Option.some.injEq] at h
      exact no (by rw [← h])
    · refine no ?_
      unfold plainP at h
      split at h
      · simp at h
      · rcases iteC h with ⟨_, h⟩ | ⟨_, h⟩
        · simp at h
        · simp only [Option.some.injEq] at h
          rw [← h]
theorem flatL_last {fn : Fn} : ∀ (l : List Ins) (i : Nat) (q p : PS), q.ctl ≠ [] → flatL M fn l i q = .ok p → ∃ c, p.cells = c ++ [⟨11, 0, 0⟩]
  | [], i, q, p, hc, h => by
    rw [flatL] at h
    rcases iteC h with ⟨h0, h⟩ | ⟨_, h⟩
    · exact absurd (List.length_eq_zero_iff.1 h0) hc
    · simp at h
  | x :: xs, i, q, p, hc, h => by
    rw [flatL] at h
    cases hs : stepP M fn (decide (xs.length = 0)) q x with
    | none => rw [hs] at h; simp at h
    | some q' =>
      rw [hs] at h
      dsimp only at h
      by_cases hq : q'.ctl = []
      · obtain ⟨h1, h2⟩ := step_last hc hs hq
        have hx : xs = [] := List.length_eq_zero_iff.1 (by simpa using h1)
        subst hx
        rw [flatL, if_pos (by rw [hq]; rfl)] at h
        simp at h
        rw [← h]
        exact h2
      · exact flatL_last xs (i + 1) q' p hq h
theorem compL_last (hM : ModOk M) : ∀ (l : List Fn) (k : Nat) (acc fs : List FF), (∀ ff, ff ∈ acc → ff.cells ≠ [] → ∃ c, ff.cells = c ++ [⟨11, 0, 0⟩]) → compL M l k acc = .ok fs → ∀ ff, ff ∈ fs → ff.cells ≠ [] → ∃ c, ff.cells = c ++ [⟨11, 0, 0⟩]
  | [], k, acc, fs, ha, h => by
    rw [compL] at h
    simp at h
    subst h
    exact ha
  | f :: l, k, acc, fs, ha, h => by
    rw [compL] at h
    cases ht : M.typeOf ((M.imports.length + k : Nat) : Int) with
    | none => rw [ht] at h; simp at h
    | some t =>
      rw [ht] at h
      dsimp only at h
      rcases iteC h with ⟨_, h⟩ | ⟨_, h⟩
      · simp at h
      cases hp : flatP M f t.q.size with
      | error a => rw [hp] at h; simp at h
      | ok p =>
        rw [hp] at h
        dsimp only at h
        refine compL_last hM l (k + 1) _ fs (fun ff hff hne => ?_) h
        rcases List.mem_append.1 hff with h1 | h1
        · exact ha ff h1 hne
        · simp at h1
          subst h1
          dsimp only at hne ⊢
          unfold flatP at hp
          obtain ⟨c, hc⟩ := flatL_last f.body 0 _ p (by simp) hp
          cases c with
          | nil => rw [hc] at hne; simp at hne
          | cons a c => exact ⟨c, by rw [hc]; rfl⟩
theorem compP_last (hM : ModOk M) {fs : List FF} (h : compP M = .ok fs) (k : Nat) (ff : FF) (hk : fs[k]? = some ff) (hne : ff.cells ≠ []) : ∃ c, ff.cells = c ++ [⟨11, 0, 0⟩] :=
  compL_last hM M.funcs 0 [] fs (fun ff hff => by simp at hff) h ff (List.mem_of_getElem? hk) hne
theorem compP_len (hM : ModOk M) (hR : ∀ f, f ∈ M.funcs → FnRoom f) {fs : List FF} (h : compP M = .ok fs) (k : Nat) (ff : FF) (hk : fs[k]? = some ff) : ff.cells.length ≤ 1000 := by
  have := compL_len hM hR M.funcs 0 [] fs (fun f hf => hf) (fun ff hff => by simp at hff) h ff (List.mem_of_getElem? hk)
  omega
end
end Go.Proofs.Qxb6500275aGreatDoor
