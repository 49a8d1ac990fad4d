import Derived.Test.Qxb6500275aGreatDoorXp4
set_option linter.unusedVariables false
set_option linter.unusedSimpArgs false
set_option maxRecDepth 100000
namespace Go.Proofs.Qxb6500275aGreatDoor
open Go Go.RowKit
section
variable {M : Mod}
theorem bodies_all : ∀ (l : List Fn) (k : Nat), (bodiesV M l k).2.2 = 0 → ∀ f, f ∈ l → (bodyV M f).2.2 = 0
  | [], k, h, f, hf => by simp at hf
  | a :: r, k, h, f, hf => by
    rw [bodiesV] at h
    rcases List.mem_cons.1 hf with rfl | hf
    · by_cases e : (bodyV M f).2.2 = 0
      · exact e
      · rw [if_neg e] at h; exact absurd h e
    · by_cases e : (bodyV M a).2.2 = 0
      · rw [if_pos e] at h; exact bodies_all r (k + 1) h f hf
      · rw [if_neg e] at h; exact absurd h e
theorem typesV_e : ∀ (n i : Nat) {r : Nat × Int}, typesV M n i = some r → r.2 ≠ 0
  | 0, i, r, h => by simp [typesV] at h
  | n + 1, i, r, h => by
    rw [typesV] at h
    rcases iteC h with ⟨_, h⟩ | ⟨_, h⟩
    · exact typesV_e n (i + 1) h
    · simp at h; subst h; simp
theorem globsV_e : ∀ (l : List Glob) (i : Nat) {r : Nat × Int}, globsV l i = some r → r.2 ≠ 0
  | [], i, r, h => by simp [globsV] at h
  | g :: gs, i, r, h => by
    rw [globsV] at h
    rcases iteC h with ⟨_, h⟩ | ⟨_, h⟩
    · exact globsV_e gs (i + 1) h
    · simp at h; subst h; simp
theorem expsV_e : ∀ (l b : List Exp) (i : Nat) {r : Nat × Int}, expsV M b l i = some r → r.2 ≠ 0
  | [], b, i, r, h => by simp [expsV] at h
  | g :: gs, b, i, r, h => by
    rw [expsV] at h
    rcases iteC h with ⟨_, h⟩ | ⟨_, h⟩
    · simp at h; subst h; simp
    rcases iteC h with ⟨_, h⟩ | ⟨_, h⟩
    · simp at h; subst h; simp
    · exact expsV_e gs _ (i + 1) h
theorem elmsV_e : ∀ (l : List Elm) (i : Nat) {r : Nat × Int}, elmsV M l i = some r → r.2 ≠ 0
  | [], i, r, h => by simp [elmsV] at h
  | g :: gs, i, r, h => by
    rw [elmsV] at h
    rcases iteC h with ⟨_, h⟩ | ⟨_, h⟩
    · simp at h; subst h; simp
    rcases iteC h with ⟨_, h⟩ | ⟨_, h⟩
    · simp at h; subst h; simp
    rcases iteC h with ⟨_, h⟩ | ⟨_, h⟩
    · simp at h; subst h; simp
    · exact elmsV_e gs (i + 1) h
theorem datsV_e : ∀ (l : List Dat) (i : Nat) {r : Nat × Int}, datsV M l i = some r → r.2 ≠ 0
  | [], i, r, h => by simp [datsV] at h
  | g :: gs, i, r, h => by
    rw [datsV] at h
    rcases iteC h with ⟨_, h⟩ | ⟨_, h⟩
    · simp at h; subst h; simp
    rcases iteC h with ⟨_, h⟩ | ⟨_, h⟩
    · simp at h; subst h; simp
    · exact datsV_e gs (i + 1) h
theorem startV_e {r : Nat × Int} (h : startV M = some r) : r.2 ≠ 0 := by
  unfold startV at h
  rcases iteC h with ⟨_, h⟩ | ⟨_, h⟩
  · simp at h
  · split at h
    · simp at h; subst h; simp
    · rcases iteC h with ⟨_, h⟩ | ⟨_, h⟩
      · simp at h
      · simp at h; subst h; simp
theorem partsV_er {r : Nat × Int} (h : partsV M = some r) : r.2 ≠ 0 := by
  unfold partsV at h
  split at h
  · rename_i q hq
    simp at h; subst h
    exact typesV_e _ _ hq
  rcases iteC h with ⟨_, h⟩ | ⟨_, h⟩
  · simp at h; subst h; simp
  rcases iteC h with ⟨_, h⟩ | ⟨_, h⟩
  · simp at h; subst h; simp
  split at h
  · rename_i q hq
    simp at h; subst h
    exact globsV_e _ _ hq
  split at h
  · rename_i q hq
    simp at h; subst h
    exact expsV_e _ _ _ hq
  split at h
  · rename_i q hq
    simp at h; subst h
    exact startV_e hq
  split at h
  · rename_i q hq
    simp at h; subst h
    exact elmsV_e _ _ hq
  · exact datsV_e _ _ h
theorem partsV_e {i : Nat} {e : Int} (h : partsV M = some (i, e)) : e ≠ 0 := partsV_er h
theorem tyIdx_own {k : Nat} {f : Fn} (h : M.funcs[k]? = some f) : M.tyIdx ((M.imports.length + k : Nat) : Int) = f.ty := by
  have hk := (List.getElem?_eq_some_iff.1 h).1
  unfold Mod.tyIdx
  rw [if_neg (by omega), if_pos (by omega)]
  have : (((M.imports.length + k : Nat) : Int) - (M.imports.length : Int)).toNat = k := by omega
  rw [this, h]
theorem comp_at (hM : ModOk M) (num : Nat → Int → Int → Int × Int) (hb : ∀ f, f ∈ M.funcs → (bodyV M f).2.2 = 0) : ∀ (l : List Fn) (k : Nat) (acc fs : List FF), M.funcs.drop k = l → acc.length = k → compL M l k acc = .ok fs →
    (∀ j ff, acc[j]? = some ff → FT ⟨M, fs, num⟩ j ff ∧ ∃ ks, Hts M ff.locals ff.results (Ins.zero :: ff.cells) ks) → fs.length = k + l.length ∧ ∀ j ff, fs[j]? = some ff → FT ⟨M, fs, num⟩ j ff ∧ ∃ ks, Hts M ff.locals ff.results (Ins.zero :: ff.cells) ks
  | [], k, acc, fs, hl, ha, h, hacc => by
    rw [compL] at h
    simp at h
    subst h
    exact ⟨by simp [ha], hacc⟩
  | f :: l, k, acc, fs, hl, ha, h, hacc => by
    rw [compL] at h
    have hk : M.funcs[k]? = some f := by
      have := congrArg (fun x => x[0]?) hl
      simpa using this
    have hfm := List.mem_of_getElem? hk
    cases ht : M.typeOf ((M.imports.length + k : Nat) : Int) with
    | none => rw [ht] at h; simp at h
    | some t =>
      rw [ht] at h
      dsimp only at h
      rcases iteC h with ⟨_, h⟩ | ⟨_, h⟩
      · simp at h
      cases hp : flatP M f t.q.size with
      | error a => rw [hp] at h; simp at h
      | ok p =>
        rw [hp] at h
        dsimp only at h
        have hF := hM.funcs f hfm
        have hT := typeOf_ok hM ht
        have hta : M.typeAt f.ty = some t := by
          unfold Mod.typeOf at ht
          rw [tyIdx_own hk] at ht
          exact ht
        obtain ⟨ks, hks⟩ := heights hM hF hT hta (hb f hfm) hp
        have hz : Ins.zero :: p.cells.tail = p.cells := by
          have := hks.z
          cases hq : p.cells with
          | nil => rw [hq] at this; simp at this
          | cons a r => rw [hq] at this; simp at this; rw [this]; rfl
        have hnl := hF.nl
        have hnp := hT.np
        have hnq := hT.nq
        obtain ⟨h1, h2⟩ := comp_at hM num hb l (k + 1) _ fs (by rw [← List.drop_drop, hl]; rfl) (by simp [ha]) h (fun j ff hj => by
          rcases get_snoc3 hj with ⟨h1, h2⟩ | ⟨h1, h2⟩
          · exact hacc j ff h2
          · subst h2
            rw [ha] at h1
            subst h1
            refine ⟨⟨⟨t, ht, rfl, rfl⟩, by dsimp only; omega, by dsimp only; omega, by dsimp only; omega, by dsimp only; omega⟩, ks, ?_⟩
            dsimp only
            rw [hz]
            exact hks)
        exact ⟨by rw [h1]; simp; omega, h2⟩
theorem code_ok (hM : ModOk M) {num : Nat → Int → Int → Int × Int} (hN : NumOk num) (hv : (validV M).2.2 = 0) {fs : List FF} (hc : compP M = .ok fs) : CodeOk ⟨M, fs, num⟩ := by
  have hb : ∀ f, f ∈ M.funcs → (bodyV M f).2.2 = 0 := by
    unfold validV at hv
    cases hp : partsV M with
    | some r =>
      obtain ⟨i, e⟩ := r
      rw [hp] at hv
      exact absurd hv (partsV_e hp)
    | none =>
      rw [hp] at hv
      exact bodies_all _ _ hv
  unfold compP at hc
  obtain ⟨h1, h2⟩ := comp_at hM num hb M.funcs 0 [] fs rfl rfl hc (fun j ff hj => by simp at hj)
  refine ⟨hM, hN, fun k ff hk => ?_, by rw [h1]; simp⟩
  obtain ⟨h3, ks, h4⟩ := h2 k ff hk
  exact ⟨h3, ks, hk, h4⟩
end
end Go.Proofs.Qxb6500275aGreatDoor
