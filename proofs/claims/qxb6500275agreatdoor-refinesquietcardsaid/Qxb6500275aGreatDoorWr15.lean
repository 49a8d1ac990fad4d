import Derived.Test.Qxb6500275aGreatDoorWr3
set_option maxRecDepth 100000
set_option linter.unusedVariables false
set_option linter.unusedSimpArgs false
set_option linter.unusedSectionVars false
namespace Go.Proofs.Qxb6500275aGreatDoor
open Go Go.RowKit
variable [Inhabited TV]
section
variable {w : World} {bb ib tb : Nat} {ty : List Int} {op : List Nat} {ins : List Ins} {tabs : List Int}
/- a body begins -/
theorem Bn.reset (h : Bn w bb ib tb ty op ins tabs) : Bn (((w.setCell ⟨bb, 17, none⟩ (.int .i64 0)).setCell ⟨bb, 19, none⟩ (.int .i64 0)).setCell ⟨bb, 15, none⟩ (.int .i64 0)) bb ib tb ty [] [] [] := by
  obtain ⟨⟨F, G, H, b1, b2, b3, cT, nT, cO, nO, sI, nI, sT, nL, cI, cL, lT, lO, lI, lL⟩, d1, d2, d3, d4⟩ := h
  have f1 : ib ≠ bb := fun h => d1 h.symm
  have f2 : tb ≠ bb := fun h => d2 h.symm
  refine ⟨⟨_, G, H, ((b1.set (i := 17) (by decide) (.int .i64 0)).set (i := 19) (by decide) (.int .i64 0)).set (i := 15) (by decide) (.int .i64 0), ((b2.other f1 _).other f1 _).other f1 _, ((b3.other f2 _).other f2 _).other f2 _, ?_⟩, d1, d2, d3, ((d4.set (i := 17) (by decide) (.int .i64 0)).set (i := 19) (by decide) (.int .i64 0)).set (i := 15) (by decide) (.int .i64 0)⟩
  refine ⟨?_, ?_, fun i t h => by simp at h, ?_, ?_, ?_, ?_, ?_, fun i t h => by simp at h, fun i t h => by simp at h, lT, by simp, by simp, by simp⟩
  · intro i t hi
    have := (List.getElem?_eq_some_iff.1 hi).1
    rw [upd_ne _ _ (by omega), upd_ne _ _ (by omega), upd_ne _ _ (by omega)]; exact cT i t hi
  · rw [upd_ne _ _ (by decide), upd_ne _ _ (by decide), upd_ne _ _ (by decide)]; exact nT
  · rw [upd_same]; rfl
  · rw [upd_ne _ _ (by decide), upd_ne _ _ (by decide), upd_ne _ _ (by decide)]; exact sI
  · rw [upd_ne _ _ (by decide), upd_ne _ _ (by decide), upd_same]; rfl
  · rw [upd_ne _ _ (by decide), upd_ne _ _ (by decide), upd_ne _ _ (by decide)]; exact sT
  · rw [upd_ne _ _ (by decide), upd_same]; rfl
theorem get_snoc {α : Type} {l : List α} {x y : α} {i : Nat} (h : (l ++ [x])[i]? = some y) : (i < l.length ∧ l[i]? = some y) ∨ (i = l.length ∧ y = x) := by
  by_cases e : i < l.length
  · rw [List.getElem?_append_left e] at h
    exact .inl ⟨e, h⟩
  · have hl := (List.getElem?_eq_some_iff.1 h).1
    simp at hl
    have hi : i = l.length := by omega
    subst hi
    simp at h
    exact .inr ⟨rfl, h.symm⟩
/- one instruction more -/
theorem Bn.pushIns (h : Bn w bb ib tb ty op ins tabs) (x : Ins) (hl : ins.length < 96) :
    Bn ((((w.setCell ⟨ib, ins.length * 3, none⟩ (.int .u8 x.op)).setCell ⟨ib, ins.length * 3 + 1, none⟩ (.int .u32 x.x)).setCell ⟨ib, ins.length * 3 + 2, none⟩ (.int .u64 x.y)).setCell ⟨bb, 17, none⟩ (.int .i64 ((ins.length : Int) + 1))) bb ib tb ty op (ins ++ [x]) tabs := by
  obtain ⟨⟨F, G, H, b1, b2, b3, cT, nT, cO, nO, sI, nI, sT, nL, cI, cL, lT, lO, lI, lL⟩, d1, d2, d3, d4⟩ := h
  have f1 : ib ≠ bb := fun h => d1 h.symm
  have f2 : tb ≠ bb := fun h => d2 h.symm
  have f3 : tb ≠ ib := fun h => d3 h.symm
  refine ⟨⟨_, _, H, (((b1.other d1 _).other d1 _).other d1 _).set (i := 17) (by decide) (.int .i64 ((ins.length : Int) + 1)), (((b2.set (i := ins.length * 3) (by omega) (.int .u8 x.op)).set (i := ins.length * 3 + 1) (by omega) (.int .u32 x.x)).set (i := ins.length * 3 + 2) (by omega) (.int .u64 x.y)).other f1 _, (((b3.other f3 _).other f3 _).other f3 _).other f2 _, ?_⟩, d1, d2, d3, (((d4.other d1 _).other d1 _).other d1 _).set (i := 17) (by decide) (.int .i64 ((ins.length : Int) + 1))⟩
  refine ⟨?_, ?_, ?_, ?_, ?_, ?_, ?_, ?_, ?_, cL, lT, lO, by simp; omega, lL⟩
  · intro i t hi
    have := (List.getElem?_eq_some_iff.1 hi).1
    rw [upd_ne _ _ (by omega)]; exact cT i t hi
  · rw [upd_ne _ _ (by decide)]; exact nT
  · intro i t hi
    have := (List.getElem?_eq_some_iff.1 hi).1
    rw [upd_ne _ _ (by omega)]; exact cO i t hi
  · rw [upd_ne _ _ (by decide)]; exact nO
  · rw [upd_ne _ _ (by decide)]; exact sI
  · rw [upd_same]; simp
  · rw [upd_ne _ _ (by decide)]; exact sT
  · rw [upd_ne _ _ (by decide)]; exact nL
  · intro i y hi
    rcases get_snoc hi with ⟨h1, h2⟩ | ⟨rfl, rfl⟩
    · rw [upd_ne _ _ (by omega), upd_ne _ _ (by omega), upd_ne _ _ (by omega), upd_ne _ _ (by omega), upd_ne _ _ (by omega), upd_ne _ _ (by omega), upd_ne _ _ (by omega), upd_ne _ _ (by omega), upd_ne _ _ (by omega)]
      exact cI i y h2
    · refine ⟨?_, ?_, ?_⟩
      · rw [upd_ne _ _ (by omega), upd_ne _ _ (by omega), upd_same]
      · rw [upd_ne _ _ (by omega), upd_same]
      · rw [upd_same]
/- one block more stands open -/
theorem Bn.pushOpen (h : Bn w bb ib tb ty op ins tabs) (v : Nat) (hl : op.length < 6) :
    Bn ((w.setCell ⟨bb, 9 + op.length, none⟩ (.int .u8 v)).setCell ⟨bb, 15, none⟩ (.int .i64 ((op.length : Int) + 1))) bb ib tb ty (op ++ [v]) ins tabs := by
  obtain ⟨⟨F, G, H, b1, b2, b3, cT, nT, cO, nO, sI, nI, sT, nL, cI, cL, lT, lO, lI, lL⟩, d1, d2, d3, d4⟩ := h
  have f1 : ib ≠ bb := fun h => d1 h.symm
  have f2 : tb ≠ bb := fun h => d2 h.symm
  refine ⟨⟨_, G, H, (b1.set (i := 9 + op.length) (by omega) (.int .u8 v)).set (i := 15) (by decide) (.int .i64 ((op.length : Int) + 1)), (b2.other f1 _).other f1 _, (b3.other f2 _).other f2 _, ?_⟩, d1, d2, d3, (d4.set (i := 9 + op.length) (by omega) (.int .u8 v)).set (i := 15) (by decide) (.int .i64 ((op.length : Int) + 1))⟩
  refine ⟨?_, ?_, ?_, ?_, ?_, ?_, ?_, ?_, cI, cL, lT, by simp; omega, lI, lL⟩
  · intro i t hi
    have := (List.getElem?_eq_some_iff.1 hi).1
    rw [upd_ne _ _ (by omega), upd_ne _ _ (by omega)]; exact cT i t hi
  · rw [upd_ne _ _ (by decide), upd_ne _ _ (by omega)]; exact nT
  · intro i t hi
    rcases get_snoc hi with ⟨h1, h2⟩ | ⟨rfl, rfl⟩
    · rw [upd_ne _ _ (by omega), upd_ne _ _ (by omega)]; exact cO i t h2
    · rw [upd_ne _ _ (by omega), upd_same]
  · rw [upd_same]; simp
  · rw [upd_ne _ _ (by decide), upd_ne _ _ (by omega)]; exact sI
  · rw [upd_ne _ _ (by decide), upd_ne _ _ (by omega)]; exact nI
  · rw [upd_ne _ _ (by decide), upd_ne _ _ (by omega)]; exact sT
  · rw [upd_ne _ _ (by decide), upd_ne _ _ (by omega)]; exact nL
/- the innermost turns -/
theorem Bn.setTop {l : List Nat} {u : Nat} (h : Bn w bb ib tb ty (l ++ [u]) ins tabs) (v : Nat) : Bn (w.setCell ⟨bb, 9 + l.length, none⟩ (.int .u8 v)) bb ib tb ty (l ++ [v]) ins tabs := by
  obtain ⟨⟨F, G, H, b1, b2, b3, cT, nT, cO, nO, sI, nI, sT, nL, cI, cL, lT, lO, lI, lL⟩, d1, d2, d3, d4⟩ := h
  have f1 : ib ≠ bb := fun h => d1 h.symm
  have f2 : tb ≠ bb := fun h => d2 h.symm
  simp at lO
  refine ⟨⟨_, G, H, b1.set (i := 9 + l.length) (by omega) (.int .u8 v), b2.other f1 _, b3.other f2 _, ?_⟩, d1, d2, d3, d4.set (i := 9 + l.length) (by omega) (.int .u8 v)⟩
  refine ⟨?_, ?_, ?_, ?_, ?_, ?_, ?_, ?_, cI, cL, lT, by simp; omega, lI, lL⟩
  · intro i t hi
    have := (List.getElem?_eq_some_iff.1 hi).1
    rw [upd_ne _ _ (by omega)]; exact cT i t hi
  · rw [upd_ne _ _ (by omega)]; exact nT
  · intro i t hi
    rcases get_snoc hi with ⟨h1, h2⟩ | ⟨rfl, rfl⟩
    · rw [upd_ne _ _ (by omega)]
      exact cO i t (by rw [List.getElem?_append_left h1]; exact h2)
    · rw [upd_same]
  · rw [upd_ne _ _ (by omega), nO]; simp
  · rw [upd_ne _ _ (by omega)]; exact sI
  · rw [upd_ne _ _ (by omega)]; exact nI
  · rw [upd_ne _ _ (by omega)]; exact sT
  · rw [upd_ne _ _ (by omega)]; exact nL
/- the innermost closes -/
theorem Bn.popOpen {l : List Nat} {u : Nat} (h : Bn w bb ib tb ty (l ++ [u]) ins tabs) : Bn (w.setCell ⟨bb, 15, none⟩ (.int .i64 l.length)) bb ib tb ty l ins tabs := by
  obtain ⟨⟨F, G, H, b1, b2, b3, cT, nT, cO, nO, sI, nI, sT, nL, cI, cL, lT, lO, lI, lL⟩, d1, d2, d3, d4⟩ := h
  have f1 : ib ≠ bb := fun h => d1 h.symm
  have f2 : tb ≠ bb := fun h => d2 h.symm
  simp at lO
  refine ⟨⟨_, G, H, b1.set (i := 15) (by decide) (.int .i64 l.length), b2.other f1 _, b3.other f2 _, ?_⟩, d1, d2, d3, d4.set (i := 15) (by decide) (.int .i64 l.length)⟩
  refine ⟨?_, ?_, ?_, ?_, ?_, ?_, ?_, ?_, cI, cL, lT, by omega, lI, lL⟩
  · intro i t hi
    have := (List.getElem?_eq_some_iff.1 hi).1
    rw [upd_ne _ _ (by omega)]; exact cT i t hi
  · rw [upd_ne _ _ (by decide)]; exact nT
  · intro i t hi
    have := (List.getElem?_eq_some_iff.1 hi).1
    rw [upd_ne _ _ (by omega)]
    exact cO i t (by rw [List.getElem?_append_left this]; exact hi)
  · rw [upd_same]
  · rw [upd_ne _ _ (by decide)]; exact sI
  · rw [upd_ne _ _ (by decide)]; exact nI
  · rw [upd_ne _ _ (by decide)]; exact sT
  · rw [upd_ne _ _ (by decide)]; exact nL
end
end Go.Proofs.Qxb6500275aGreatDoor
