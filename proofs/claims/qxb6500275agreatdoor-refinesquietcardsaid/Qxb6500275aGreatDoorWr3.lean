import Derived.Test.Qxb6500275aGreatDoorWr2
set_option maxRecDepth 100000
set_option linter.unusedVariables false
set_option linter.unusedSimpArgs false
set_option linter.unusedSectionVars false
namespace Go.Proofs.Qxb6500275aGreatDoor
open Go Go.RowKit
/- what the decoder's scratch says: the types' numbers, the open blocks, the instructions, the labels so far -/
structure BL (F G H : Nat → Value) (ib tb : Nat) (ty : List Int) (op : List Nat) (ins : List Ins) (tabs : List Int) : Prop where
  cT : ∀ i (t : Int), ty[i]? = some t → F i = .int .i64 t
  nT : F 8 = .int .i64 ty.length
  cO : ∀ i (t : Nat), op[i]? = some t → F (9 + i) = .int .u8 t
  nO : F 15 = .int .i64 op.length
  sI : F 16 = .slice (some ⟨ib, 0, none⟩) 96 96
  nI : F 17 = .int .i64 ins.length
  sT : F 18 = .slice (some ⟨tb, 0, none⟩) 24 24
  nL : F 19 = .int .i64 tabs.length
  cI : ∀ i (x : Ins), ins[i]? = some x → G (i * 3) = .int .u8 x.op ∧ G (i * 3 + 1) = .int .u32 x.x ∧ G (i * 3 + 2) = .int .u64 x.y
  cL : ∀ i (t : Int), tabs[i]? = some t → H i = .int .u32 t
  lT : ty.length ≤ 8
  lO : op.length ≤ 6
  lI : ins.length ≤ 96
  lL : tabs.length ≤ 24
/- the encoder's scratch, never made -/
abbrev TV := Nat → Option Addr × Nat
def tlV (t : Option Addr × Nat) : Value := .slice t.1 t.2 t.2
variable [Inhabited TV]
def Tl (w : World) (bb : Nat) : Prop := ∀ j, 20 ≤ j → j < 23 → w.cell? ⟨bb, j, none⟩ = some (tlV ((default : TV) j)) ∧ w.frozen? ⟨bb, j, none⟩ = false
theorem Tl.keep {w w' : World} {bb : Nat} {S : Nat → Prop} (h : Tl w bb) (hk : Kp S w w') (h1 : ¬ S bb) : Tl w' bb := fun j h2 h3 =>
  ⟨by rw [hk.cell (p := ⟨bb, j, none⟩) (lt_of_cell (h j h2 h3).1) h1]; exact (h j h2 h3).1, by rw [hk.frozen (p := ⟨bb, j, none⟩) (lt_of_cell (h j h2 h3).1) h1]; exact (h j h2 h3).2⟩
theorem Tl.set {w : World} {bb i : Nat} (h : Tl w bb) (hi : i < 20) (v : Value) : Tl (w.setCell ⟨bb, i, none⟩ v) bb := fun j h2 h3 =>
  ⟨by rw [World.cell?_setCell_other _ _ _ _ (by intro e; injection e; omega)]; exact (h j h2 h3).1, by rw [World.frozen?_setCell]; exact (h j h2 h3).2⟩
theorem Tl.other {w : World} {bb c i : Nat} (h : Tl w bb) (hc : bb ≠ c) (v : Value) : Tl (w.setCell ⟨c, i, none⟩ v) bb := fun j h2 h3 =>
  ⟨by rw [World.cell?_setCell_other _ _ _ _ (by intro e; injection e; omega)]; exact (h j h2 h3).1, by rw [World.frozen?_setCell]; exact (h j h2 h3).2⟩
structure Bn (w : World) (bb ib tb : Nat) (ty : List Int) (op : List Nat) (ins : List Ins) (tabs : List Int) : Prop where
  is : ∃ F G H, Blk w bb 20 F ∧ Blk w ib 288 G ∧ Blk w tb 24 H ∧ BL F G H ib tb ty op ins tabs
  d1 : bb ≠ ib
  d2 : bb ≠ tb
  d3 : ib ≠ tb
  d4 : Tl w bb
section
variable {w w' : World} {bb ib tb : Nat} {ty : List Int} {op : List Nat} {ins : List Ins} {tabs : List Int}
theorem Bn.keep {S : Nat → Prop} (h : Bn w bb ib tb ty op ins tabs) (hk : Kp S w w') (h1 : ¬ S bb) (h2 : ¬ S ib) (h3 : ¬ S tb) : Bn w' bb ib tb ty op ins tabs := by
  obtain ⟨⟨F, G, H, b1, b2, b3, hl⟩, d1, d2, d3, d4⟩ := h
  exact ⟨⟨F, G, H, b1.keep hk h1, b2.keep hk h2, b3.keep hk h3, hl⟩, d1, d2, d3, d4.keep hk h1⟩
theorem Bn.drew (h : Bn w bb ib tb ty op ins tabs) : Bn w.drew bb ib tb ty op ins tabs := h.keep (S := fun _ => False) (Kp.refl _ _).drew (fun h => h) (fun h => h) (fun h => h)
/- one label more -/
theorem Bn.pushTab (h : Bn w bb ib tb ty op ins tabs) (v : Int) (hl : tabs.length < 24) :
    Bn ((w.setCell ⟨tb, tabs.length, none⟩ (.int .u32 v)).setCell ⟨bb, 19, none⟩ (.int .i64 ((tabs.length : Int) + 1))) bb ib tb ty op ins (tabs ++ [v]) := by
  obtain ⟨⟨F, G, H, b1, b2, b3, cT, nT, cO, nO, sI, nI, sT, nL, cI, cL, lT, lO, lI, lL⟩, d1, d2, d3, d4⟩ := h
  refine ⟨⟨upd F 19 (.int .i64 ((tabs.length : Int) + 1)), G, upd H tabs.length (.int .u32 v), (b1.other d2 _).set (by decide) _, (b2.other d3 _).other (fun h => d1 h.symm) _, (b3.set hl _).other (fun h => d2 h.symm) _, ?_⟩, d1, d2, d3, (d4.other d2 _).set (by decide) _⟩
  refine ⟨?_, ?_, ?_, ?_, ?_, ?_, ?_, ?_, cI, ?_, lT, lO, lI, by simp; omega⟩
  · intro i t hi
    have := (List.getElem?_eq_some_iff.1 hi).1
    rw [upd_ne _ _ (by omega)]; exact cT i t hi
  · rw [upd_ne _ _ (by decide)]; exact nT
  · intro i t hi
    have := (List.getElem?_eq_some_iff.1 hi).1
    rw [upd_ne _ _ (by omega)]; exact cO i t hi
  · rw [upd_ne _ _ (by decide)]; exact nO
  · rw [upd_ne _ _ (by decide)]; exact sI
  · rw [upd_ne _ _ (by decide)]; exact nI
  · rw [upd_ne _ _ (by decide)]; exact sT
  · rw [upd_same]; simp
  · intro i t hi
    by_cases e : i = tabs.length
    · subst e
      simp at hi
      rw [upd_same, hi]
    · rw [upd_ne _ _ e]
      refine cL i t ?_
      rw [List.getElem?_append_left (by
        have := (List.getElem?_eq_some_iff.1 hi).1
        simp at this
        omega)] at hi
      exact hi
end
end Go.Proofs.Qxb6500275aGreatDoor
