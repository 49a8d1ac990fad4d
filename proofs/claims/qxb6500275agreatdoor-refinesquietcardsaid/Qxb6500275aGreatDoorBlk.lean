import Derived.Test.Qxb6500275aGreatDoorKp
set_option linter.unusedVariables false
namespace Go.Proofs.Qxb6500275aGreatDoor
open Go Go.RowKit
theorem lt_of_cell {w : World} {a : Addr} {v : Value} (h : w.cell? a = some v) : a.block < w.heap.size := by
  refine Nat.lt_of_not_le fun hge => ?_
  simp [World.cell?, hge] at h
/- the first n cells of block b hold F; nothing of them is frozen -/
def Blk (w : World) (b n : Nat) (F : Nat → Value) : Prop := ∀ i, i < n → w.cell? ⟨b, i, none⟩ = some (F i) ∧ w.frozen? ⟨b, i, none⟩ = false
def upd (F : Nat → Value) (i : Nat) (v : Value) : Nat → Value := fun k => if k = i then v else F k
theorem upd_same (F : Nat → Value) (i : Nat) (v : Value) : upd F i v i = v := if_pos rfl
theorem upd_ne (F : Nat → Value) {i k : Nat} (v : Value) (h : k ≠ i) : upd F i v k = F k := if_neg h
section
variable {w w' : World} {b c n i : Nat} {F : Nat → Value} {v : Value}
theorem Blk.cell (h : Blk w b n F) (hi : i < n) : w.cell? ⟨b, i, none⟩ = some (F i) := (h i hi).1
theorem Blk.fz (h : Blk w b n F) (hi : i < n) : w.frozen? ⟨b, i, none⟩ = false := (h i hi).2
theorem Blk.lt (h : Blk w b n F) (hn : 0 < n) : b < w.heap.size := lt_of_cell (h.cell hn)
theorem Blk.keep {S : Nat → Prop} (h : Blk w b n F) (hk : Kp S w w') (hs : ¬ S b) : Blk w' b n F := fun i hi => by
  have hl : b < w.heap.size := lt_of_cell (h.cell hi)
  exact ⟨(hk.cell (p := ⟨b, i, none⟩) hl hs).trans (h i hi).1, (hk.frozen (p := ⟨b, i, none⟩) hl hs).trans (h i hi).2⟩
theorem Blk.drew (h : Blk w b n F) : Blk w.drew b n F := h
theorem Blk.set (h : Blk w b n F) (hi : i < n) (v : Value) : Blk (w.setCell ⟨b, i, none⟩ v) b n (upd F i v) := fun k hk => by
  refine ⟨?_, by rw [World.frozen?_setCell]; exact h.fz hk⟩
  by_cases e : k = i
  · subst e
    rw [upd_same]
    exact World.cell?_setCell_same _ _ _ (h.cell hi)
  · rw [upd_ne F v e, World.cell?_setCell_other _ _ _ _ (by simp; omega)]
    exact h.cell hk
theorem Blk.other (h : Blk w b n F) (hc : b ≠ c) (v : Value) : Blk (w.setCell ⟨c, i, none⟩ v) b n F := fun k hk => by
  refine ⟨?_, by rw [World.frozen?_setCell]; exact h.fz hk⟩
  rw [World.cell?_setCell_other _ _ _ _ (by simp; omega)]
  exact h.cell hk
end
end Go.Proofs.Qxb6500275aGreatDoor
