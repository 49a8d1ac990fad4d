import Derived.Test.Qxb6500275aGreatDoorVnb
namespace Go.Proofs.Qxb6500275aGreatDoor
open Go Go.RowKit
theorem ba_zero {s : ByteArray} (h : s.size = 0) : s = ⟨#[]⟩ := by
  apply ByteArray.ext
  exact Array.eq_empty_of_size_eq_zero h
theorem ba_one3 {s : ByteArray} (h : s.size = 1) : (s.toList == (⟨#[]⟩ : ByteArray).toList) = false := by
  rw [beq_eq_false_iff_ne]
  intro e
  rw [Go.ByteArray.toList_eq, Go.ByteArray.toList_eq] at e
  have := congrArg List.length e
  rw [ba_size, h] at this
  simp at this
theorem ba_one {s : ByteArray} (h : s.size = 1) : (s.toList == []) = false := by
  rw [beq_eq_false_iff_ne]
  intro e
  rw [Go.ByteArray.toList_eq] at e
  have := congrArg List.length e
  rw [ba_size, h] at this
  simp at this
end Go.Proofs.Qxb6500275aGreatDoor
