import Derived.Test.Qxb6500275aGreatDoorWr5
import Derived.Test.Qxb6500275aGreatDoorWr6
import Derived.Test.Qxb6500275aGreatDoorWr9
import Derived.Test.Qxb6500275aGreatDoorWr10
import Derived.Test.Qxb6500275aGreatDoorWr11
import Derived.Test.Qxb6500275aGreatDoorWr12
set_option maxRecDepth 100000
set_option linter.unusedVariables false
set_option linter.unusedSectionVars false
namespace Go.Proofs.Qxb6500275aGreatDoor
open Go Go.RowKit
variable [Inhabited TV]
def restS (s : ByteArray) (p e op at_ : Nat) (tabs : List Int) : RO :=
  if op = 0 ∨ op = 1 ∨ op = 5 ∨ op = 11 ∨ op = 15 ∨ op = 26 ∨ op = 27 then .ok (⟨op, 0, 0⟩, p, tabs)
  else if op = 2 ∨ op = 3 ∨ op = 4 then blkS s p e op tabs
  else if op = 12 ∨ op = 13 ∨ op = 16 ∨ op = 32 ∨ op = 33 ∨ op = 34 ∨ op = 35 ∨ op = 36 then idxS s p e op tabs
  else if op = 14 then tableS2 s p e op tabs
  else if op = 17 then ciS s p e op tabs
  else if op = 63 ∨ op = 64 then zeroS s p e op tabs
  else if 65 ≤ op ∧ op ≤ 68 then constS (cS s p e op) op tabs
  else if 40 ≤ op ∧ op ≤ 62 then ldstS s p e op tabs
  else if 69 ≤ op ∧ op ≤ 191 then .ok (⟨op, 0, 0⟩, p, tabs)
  else .error (10, at_)
section
variable {w : World} {b : Nat} {s : ByteArray} {p e bb ib tb : Nat} {ty : List Int} {opn : List Nat} {ins : List Ins} {tabs : List Int}
theorem rest_calls (h : Rd w b s p e bb) (hB : Bn w bb ib tb ty opn ins tabs) (hne : b ≠ bb ∧ b ≠ ib ∧ b ≠ tb) (op : Nat) (ho : op < 256) (at_ : Nat) :
    Calls Tryz.prog 180 #[.pointer (some ⟨b, 0, none⟩), .int .u8 op, .int .i64 at_] w (QP (restS s p e op at_ tabs) b s e bb ib tb ty opn ins w) := by
  by_cases h1 : op = 0 ∨ op = 1 ∨ op = 5 ∨ op = 11 ∨ op = 15 ∨ op = 26 ∨ op = 27
  · unfold restS; rw [if_pos h1]; exact rest_plain h hB op h1 at_
  by_cases h2 : op = 2 ∨ op = 3 ∨ op = 4
  · unfold restS; rw [if_neg h1, if_pos h2]; exact rest_blk h hB hne op h2 at_
  by_cases h3 : op = 12 ∨ op = 13 ∨ op = 16 ∨ op = 32 ∨ op = 33 ∨ op = 34 ∨ op = 35 ∨ op = 36
  · unfold restS; rw [if_neg h1, if_neg h2, if_pos h3]; exact rest_idx h hB hne op h3 at_
  by_cases h4 : op = 14
  · unfold restS; rw [if_neg h1, if_neg h2, if_neg h3, if_pos h4]; exact rest_tab h hB hne op h4 at_
  by_cases h5 : op = 17
  · unfold restS; rw [if_neg h1, if_neg h2, if_neg h3, if_neg h4, if_pos h5]; exact rest_ci h hB hne op h5 at_
  by_cases h6 : op = 63 ∨ op = 64
  · unfold restS; rw [if_neg h1, if_neg h2, if_neg h3, if_neg h4, if_neg h5, if_pos h6]; exact rest_zero h hB hne op h6 at_
  by_cases h7 : 65 ≤ op ∧ op ≤ 68
  · unfold restS; rw [if_neg h1, if_neg h2, if_neg h3, if_neg h4, if_neg h5, if_neg h6, if_pos h7]; exact rest_const h hB hne op h7 at_
  by_cases h8 : 40 ≤ op ∧ op ≤ 62
  · unfold restS; rw [if_neg h1, if_neg h2, if_neg h3, if_neg h4, if_neg h5, if_neg h6, if_neg h7, if_pos h8]; exact rest_ldst h hB hne op h8 at_
  by_cases h9 : 69 ≤ op ∧ op ≤ 191
  · unfold restS; rw [if_neg h1, if_neg h2, if_neg h3, if_neg h4, if_neg h5, if_neg h6, if_neg h7, if_neg h8, if_pos h9]; exact rest_num h hB op h9 at_
  · unfold restS; rw [if_neg h1, if_neg h2, if_neg h3, if_neg h4, if_neg h5, if_neg h6, if_neg h7, if_neg h8, if_neg h9]; exact rest_bad h hB hne op (by omega) at_
end
/- how far it comes -/
theorem fixedS_ok {s : ByteArray} {p e want q : Nat} {u : Unit} (h : fixedS s p e want = .ok (u, q)) : q = p + 1 := by
  unfold fixedS at h
  split at h
  · split at h
    · simp at h; omega
    · simp at h
  · simp at h
theorem tabsL_ok {s : ByteArray} {e : Nat} : ∀ (n q : Nat) (t : List Int) (r : Nat) (t' : List Int), tabsL s e n q t = .ok (r, t') → q ≤ r
  | 0, q, t, r, t', h => by simp [tabsL] at h; omega
  | n + 1, q, t, r, t', h => by
    unfold tabsL at h
    split at h
    · simp at h
    · rename_i v r' hv
      have := tabsL_ok n r' _ r t' h
      have := (u32S_ok hv).2.1
      omega
theorem wordS_ok {s : ByteArray} {p e n q : Nat} {v : Int} (h : wordS s p e n = .ok (v, q)) : p ≤ q := by
  unfold wordS at h
  split at h
  · simp at h
  · rename_i t r ht
    simp at h
    unfold takeS at ht
    split at ht
    · simp at ht
    · simp at ht; omega
theorem restS_ok {s : ByteArray} {p e op at_ : Nat} {tabs t : List Int} {i : Ins} {q : Nat} (h : restS s p e op at_ tabs = .ok (i, q, t)) : p ≤ q ∧ i.op = op := by
  unfold restS at h
  split at h
  · simp at h; obtain ⟨rfl, rfl, _⟩ := h; exact ⟨Nat.le_refl _, rfl⟩
  split at h
  · unfold blkS at h
    split at h
    · split at h
      · simp at h; obtain ⟨rfl, rfl, _⟩ := h; exact ⟨by omega, rfl⟩
      · simp at h
    · simp at h
  split at h
  · unfold idxS at h
    split at h
    · simp at h
    · rename_i x r hu
      have := (u32S_ok hu).2.1
      simp at h; obtain ⟨rfl, rfl, _⟩ := h; exact ⟨by omega, rfl⟩
  split at h
  · unfold tableS2 at h
    split at h
    · simp at h
    · rename_i k r hu
      have := (countS_ok hu).2.1
      split at h
      · simp at h
      · rename_i r' t' hl
        have := tabsL_ok _ _ _ _ _ hl
        simp at h; obtain ⟨rfl, rfl, _⟩ := h; exact ⟨by omega, rfl⟩
  split at h
  · unfold ciS at h
    split at h
    · simp at h
    · rename_i x r hu
      have := (u32S_ok hu).2.1
      split at h
      · simp at h
      · rename_i u r' hf
        have := fixedS_ok hf
        simp at h; obtain ⟨rfl, rfl, _⟩ := h; exact ⟨by omega, rfl⟩
  split at h
  · unfold zeroS at h
    split at h
    · simp at h
    · rename_i u r' hf
      have := fixedS_ok hf
      simp at h; obtain ⟨rfl, rfl, _⟩ := h; exact ⟨by omega, rfl⟩
  split at h
  · unfold constS at h
    split at h
    · simp at h
    · rename_i y r hc
      simp at h; obtain ⟨rfl, rfl, _⟩ := h
      refine ⟨?_, rfl⟩
      unfold cS at hc
      split at hc
      · have := (slebS_ok hc).2.1; omega
      split at hc
      · have := (slebS_ok hc).2.1; omega
      split at hc
      · exact wordS_ok hc
      · exact wordS_ok hc
  split at h
  · unfold ldstS at h
    split at h
    · simp at h
    · rename_i x r hu
      have := (u32S_ok hu).2.1
      split at h
      · simp at h
      · rename_i y r' hu2
        have := (u32S_ok hu2).2.1
        simp at h; obtain ⟨rfl, rfl, _⟩ := h; exact ⟨by omega, rfl⟩
  split at h
  · simp at h; obtain ⟨rfl, rfl, _⟩ := h; exact ⟨Nat.le_refl _, rfl⟩
  · simp at h
end Go.Proofs.Qxb6500275aGreatDoor
