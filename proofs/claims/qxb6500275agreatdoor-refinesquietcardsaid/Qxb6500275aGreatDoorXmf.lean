import Derived.Test.Qxb6500275aGreatDoorNog
import Derived.Test.Qxb6500275aGreatDoorRm2
import Derived.Test.Qxb6500275aGreatDoorXm4
set_option linter.unusedVariables false
set_option linter.unusedSimpArgs false
set_option maxRecDepth 100000
namespace Go.Proofs.Qxb6500275aGreatDoor
open Go Go.RowKit
theorem ld_ok : LdOk := by
  intro S op a o v hS h1 h2 ht h
  unfold loadS at h
  rcases iteC h with ⟨_, h⟩ | ⟨_, h⟩
  · simp at h
    rw [load_le op h1 h2 _ (fun i => byS_lt hS _)] at h
    rw [← h]
    unfold loadN
    dsimp only
    rw [if_pos (.inl ht)]
    omega
  · simp at h
theorem flagN_le (b : Bool) : flagN b ≤ 1 := by unfold flagN; split <;> omega
theorem iun_lt (k a : Nat) : iunM 32 k a < 4294967296 := by
  unfold iunM
  split
  · unfold clzN; split <;> omega
  · split
    · have := ctz_le 32 a; omega
    · have := pop_le a 32; omega
theorem fitS_lt (sg neg : Bool) (m : Nat) : (fitS 32 sg neg m).1 < 4294967296 := by
  unfold fitS
  repeat' split
  all_goals (simp at *; try omega)
theorem trunc_lt (F : Ieee.Format) (bi : Nat) (sg : Bool) (v : Nat) : (truncP F bi 32 sg v).1 < 4294967296 := by
  unfold truncP
  split
  · split <;> (dsimp only; omega)
  · exact fitS_lt _ _ _
theorem sig127 : ∀ o : Nat, o < 192 → 69 ≤ o → (numSig o).2.2 = 127 → (o ≤ 102 ∨ (103 ≤ o ∧ o ≤ 120 ∧ (numSig o).2.1 = 127) ∨ o = 167 ∨ o = 168 ∨ o = 169 ∨ o = 170 ∨ o = 171 ∨ (o = 188 ∧ (numSig o).2.1 = 125)) := by
  have h : ∀ o : Nat, o < 192 → (decide (69 ≤ o) && decide ((numSig o).2.2 = 127)) = true → (decide (o ≤ 102) || (decide (103 ≤ o) && decide (o ≤ 120) && decide ((numSig o).2.1 = 127)) || decide (o = 167) || decide (o = 168) || decide (o = 169) || decide (o = 170) || decide (o = 171) || (decide (o = 188) && decide ((numSig o).2.1 = 125))) = true := by decide +kernel
  intro o h1 h2 h3
  have := h o h1 (by simp [h2, h3])
  simp at this
  omega
theorem numP_lt {o a b : Nat} (h1 : 69 ≤ o) (h2 : o ≤ 191) (ht : (numSig o).2.2 = 127) : (numP o a b).1 < 4294967296 := by
  have hf := fun b => flagN_le b
  have hs := sig127 o (by omega) h1 ht
  unfold numP
  by_cases c1 : o = 69 ∨ o = 80
  · rw [if_pos c1]; have := hf (decide (cut32 o a = 0)); dsimp only; omega
  rw [if_neg c1]
  by_cases c2 : o ≤ 79
  · rw [if_pos c2]; have := hf (icmpM 32 (o - 70) (cut32 o a) (cut32 o b)); dsimp only; omega
  rw [if_neg c2]
  by_cases c3 : o ≤ 90
  · rw [if_pos c3]; have := hf (icmpM 64 (o - 81) (cut32 o a) (cut32 o b)); dsimp only; omega
  rw [if_neg c3]
  by_cases c4 : o ≤ 96
  · rw [if_pos c4]; have := hf (cmpM Ieee.single (o - 91) (cut32 o a) (cut32 o b)); dsimp only; omega
  rw [if_neg c4]
  by_cases c5 : o ≤ 102
  · rw [if_pos c5]; have := hf (cmpM Ieee.double (o - 97) (cut32 o a) (cut32 o b)); dsimp only; omega
  rw [if_neg c5]
  rcases hs with hs | ⟨hs1, hs2, hs3⟩ | hs
  · omega
  · have hca : ∀ x, cut32 o x < 4294967296 := fun x => by unfold cut32; rw [if_pos (.inl hs3)]; omega
    by_cases c6 : o ≤ 105
    · rw [if_pos c6]; exact iun_lt _ _
    rw [if_neg c6, if_pos (by omega)]
    exact ibin_lt _ _ _ (hca a) (hca b)
  · rw [if_neg (by omega), if_neg (by omega), if_neg (by omega), if_neg (by omega), if_neg (by omega), if_neg (by omega), if_neg (by omega), if_neg (by omega)]
    unfold convM
    rcases hs with hs | hs | hs | hs | hs | ⟨hs, hs2⟩
    · rw [if_pos hs]; dsimp only; omega
    · rw [if_neg (by omega), if_pos hs]; exact trunc_lt _ _ _ _
    · rw [if_neg (by omega), if_neg (by omega), if_pos hs]; exact trunc_lt _ _ _ _
    · rw [if_neg (by omega), if_neg (by omega), if_neg (by omega), if_pos hs]; exact trunc_lt _ _ _ _
    · rw [if_neg (by omega), if_neg (by omega), if_neg (by omega), if_neg (by omega), if_pos hs]; exact trunc_lt _ _ _ _
    · subst hs
      rw [if_neg (by omega), if_neg (by omega), if_neg (by omega), if_neg (by omega), if_neg (by omega), if_neg (by omega), if_neg (by omega), if_neg (by omega), if_neg (by omega), if_neg (by omega), if_neg (by omega), if_neg (by omega), if_neg (by omega), if_neg (by omega), if_neg (by omega), if_neg (by omega), if_neg (by omega), if_neg (by omega), if_neg (by omega), if_neg (by omega), if_neg (by omega)]
      dsimp only
      unfold cut32
      rw [if_pos (.inr hs2)]
      omega
/- the numeric operators, for the two machines -/
theorem numI_x (w : World) : NumX numI := by
  refine ⟨numI_ok w, fun a ha => ?_, fun a b ha hb => ?_, fun o a b h1 h2 ha hb ht => ?_⟩
  · have := numI_nat (o := 69) (by decide) (by decide) (a := a) (b := 0) (by omega) (by omega)
    have h0 : ((0 : Nat) : Int) = 0 := rfl
    rw [h0] at this
    rw [this]
    have e : numP 69 a 0 = (flagN (decide (cut32 69 a = 0)), 0) := by unfold numP; rw [if_pos (.inl rfl)]
    have e2 : cut32 69 a = a := by
      unfold cut32
      rw [if_pos (.inl (by rfl))]
      omega
    rw [e, e2]
    dsimp only
    unfold flagN
    by_cases h : a = 0
    · simp [h]
    · simp [h]
  · rw [numI_nat (o := 106) (by decide) (by decide) (by omega) (by omega)]
    have e : numP 106 a b = ibinM 32 0 (cut32 106 a) (cut32 106 b) := by
      unfold numP
      rw [if_neg (by omega), if_neg (by omega), if_neg (by omega), if_neg (by omega), if_neg (by omega), if_neg (by omega), if_pos (by omega)]
    have e2 : ∀ x, x < 4294967296 → cut32 106 x = x := fun x hx => by
      unfold cut32
      rw [if_pos (.inl (by rfl))]
      omega
    rw [e, e2 a ha, e2 b hb]
    unfold ibinM
    rw [if_pos rfl]
    rfl
  · rw [numI_nat h1 h2 ha hb]
    have := numP_lt (a := a) (b := b) h1 h2 ht
    dsimp only
    omega
end Go.Proofs.Qxb6500275aGreatDoor
