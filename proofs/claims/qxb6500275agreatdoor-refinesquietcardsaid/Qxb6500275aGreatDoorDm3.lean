import Derived.Test.Qxb6500275aGreatDoorDm2
import Derived.Test.Qxb6500275aGreatDoorSt1
set_option linter.unusedVariables false
set_option linter.unusedSimpArgs false
set_option maxRecDepth 100000
namespace Go.Proofs.Qxb6500275aGreatDoor
open Go Go.RowKit
/- a decoded module without a memory has no limit of it -/
def MPair (M : Mod) : Prop := (M.memMin = -1 ∧ M.memMax = -1) ∨ 0 ≤ M.memMin
theorem limitsS_0 {s : ByteArray} {p e : Nat} {lo hi : Int} {q : Nat} (h : limitsS s p e = .ok ((lo, hi), q)) : 0 ≤ lo := by
  unfold limitsS at h
  split at h
  · simp at h
  split at h
  · simp at h
  rename_i hu
  have h1 := (u32S_ok hu).1.1
  split at h
  · simp at h
    rw [← h.1.1]
    exact h1
  split at h
  · simp at h
  · simp at h
    rw [← h.1.1]
    exact h1
theorem secS_mp {id : Nat} {s : ByteArray} {p e : Nat} {M M' : Mod} {ty ty' : List Int} {q : Nat} (h : secS id s p e M ty = .ok (M', ty', q)) (hk : MPair M) : MPair M' := by
  unfold secS at h
  split at h
  · obtain ⟨⟨x, r⟩, h1, h⟩ := bindR_get h
    simp at h; obtain ⟨rfl, rfl, rfl⟩ := h
    exact hk
  split at h
  · obtain ⟨⟨x, r⟩, h1, h⟩ := bindR_get h
    simp at h; obtain ⟨rfl, rfl, rfl⟩ := h
    exact hk
  split at h
  · obtain ⟨⟨x, r⟩, h1, h⟩ := bindR_get h
    simp at h; obtain ⟨rfl, rfl, rfl⟩ := h
    exact hk
  split at h
  · obtain ⟨⟨n, r⟩, h1, h⟩ := bindR_get h
    dsimp only at h
    split at h
    · obtain ⟨a, _, h⟩ := bindR_get h
      obtain ⟨⟨⟨lo, hi⟩, r⟩, h2, h⟩ := bindR_get h
      simp at h; obtain ⟨rfl, rfl, rfl⟩ := h
      exact hk
    · simp at h; obtain ⟨rfl, rfl, rfl⟩ := h
      exact hk
  split at h
  · obtain ⟨⟨n, r⟩, h1, h⟩ := bindR_get h
    dsimp only at h
    split at h
    · obtain ⟨⟨⟨lo, hi⟩, r⟩, h2, h⟩ := bindR_get h
      simp at h; obtain ⟨rfl, rfl, rfl⟩ := h
      exact .inr (limitsS_0 h2)
    · simp at h; obtain ⟨rfl, rfl, rfl⟩ := h
      exact hk
  split at h
  · obtain ⟨⟨x, r⟩, h1, h⟩ := bindR_get h
    simp at h; obtain ⟨rfl, rfl, rfl⟩ := h
    exact hk
  split at h
  · obtain ⟨⟨x, r⟩, h1, h⟩ := bindR_get h
    simp at h; obtain ⟨rfl, rfl, rfl⟩ := h
    exact hk
  split at h
  · obtain ⟨⟨x, r⟩, h1, h⟩ := bindR_get h
    simp at h; obtain ⟨rfl, rfl, rfl⟩ := h
    exact hk
  split at h
  · obtain ⟨⟨x, r⟩, h1, h⟩ := bindR_get h
    simp at h; obtain ⟨rfl, rfl, rfl⟩ := h
    exact hk
  split at h
  · obtain ⟨⟨n, r⟩, h1, h⟩ := bindR_get h
    dsimp only at h
    split at h
    · obtain ⟨⟨x, r⟩, h2, h⟩ := bindR_get h
      simp at h; obtain ⟨rfl, rfl, rfl⟩ := h
      exact hk
    · simp at h
  · obtain ⟨⟨x, r⟩, h1, h⟩ := bindR_get h
    simp at h; obtain ⟨rfl, rfl, rfl⟩ := h
    exact hk
theorem secsL_mp {s : ByteArray} : ∀ (n last q : Nat) (M : Mod) (ty : List Int) (M' : Mod) (ty' : List Int) (r : Nat), secsL s n last q M ty = .ok (M', ty', r) → MPair M → MPair M'
  | 0, last, q, M, ty, M', ty', r, h, hk => by simp [secsL] at h
  | n + 1, last, q, M, ty, M', ty', r, h, hk => by
    rw [secsL] at h
    split at h
    · obtain ⟨⟨a, q1⟩, h1, h⟩ := bindR_get h
      dsimp only at h
      split at h
      · simp at h
      · obtain ⟨⟨w1, w2⟩, h2, h⟩ := bindR_get h
        obtain ⟨⟨M2, ty2, q2⟩, h3, h⟩ := bindR_get h
        dsimp only at h3 h
        split at h
        · exact secsL_mp n _ _ _ _ _ _ _ h (secS_mp h3 hk)
        · simp at h
    · simp at h; obtain ⟨rfl, rfl, rfl⟩ := h; exact hk
theorem decodeS_mp {s : ByteArray} {M : Mod} (h : decodeS s = .ok M) : MPair M := by
  unfold decodeS at h
  split at h
  · simp at h
  split at h
  · simp at h
  split at h
  · obtain ⟨⟨M2, ty2, q2⟩, h3, h⟩ := bindR_get h
    dsimp only at h
    split at h
    · simp at h
      subst h
      exact secsL_mp _ _ _ _ _ _ _ _ h3 (.inl ⟨rfl, rfl⟩)
    · simp at h
  · simp at h
/- A DECODED, VALIDATED MODULE'S STORE IS LAID -/
theorem reset_some {s : ByteArray} {M : Mod} (h : decodeS s = .ok M) (hv : partsV M = none) : ∃ S, resetS M.memMin M.memMax M.tabMin M.globals.length = some S := by
  have hM := (decodeS_r h).1
  have hp := decodeS_mp h
  have h1 := hM.memMin
  have h2 := hM.memMax
  have h3 := hM.tabMin
  unfold limR at h1 h2 h3
  unfold MPair at hp
  unfold partsV at hv
  split at hv
  · simp at hv
  rcases iteC hv with ⟨_, hv⟩ | ⟨l1, hv⟩
  · simp at hv
  rcases iteC hv with ⟨_, hv⟩ | ⟨l2, _⟩
  · simp at hv
  have e1 : M.tabMin ≤ 8 := by
    unfold limitsV at l1
    split at l1
    · simp at l1
    · omega
  have e2 : M.memMin ≤ 6 ∧ (M.memMax = -1 ∨ M.memMin ≤ M.memMax) := by
    unfold limitsV at l2
    split at l2
    · simp at l2
    · simp at l2
      exact ⟨by omega, by omega⟩
  unfold resetS
  rw [if_neg (by omega), if_neg (by omega), if_neg (by omega), if_neg (by omega)]
  exact ⟨_, rfl⟩
end Go.Proofs.Qxb6500275aGreatDoor
