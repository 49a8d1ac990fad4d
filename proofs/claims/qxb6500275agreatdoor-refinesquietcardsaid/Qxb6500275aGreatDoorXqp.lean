import Derived.Test.Qxb6500275aGreatDoorLd1
import Derived.Test.Qxb6500275aGreatDoorDm3
import Derived.Test.Qxb6500275aGreatDoorLwb
set_option maxRecDepth 100000
set_option linter.unusedVariables false
set_option linter.unusedSimpArgs false
namespace Go.Proofs.Qxb6500275aGreatDoor
open Go Go.RowKit
/- the exports' names are all different -/
def ExU (M : Mod) : Prop := M.exports.Pairwise (fun a b => a.name ≠ b.name)
theorem expsV_u {M : Mod} : ∀ (l b : List Exp) (i : Nat), expsV M b l i = none → b.Pairwise (fun a b => a.name ≠ b.name) → (b ++ l).Pairwise (fun a b => a.name ≠ b.name)
  | [], b, i, h, hb => by rw [List.append_nil]; exact hb
  | x :: xs, b, i, h, hb => by
    rw [expsV] at h
    rcases iteC h with ⟨_, h⟩ | ⟨_, h⟩
    · simp at h
    rcases iteC h with ⟨_, h⟩ | ⟨h1, h⟩
    · simp at h
    have h2 : (b ++ [x]).Pairwise (fun a b => a.name ≠ b.name) := by
      refine List.pairwise_append.2 ⟨hb, by simp, fun y hy z hz => ?_⟩
      simp at hz
      subst hz
      intro e
      refine h1 ?_
      rw [List.any_eq_true]
      exact ⟨y, hy, by simp [e]⟩
    have := expsV_u xs (b ++ [x]) (i + 1) h h2
    rw [List.append_assoc] at this
    exact this
theorem parts_exu {M : Mod} (h : partsV M = none) : ExU M := by
  unfold partsV at h
  split at h
  · simp at h
  rcases iteC h with ⟨_, h⟩ | ⟨_, h⟩
  · simp at h
  rcases iteC h with ⟨_, h⟩ | ⟨_, h⟩
  · simp at h
  split at h
  · simp at h
  split at h
  · simp at h
  rename_i he
  exact expsV_u _ _ _ he List.Pairwise.nil
/- the last of the exports of a name is the first -/
def lastX (s : ByteArray) : List Exp → Int → Int
  | [], z => z
  | x :: xs, z => lastX s xs (if x.kind = 0 ∧ x.name = s then x.idx else z)
theorem lastX_none {s : ByteArray} : ∀ (l : List Exp) (z : Int), (∀ x, x ∈ l → x.name ≠ s) → lastX s l z = z
  | [], z, h => rfl
  | x :: xs, z, h => by
    rw [lastX, if_neg (fun e => h x (by simp) e.2)]
    exact lastX_none xs z (fun y hy => h y (by simp [hy]))
theorem lastX_find {s : ByteArray} : ∀ (l : List Exp), l.Pairwise (fun a b => a.name ≠ b.name) → lastX s l (-1) = findX s l
  | [], h => rfl
  | x :: xs, h => by
    rw [lastX, findX]
    obtain ⟨h1, h2⟩ := List.pairwise_cons.1 h
    by_cases e : x.kind = 0 ∧ x.name = s
    · rw [if_pos e, if_pos e]
      exact lastX_none xs _ (fun y hy e2 => h1 y hy (by rw [e.2, e2]))
    · rw [if_neg e, if_neg e]
      exact lastX_find xs h2
/- a load's law does not hang on the store that was -/
theorem LoadS_new {num : NumF} {M : Mod} {fs : List FF} {fuel : Nat} {H : Hm} {S : Sm} {a : Lan} {st : Ma} (h : LoadS num M fs fuel (settleS M Sm.none (clearS H)) a st) : LoadS num M fs fuel (settleS M S (clearS (clearS H))) a st := by
  have e : clearS (clearS H) = clearS H := rfl
  rw [e]
  obtain ⟨h1, h2, h3, h4, h5⟩ := settleS_new M Sm.none S (clearS H)
  unfold LoadS at h ⊢
  rw [h1, h2, h3, h4] at h
  rcases h with h | ⟨g1, g2, g3, g4⟩ | ⟨g1, g2, R, g3, g4, g5⟩
  · exact .inl h
  · have := h5 (by rw [h3]; exact g1)
    rw [this] at g4
    exact .inr (.inl ⟨g1, g2, g3, g4⟩)
  · have := h5 (by rw [h3]; exact g1)
    rw [this] at g3
    exact .inr (.inr ⟨g1, g2, R, g3, g4, g5⟩)
end Go.Proofs.Qxb6500275aGreatDoor
