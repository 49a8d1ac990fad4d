import Derived.Test.Qxb6500275aGreatDoorSp3
import Derived.Test.Qxb6500275aGreatDoorSp10
set_option maxRecDepth 100000
set_option linter.unusedVariables false
namespace Go.Proofs.Qxb6500275aGreatDoor
open Go Go.RowKit
/- the validator's errors: at most 28 -/
def Ev (o : VO) : Prop := ∀ p e, o.2 = some (p, e) → e ≤ 28
def Ev3 (r : VR) : Prop := r.2.2 ≤ 28
def Ep (o : Option (Nat × Int)) : Prop := ∀ p e, o = some (p, e) → e ≤ 28
section
variable {m : Mod}
theorem Ev.none (v : VS) : Ev (v, Option.none) := fun p e h => by simp at h
theorem Ev.some (v : VS) (p : Nat) {e : Int} (he : e ≤ 28) : Ev (v, Option.some (p, e)) := fun p' e' h => by simp at h; obtain ⟨_, rfl⟩ := h; exact he
theorem Ev.ite {p : Prop} [Decidable p] {a b : VO} (h1 : Ev a) (h2 : Ev b) : Ev (if p then a else b) := by split; exact h1; exact h2
theorem Ev3.ite {p : Prop} [Decidable p] {a b : VR} (h1 : Ev3 a) (h2 : Ev3 b) : Ev3 (if p then a else b) := by split; exact h1; exact h2
theorem typedV_e (b : Bool) : typedV b ≤ 28 := by unfold typedV; split <;> decide
theorem Ev3.ty (v : VS) (t : Nat) (b : Bool) : Ev3 (v, t, typedV b) := typedV_e b
theorem Ev3.mk (v : VS) (t : Nat) {e : Int} (h : e ≤ 28) : Ev3 (v, t, e) := h
theorem callV_e (v : VS) (x : Ins) : Ev3 (callV m v x) := by
  unfold callV
  refine Ev3.ite ?_ (Ev3.ite (Ev3.mk _ _ (by decide)) ?_)
  · split
    · exact Ev3.mk _ _ (by decide)
    · exact Ev3.ty _ _ _
  · split
    · exact Ev3.mk _ _ (by decide)
    · exact Ev3.ite (Ev3.ty _ _ _) (Ev3.mk _ _ (by decide))
theorem selV_e (v : VS) : Ev3 (selV v) := by
  unfold selV
  exact Ev3.ite (Ev3.ite (Ev3.ty _ _ _) (Ev3.mk _ _ (by decide))) (Ev3.mk _ _ (by decide))
theorem memoryV_e (v : VS) (x : Ins) : Ev3 (memoryV m v x) := by
  unfold memoryV
  exact Ev3.ite (Ev3.mk _ _ (by decide)) (Ev3.ite (Ev3.mk _ _ (by decide)) (Ev3.ite (Ev3.ite (Ev3.mk _ _ (by decide)) (Ev3.ite (Ev3.ite (Ev3.ty _ _ _) (Ev3.mk _ _ (by decide))) (Ev3.ty _ _ _))) (Ev3.ty _ _ _)))
theorem plainV_e (params decl : ByteArray) (v : VS) (x : Ins) : Ev3 (plainV m params decl v x) := by
  unfold plainV
  refine Ev3.ite (callV_e _ _) (Ev3.ite (Ev3.ty _ _ _) (Ev3.ite (selV_e _) (Ev3.ite ?_ (Ev3.ite ?_ (Ev3.ite (memoryV_e _ _) (Ev3.ite (Ev3.mk _ _ (by decide)) (Ev3.ite (Ev3.mk _ _ (by decide)) (Ev3.ite (Ev3.ty _ _ _) (Ev3.ty _ _ _)))))))))
  · split
    · exact Ev3.mk _ _ (by decide)
    · exact Ev3.ite (Ev3.mk _ _ (by decide)) (Ev3.ty _ _ _)
  · split
    · exact Ev3.mk _ _ (by decide)
    · exact Ev3.ite (Ev3.mk _ _ (by decide)) (Ev3.ite (Ev3.ty _ _ _) (Ev3.mk _ _ (by decide)))
theorem giveV_28 (pc : Nat) {r : VR} (h : Ev3 r) : Ev (giveV pc r) := by
  unfold giveV
  exact Ev.ite (Ev.some _ _ h) (Ev.ite (Ev.none _) (Ev.ite (Ev.none _) (Ev.some _ _ (by decide))))
theorem tableV_e (v : VS) (pc : Nat) (tabs : List Int) (d : Bool) : ∀ (n i : Nat), Ev (tableV v pc tabs d n i)
  | 0, i => by unfold tableV; exact Ev.none _
  | n + 1, i => by
    unfold tableV
    exact Ev.ite (Ev.some _ _ (by decide)) (Ev.ite (Ev.some _ _ (by decide)) (Ev.ite (tableV_e v pc tabs d n _) (Ev.some _ _ (by decide))))
theorem stepV_e (f : Fn) (params : ByteArray) (pc : Nat) (v : VS) (x : Ins) : Ev (stepV m f params pc v x) := by
  unfold stepV
  repeat (first | exact Ev.none _ | exact Ev.some _ _ (by decide) | exact tableV_e _ _ _ _ _ _ | exact giveV_28 _ (plainV_e _ _ _ _) | exact giveV_28 _ (Ev3.mk _ _ (by decide)) | refine Ev.ite ?_ ?_)
theorem bodyVL_e (f : Fn) (params : ByteArray) : ∀ (l : List Ins) (pc : Nat) (v : VS), (bodyVL m f params l pc v).2.2 ≤ 28
  | [], pc, v => by unfold bodyVL; exact (by decide : (11 : Int) ≤ 28)
  | x :: xs, pc, v => by
    unfold bodyVL
    have h := stepV_e (m := m) f params pc v x
    split
    · exact bodyVL_e f params xs _ _
    · rename_i v' r hs
      rw [hs] at h
      exact h r.1 r.2 rfl
theorem bodyV_e (f : Fn) : (bodyV m f).2.2 ≤ 28 := by
  unfold bodyV
  split
  · decide
  · exact bodyVL_e _ _ _ _ _
theorem typesV_e28 : ∀ (n i : Nat), Ep (typesV m n i)
  | 0, i => by unfold typesV; intro p e h; simp at h
  | n + 1, i => by
    unfold typesV
    split
    · exact typesV_e28 n _
    · intro p e h; simp at h; omega
theorem globsV_e28 : ∀ (l : List Glob) (i : Nat), Ep (globsV l i)
  | [], i => by unfold globsV; intro p e h; simp at h
  | g :: gs, i => by
    unfold globsV
    split
    · exact globsV_e28 gs _
    · intro p e h; simp at h; omega
theorem expsV_e28 : ∀ (b l : List Exp) (i : Nat), Ep (expsV m b l i)
  | b, [], i => by unfold expsV; intro p e h; simp at h
  | b, x :: xs, i => by
    unfold expsV
    intro p e h
    rcases iteC h with ⟨_, h⟩ | ⟨_, h⟩
    · simp at h; omega
    · rcases iteC h with ⟨_, h⟩ | ⟨_, h⟩
      · simp at h; omega
      · exact expsV_e28 _ xs _ p e h
theorem elmsV_e28 : ∀ (l : List Elm) (i : Nat), Ep (elmsV m l i)
  | [], i => by unfold elmsV; intro p e h; simp at h
  | x :: xs, i => by
    unfold elmsV
    intro p e h
    split at h
    · simp at h; omega
    · split at h
      · simp at h; omega
      · split at h
        · simp at h; omega
        · exact elmsV_e28 xs _ p e h
theorem datsV_e28 : ∀ (l : List Dat) (i : Nat), Ep (datsV m l i)
  | [], i => by unfold datsV; intro p e h; simp at h
  | x :: xs, i => by
    unfold datsV
    intro p e h
    split at h
    · simp at h; omega
    · split at h
      · simp at h; omega
      · exact datsV_e28 xs _ p e h
theorem startV_e28 : Ep (startV m) := by
  unfold startV
  intro p e h
  split at h
  · simp at h
  · split at h
    · simp at h; omega
    · split at h
      · simp at h
      · simp at h; omega
theorem partsV_e28 : Ep (partsV m) := by
  intro p e h
  unfold partsV at h
  split at h
  · rename_i r hr; simp at h; subst h; exact typesV_e28 _ _ _ _ hr
  split at h
  · simp at h; omega
  split at h
  · simp at h; omega
  split at h
  · rename_i r hr; simp at h; subst h; exact globsV_e28 _ _ _ _ hr
  split at h
  · rename_i r hr; simp at h; subst h; exact expsV_e28 _ _ _ _ _ hr
  split at h
  · rename_i r hr; simp at h; subst h; exact startV_e28 _ _ hr
  split at h
  · rename_i r hr; simp at h; subst h; exact elmsV_e28 _ _ _ _ hr
  · exact datsV_e28 _ _ _ _ h
theorem bodiesV_e28 : ∀ (l : List Fn) (k : Nat), (bodiesV m l k).2.2 ≤ 28
  | [], k => by unfold bodiesV; exact (by decide : (0 : Int) ≤ 28)
  | f :: fs, k => by
    unfold bodiesV
    split
    · exact bodiesV_e28 fs _
    · exact bodyV_e f
theorem validV_e28 : (validV m).2.2 ≤ 28 := by
  unfold validV
  split
  · rename_i i e h
    exact partsV_e28 i e h
  · exact bodiesV_e28 _ _
/- every function has a type -/
theorem typesV_a2 : ∀ (n i : Nat), typesV m n i = none → ∀ j, i ≤ j → j < i + n → ∃ t, m.typeOf (j : Nat) = some t
  | 0, i, h, j, h1, h2 => by omega
  | n + 1, i, h, j, h1, h2 => by
    unfold typesV at h
    split at h
    · rename_i hs
      by_cases e : j = i
      · subst e
        exact Option.isSome_iff_exists.1 hs
      · exact typesV_a2 n (i + 1) h j (by omega) (by omega)
    · simp at h
theorem parts_types (h : partsV m = none) : ∀ j : Nat, j < m.imports.length + m.funcs.length → ∃ t, m.typeOf (j : Int) = some t := by
  intro j hj
  unfold partsV at h
  split at h
  · simp at h
  · rename_i ht
    exact typesV_a2 _ 0 ht j (by omega) (by omega)
end
end Go.Proofs.Qxb6500275aGreatDoor
