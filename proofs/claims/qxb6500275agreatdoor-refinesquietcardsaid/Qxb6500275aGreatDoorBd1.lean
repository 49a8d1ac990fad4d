import Derived.Test.Qxb6500275aGreatDoorBs1
import Derived.Test.Qxb6500275aGreatDoorBs2
import Derived.Test.Qxb6500275aGreatDoorBs3
import Derived.Test.Qxb6500275aGreatDoorBs4
import Derived.Test.Qxb6500275aGreatDoorBs5
import Derived.Test.Qxb6500275aGreatDoorBs7
import Derived.Test.Qxb6500275aGreatDoorDec1
set_option maxRecDepth 100000
set_option linter.unusedVariables false
set_option linter.unusedSimpArgs false
namespace Go.Proofs.Qxb6500275aGreatDoor
open Go Go.RowKit
/- what is not read as yet -/
structure FreshM (last : Nat) (M : Mod) (ty : List Int) : Prop where
  t : last < 1 → M.types = []
  i : last < 2 → M.imports = []
  n : last < 3 → ty = []
  g : last < 6 → M.globals = []
  x : last < 7 → M.exports = []
  e : last < 9 → M.elems = []
  f : last < 10 → M.funcs = []
  d : last < 11 → M.datas = []
theorem FreshM.start : FreshM 0 Mod.empty [] := ⟨fun _ => rfl, fun _ => rfl, fun _ => rfl, fun _ => rfl, fun _ => rfl, fun _ => rfl, fun _ => rfl, fun _ => rfl⟩
section
variable {s : ByteArray} {p e q id last : Nat} {M M' : Mod} {ty ty' : List Int}
theorem FreshM.next (h : FreshM last M ty) (hl : last < id) (h1 : 1 ≤ id) (h11 : id ≤ 11) (hs : secS id s p e M ty = .ok (M', ty', q)) : FreshM id M' ty' := by
  have : id = 1 ∨ id = 2 ∨ id = 3 ∨ id = 4 ∨ id = 5 ∨ id = 6 ∨ id = 7 ∨ id = 8 ∨ id = 9 ∨ id = 10 ∨ id = 11 := by omega
  have ht := h.t
  have hi := h.i
  have hn := h.n
  have hg := h.g
  have hx := h.x
  have he := h.e
  have hf := h.f
  have hd := h.d
  rcases this with rfl | rfl | rfl | rfl | rfl | rfl | rfl | rfl | rfl | rfl | rfl
  · simp only [secS, sec1, if_true] at hs
    obtain ⟨x, _, h2⟩ := bindR_get hs
    simp at h2
    obtain ⟨rfl, rfl, _⟩ := h2
    exact ⟨by omega, fun _ => hi (by omega), fun _ => hn (by omega), fun _ => hg (by omega), fun _ => hx (by omega), fun _ => he (by omega), fun _ => hf (by omega), fun _ => hd (by omega)⟩
  · simp [secS, sec2] at hs
    obtain ⟨x, _, h2⟩ := bindR_get hs
    simp at h2
    obtain ⟨rfl, rfl, _⟩ := h2
    exact ⟨by omega, by omega, fun _ => hn (by omega), fun _ => hg (by omega), fun _ => hx (by omega), fun _ => he (by omega), fun _ => hf (by omega), fun _ => hd (by omega)⟩
  · simp [secS, sec3] at hs
    obtain ⟨x, _, h2⟩ := bindR_get hs
    simp at h2
    obtain ⟨rfl, rfl, _⟩ := h2
    exact ⟨by omega, by omega, by omega, fun _ => hg (by omega), fun _ => hx (by omega), fun _ => he (by omega), fun _ => hf (by omega), fun _ => hd (by omega)⟩
  · simp [secS, sec4] at hs
    obtain ⟨x, _, h2⟩ := bindR_get hs
    split at h2
    · obtain ⟨y, _, h3⟩ := bindR_get h2
      obtain ⟨z, _, h4⟩ := bindR_get h3
      simp at h4
      obtain ⟨rfl, rfl, _⟩ := h4
      exact ⟨by omega, by omega, by omega, fun _ => hg (by omega), fun _ => hx (by omega), fun _ => he (by omega), fun _ => hf (by omega), fun _ => hd (by omega)⟩
    · simp at h2
      obtain ⟨rfl, rfl, _⟩ := h2
      exact ⟨by omega, by omega, by omega, fun _ => hg (by omega), fun _ => hx (by omega), fun _ => he (by omega), fun _ => hf (by omega), fun _ => hd (by omega)⟩
  · simp [secS, sec5] at hs
    obtain ⟨x, _, h2⟩ := bindR_get hs
    split at h2
    · obtain ⟨z, _, h4⟩ := bindR_get h2
      simp at h4
      obtain ⟨rfl, rfl, _⟩ := h4
      exact ⟨by omega, by omega, by omega, fun _ => hg (by omega), fun _ => hx (by omega), fun _ => he (by omega), fun _ => hf (by omega), fun _ => hd (by omega)⟩
    · simp at h2
      obtain ⟨rfl, rfl, _⟩ := h2
      exact ⟨by omega, by omega, by omega, fun _ => hg (by omega), fun _ => hx (by omega), fun _ => he (by omega), fun _ => hf (by omega), fun _ => hd (by omega)⟩
  · simp [secS, sec6] at hs
    obtain ⟨x, _, h2⟩ := bindR_get hs
    simp at h2
    obtain ⟨rfl, rfl, _⟩ := h2
    exact ⟨by omega, by omega, by omega, by omega, fun _ => hx (by omega), fun _ => he (by omega), fun _ => hf (by omega), fun _ => hd (by omega)⟩
  · simp [secS, sec7] at hs
    obtain ⟨x, _, h2⟩ := bindR_get hs
    simp at h2
    obtain ⟨rfl, rfl, _⟩ := h2
    exact ⟨by omega, by omega, by omega, by omega, by omega, fun _ => he (by omega), fun _ => hf (by omega), fun _ => hd (by omega)⟩
  · simp [secS, sec8] at hs
    obtain ⟨x, _, h2⟩ := bindR_get hs
    simp at h2
    obtain ⟨rfl, rfl, _⟩ := h2
    exact ⟨by omega, by omega, by omega, by omega, by omega, fun _ => he (by omega), fun _ => hf (by omega), fun _ => hd (by omega)⟩
  · simp [secS, sec9] at hs
    obtain ⟨x, _, h2⟩ := bindR_get hs
    simp at h2
    obtain ⟨rfl, rfl, _⟩ := h2
    exact ⟨by omega, by omega, by omega, by omega, by omega, by omega, fun _ => hf (by omega), fun _ => hd (by omega)⟩
  · simp [secS, sec10] at hs
    obtain ⟨x, _, h2⟩ := bindR_get hs
    split at h2
    · obtain ⟨z, _, h4⟩ := bindR_get h2
      simp at h4
      obtain ⟨rfl, rfl, _⟩ := h4
      exact ⟨by omega, by omega, by omega, by omega, by omega, by omega, by omega, fun _ => hd (by omega)⟩
    · simp at h2
  · simp [secS, sec11] at hs
    obtain ⟨x, _, h2⟩ := bindR_get hs
    simp at h2
    obtain ⟨rfl, rfl, _⟩ := h2
    exact ⟨by omega, by omega, by omega, by omega, by omega, by omega, by omega, by omega⟩
theorem secS_ty (h1 : 1 ≤ id) (h11 : id ≤ 11) (h3 : id ≠ 3) (hs : secS id s p e M ty = .ok (M', ty', q)) : ty' = ty := by
  have : id = 1 ∨ id = 2 ∨ id = 4 ∨ id = 5 ∨ id = 6 ∨ id = 7 ∨ id = 8 ∨ id = 9 ∨ id = 10 ∨ id = 11 := by omega
  rcases this with rfl | rfl | rfl | rfl | rfl | rfl | rfl | rfl | rfl | rfl
  · simp [secS, sec1] at hs
    obtain ⟨x, _, h2⟩ := bindR_get hs
    simp at h2
    exact h2.2.1.symm
  · simp [secS, sec2] at hs
    obtain ⟨x, _, h2⟩ := bindR_get hs
    simp at h2
    exact h2.2.1.symm
  · simp [secS, sec4] at hs
    obtain ⟨x, _, h2⟩ := bindR_get hs
    split at h2
    · obtain ⟨y, _, h3⟩ := bindR_get h2
      obtain ⟨z, _, h4⟩ := bindR_get h3
      simp at h4
      exact h4.2.1.symm
    · simp at h2
      exact h2.2.1.symm
  · simp [secS, sec5] at hs
    obtain ⟨x, _, h2⟩ := bindR_get hs
    split at h2
    · obtain ⟨z, _, h4⟩ := bindR_get h2
      simp at h4
      exact h4.2.1.symm
    · simp at h2
      exact h2.2.1.symm
  · simp [secS, sec6] at hs
    obtain ⟨x, _, h2⟩ := bindR_get hs
    simp at h2
    exact h2.2.1.symm
  · simp [secS, sec7] at hs
    obtain ⟨x, _, h2⟩ := bindR_get hs
    simp at h2
    exact h2.2.1.symm
  · simp [secS, sec8] at hs
    obtain ⟨x, _, h2⟩ := bindR_get hs
    simp at h2
    exact h2.2.1.symm
  · simp [secS, sec9] at hs
    obtain ⟨x, _, h2⟩ := bindR_get hs
    simp at h2
    exact h2.2.1.symm
  · simp [secS, sec10] at hs
    obtain ⟨x, _, h2⟩ := bindR_get hs
    split at h2
    · obtain ⟨z, _, h4⟩ := bindR_get h2
      simp at h4
      exact h4.2.1.symm
    · simp at h2
  · simp [secS, sec11] at hs
    obtain ⟨x, _, h2⟩ := bindR_get hs
    simp at h2
    exact h2.2.1.symm
end
section
variable {w : World} {b : Nat} {s : ByteArray} {p e : Nat} {er : Int} {a : Nat} {mb : Nat} {m : MT} {ty : List Int} {last : Nat}
/- a section of plain rows -/
theorem sect_m (h : Rc w b s p e er a) (hM : Mw w mb m) (hne : ¬ MwB mb m b) (hF : FreshM last m.mod ty) {id : Nat} (hl : last < id) (h1 : 1 ≤ id) (h11 : id ≤ 11) (h3 : id ≠ 3) (h10 : id ≠ 10) : Calls Tryz.prog 187 #[.pointer (some ⟨b, 0, none⟩), .int .i64 (id : Int), .pointer (some ⟨mb, 0, none⟩)] w (Scq (scQ (secS id s p e m.mod ty)) b s e er a mb m w) := by
  have : id = 1 ∨ id = 2 ∨ id = 4 ∨ id = 5 ∨ id = 6 ∨ id = 7 ∨ id = 8 ∨ id = 9 ∨ id = 11 := by omega
  rcases this with rfl | rfl | rfl | rfl | rfl | rfl | rfl | rfl | rfl
  · exact sec1_m h hM hne (hF.t (by omega)) ty
  · exact sec2_m h hM hne (hF.i (by omega)) ty
  · exact sec4_m h hM hne ty
  · exact sec5_m h hM hne ty
  · exact sec6_m h hM hne (hF.g (by omega)) ty
  · exact sec7_m h hM hne (hF.x (by omega)) ty
  · exact sec8_m h hM hne ty
  · exact sec9_m h hM hne (by have := hF.e (by omega); unfold MT.mod at this; simpa using this) ty
  · exact sec11_m h hM hne (hF.d (by omega)) ty
theorem scQ_ok {o : RM} {M : Mod} {q : Nat} (h : scQ o = .ok (M, q)) : ∃ ty', o = .ok (M, ty', q) := by
  unfold scQ bindQ at h
  cases o with
  | error f => simp at h
  | ok x =>
    obtain ⟨M', ty', q'⟩ := x
    simp at h
    obtain ⟨rfl, rfl⟩ := h
    exact ⟨ty', rfl⟩
theorem scQ_err {o : RM} {c : Int} {x : Nat} (h : scQ o = .error (c, x)) : o = .error (c, x) := by
  unfold scQ bindQ at h
  cases o with
  | error f => simp at h; rw [h]
  | ok x => simp at h
end
end Go.Proofs.Qxb6500275aGreatDoor
