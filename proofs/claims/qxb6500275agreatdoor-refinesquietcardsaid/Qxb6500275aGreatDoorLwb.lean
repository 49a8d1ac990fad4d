import Derived.Test.Qxb6500275aGreatDoorLwa
import Derived.Test.Qxb6500275aGreatDoorDm2
set_option linter.unusedVariables false
set_option linter.unusedSimpArgs false
set_option maxRecDepth 100000
namespace Go.Proofs.Qxb6500275aGreatDoor
open Go Go.RowKit
/- THE GLOBALS' WIDTHS behind the settling -/
theorem globL_gl : ∀ (l : List Glob) (S : Sm) (i : Nat), (globL S l i).gl.length = S.gl.length ∧ (∀ j, j < i → (globL S l i).gl[j]? = S.gl[j]?) ∧ ∀ (j : Nat) (g : Glob), l[j]? = some g → i + j < S.gl.length → (globL S l i).gl[i + j]? = some g.init.y
  | [], S, i => ⟨rfl, fun j _ => rfl, fun j g h => by simp at h⟩
  | g0 :: gs, S, i => by
    rw [globL]
    obtain ⟨h1, h2, h3⟩ := globL_gl gs { S with gl := S.gl.set i g0.init.y } (i + 1)
    refine ⟨by rw [h1]; simp, fun j hj => ?_, fun j g hj hl => ?_⟩
    · rw [h2 j (by omega)]
      dsimp only
      rw [List.getElem?_set_ne (by omega)]
    · cases j with
      | zero =>
        simp at hj
        subst hj
        show (globL { S with gl := S.gl.set i g0.init.y } gs (i + 1)).gl[i]? = _
        rw [h2 i (by omega)]
        dsimp only
        rw [List.getElem?_set_self (by simpa using hl)]
      | succ j =>
        have := h3 j g (by simpa using hj) (by simp; omega)
        rw [show i + (j + 1) = i + 1 + j by omega]
        exact this
theorem fnsW_gl : ∀ (l : List Int) (S : Sm) (a j : Nat), (fnsW S a l j).gl = S.gl
  | [], S, a, j => rfl
  | f :: fs, S, a, j => by
    rw [fnsW, fnsW_gl fs]
    unfold setElemS
    split
    · rfl
    · split <;> rfl
theorem elemL_gl : ∀ (l : List Elm) (S : Sm), (elemL S l).gl = S.gl
  | [], S => rfl
  | e :: es, S => by rw [elemL, elemL_gl es, fnsW_gl]
theorem dataL_gl : ∀ (l : List Dat) (S : Sm), (dataL S l).gl = S.gl
  | [], S => rfl
  | d :: ds, S => by
    rw [dataL, dataL_gl ds]
    unfold writeS
    split
    · rfl
    · split <;> rfl
theorem globsV_all : ∀ (l : List Glob) (i : Nat), globsV l i = none → ∀ g, g ∈ l → constOfV g.init.op = g.ty
  | [], i, h, g, hg => by simp at hg
  | a :: r, i, h, g, hg => by
    rw [globsV] at h
    rcases iteC h with ⟨h1, h⟩ | ⟨_, h⟩
    · rcases List.mem_cons.1 hg with rfl | hg
      · exact h1
      · exact globsV_all r (i + 1) h g hg
    · simp at h
theorem parts_globs {M : Mod} (h : partsV M = none) : ∀ g, g ∈ M.globals → constOfV g.init.op = g.ty := by
  unfold partsV at h
  split at h
  · simp at h
  rcases iteC h with ⟨_, h⟩ | ⟨_, h⟩
  · simp at h
  rcases iteC h with ⟨_, h⟩ | ⟨_, h⟩
  · simp at h
  split at h
  · simp at h
  rename_i hg
  exact globsV_all _ _ hg
theorem glob32 {M : Mod} (hM : ModOk M) (h : partsV M = none) {g : Glob} (hg : g ∈ M.globals) (ht : g.ty = 127) : g.init.y < 4294967296 := by
  have h1 := parts_globs h g hg
  have h2 := (hM.globals g hg).init
  have h3 := h2.op
  refine h2.i32 ?_
  rw [ht] at h1
  unfold constOfV at h1
  rcases iteC h1 with ⟨_, h1⟩ | ⟨_, h1⟩ <;> omega
theorem settle_gl {M : Mod} (hM : ModOk M) (h : partsV M = none) {S : Sm} {H : Hm} (he : (settleS M S H).e = 0) : GlOk M (settleS M S H).S := by
  unfold settleS at he ⊢
  split
  · rename_i i H' e
    rw [e] at he
    simp at he
  rename_i H' e
  rw [e] at he
  dsimp only at he
  unfold settle1 at he ⊢
  split
  · rename_i e1
    rw [e1] at he
    simp at he
  rename_i S1 e1
  rw [e1] at he
  dsimp only at he
  have hl1 : S1.gl = List.replicate M.globals.length 0 := by
    unfold resetS at e1
    rcases iteC e1 with ⟨_, e1⟩ | ⟨_, e1⟩
    · simp at e1
    rcases iteC e1 with ⟨_, e1⟩ | ⟨_, e1⟩
    · simp at e1
    rcases iteC e1 with ⟨_, e1⟩ | ⟨_, e1⟩
    · simp at e1
    rcases iteC e1 with ⟨_, e1⟩ | ⟨_, e1⟩
    · simp at e1
    simp at e1
    rw [← e1]
  obtain ⟨g1, _, g3⟩ := globL_gl M.globals S1 0
  unfold settle2 at he ⊢
  cases e2 : elemT (globL S1 M.globals 0).tab.length M.elems 0 with
  | some i => rw [e2] at he; simp at he
  | none =>
  rw [e2] at he
  dsimp only at he ⊢
  cases e3 : dataT (globL S1 M.globals 0).bs.length M.datas 0 with
  | some i => rw [e3] at he; simp at he
  | none =>
  dsimp only
  refine ⟨by rw [dataL_gl, elemL_gl, g1, hl1]; simp, fun i g x hg hx ht => ?_⟩
  rw [dataL_gl, elemL_gl] at hx
  have hi := (List.getElem?_eq_some_iff.1 hg).1
  have h4 := g3 i g hg (by rw [hl1]; simp; omega)
  rw [Nat.zero_add, hx] at h4
  simp at h4
  rw [h4]
  exact glob32 hM h (List.mem_of_getElem? hg) ht
end Go.Proofs.Qxb6500275aGreatDoor
