import Derived.Test.Qxb6500275aGreatDoorXmd
import Derived.Test.Qxb6500275aGreatDoorRn1
set_option linter.unusedVariables false
set_option linter.unusedSimpArgs false
set_option maxRecDepth 100000
namespace Go.Proofs.Qxb6500275aGreatDoor
open Go Go.RowKit
/- the root, with the arguments -/
def rootM (vs : List MV) : MF := ⟨-1, 0, [], vs, []⟩
section
variable {C : XC} {fuel f : Nat} {vs : List MV} {S : Sm} {H : Hm} {t : Ty} {R : Nat × Xe}
/- A WHOLE RUN OF THE MODEL -/
theorem run_both (hK : CodeOk C) (hA : AllF C) (hN : NumX C.num) (hL : LdOk) (hTy : ∀ j : Nat, j < C.M.imports.length + C.M.funcs.length → ∃ t, C.M.typeOf (j : Int) = some t) (hty : C.M.typeOf (f : Int) = some t) (hvt : vs.map MV.t = tysB t.p) (hvok : ∀ v, v ∈ vs → VOk v) (hE : Env C (bitsM vs) S H) (hgl : GlOk C.M S)
    (h : RunR C fuel f (bitsM vs) S H R) : ∃ p0 n m, callM C.M ⟨[rootM vs], fuel, S, H⟩ f = some p0 ∧ iterM C.num C.M n p0 = some m ∧ RdX C t R m := by
  have hM := hK.mod
  have hT := typeOf_ok hM hty
  have hvl : vs.length = t.p.size := by
    have := congrArg List.length hvt
    rw [tysB_len] at this
    simpa using this
  have hpops : popsM (rootM vs) (argsV t.p) = some (vs, rootM []) := by
    rw [argsV_rev, ← hvt]
    exact popsM_app _ vs (r := rootM vs) (l0 := []) rfl rfl (Nat.zero_le _)
  obtain ⟨z1, z2, z3⟩ := resT_z hT
  have hdrop : (bitsM vs).drop ((bitsM vs).length - t.p.size) = bitsM vs := by rw [bitsM_len, hvl, Nat.sub_self]; rfl
  have htake : (bitsM vs).take ((bitsM vs).length - t.p.size) = [] := by rw [bitsM_len, hvl, Nat.sub_self]; rfl
  by_cases hni : f < C.M.imports.length
  · unfold RunR enterX at h
    rw [if_pos hni, hty] at h
    dsimp only at h
    rw [hdrop, htake] at h
    have hm := hE.sm.m
    have hcv := callH_val (H := H) hE.hm (k := f) (want := resT t) (pages := S.bs.length / 64) (args := bitsM vs) (by omega)
    have hcm : callM C.M ⟨[rootM vs], fuel, S, H⟩ f = (if (callH H f (bitsM vs) (resT t) (S.bs.length / 64)).2.1 ≠ 0 then some ((callH H f (bitsM vs) (resT t) (S.bs.length / 64)).2.1, ⟨[rootM []], fuel, S, (callH H f (bitsM vs) (resT t) (S.bs.length / 64)).2.2⟩)
          else if resT t = 0 then some (0, ⟨[rootM []], fuel, S, (callH H f (bitsM vs) (resT t) (S.bs.length / 64)).2.2⟩)
          else layM ⟨[rootM []], fuel, S, (callH H f (bitsM vs) (resT t) (S.bs.length / 64)).2.2⟩ (pushM (rootM []) ⟨resT t, (callH H f (bitsM vs) (resT t) (S.bs.length / 64)).1⟩)) := by
      unfold callM
      rw [hty]
      dsimp only
      rw [hpops]
      dsimp only
      rw [if_pos hni]
      rfl
    rw [hcm]
    generalize callH H f (bitsM vs) (resT t) (S.bs.length / 64) = W at h hcv
    by_cases he : W.2.1 ≠ 0
    · rw [if_pos he] at h ⊢
      dsimp only at h
      subst h
      exact ⟨_, 0, _, rfl, by rw [iterM, if_pos (.inl he)], rfl, rfl, rfl, rfl, hgl, fun e => absurd e he⟩
    · rw [if_neg he] at h ⊢
      dsimp only at h
      subst h
      by_cases hr0 : resT t = 0
      · rw [if_pos hr0]
        refine ⟨_, 0, _, rfl, by rw [iterM, if_pos (.inr (by simp))], rfl, rfl, rfl, rfl, hgl, fun _ => ⟨rootM [], rfl, ?_, ?_, fun v hv => by simp [rootM] at hv⟩⟩
        · rw [z3 hr0]; rfl
        · dsimp only
          rw [if_pos hr0]; rfl
      · rw [if_neg hr0, pushM_ok (by simp [rootM])]
        obtain ⟨y1, y2⟩ := z2 hr0
        refine ⟨_, 0, _, rfl, by rw [iterM, if_pos (.inr (by simp [MQ.top]))], rfl, rfl, rfl, rfl, hgl, fun _ => ⟨{ rootM [] with ops := [⟨resT t, W.1⟩] }, rfl, ?_, ?_, fun v hv => ?_⟩⟩
        · rw [y2]; rfl
        · dsimp only
          rw [if_neg hr0]; rfl
        · simp at hv
          subst hv
          exact ⟨y1, hcv.1, hcv.2⟩
  · obtain ⟨fn', h1, h2⟩ := own_both (t0 := t) (f := f) (n := fuel) (q1 := ⟨[rootM vs], fuel, S, H⟩) (cur := []) (S := S) (H := H) (A := []) (rest' := [rootM []]) hA hM hty hni hvt hvok ⟨rfl, rfl, rfl, rfl⟩ rfl rfl rfl hgl
    rw [if_neg (by simp), if_neg (by simp), List.nil_append] at h2
    have hcm : callM C.M ⟨[rootM vs], fuel, S, H⟩ f = some (0, ⟨⟨((f - C.M.imports.length : Nat) : Int), 0, vs ++ (tysB fn'.locals).map (fun t => ⟨t, 0⟩), [], []⟩ :: [rootM []], fuel, S, H⟩) := by
      unfold callM
      rw [hty]
      dsimp only
      rw [hpops]
      dsimp only
      rw [if_neg hni, if_neg (by simp), h1]
    obtain ⟨hr1, hr2⟩ := typeOf_range hty
    obtain ⟨fn2, t2, cells2, hz⟩ := hA (f - C.M.imports.length) (by omega)
    rw [hz.ff] at h2
    dsimp only at h2
    have hex : enterX C (bitsM vs) [] f S H = .ok ⟨bitsM vs ++ List.replicate (t2.p.size + fn2.locals.size - t2.p.size) 0, [], f - C.M.imports.length, 0, (bitsM vs).length - t2.p.size, S, H⟩ := by
      unfold enterX
      rw [if_neg hni, if_neg (by simp), hz.ff]
    unfold RunR at h
    rw [hex] at h
    obtain ⟨n, h⟩ := h
    obtain ⟨n', m, h3, h4⟩ := sim_run hK hA hN hL hTy R _ n _ (fuel, _) (Nat.le_refl _) h2.2 (enter_gd hK hty hE (by rw [bitsM_len]; exact hvl) hex) h
    exact ⟨_, n', m, hcm, h3, h4⟩
end
end Go.Proofs.Qxb6500275aGreatDoor
