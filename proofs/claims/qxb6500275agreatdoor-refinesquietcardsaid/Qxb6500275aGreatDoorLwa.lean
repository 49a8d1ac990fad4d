import Derived.Test.Qxb6500275aGreatDoorLw9
import Derived.Test.Qxb6500275aGreatDoorXmd
import Derived.Test.Qxb6500275aGreatDoorXp5
import Derived.Test.Qxb6500275aGreatDoorSt1
set_option linter.unusedVariables false
set_option linter.unusedSimpArgs false
set_option maxRecDepth 100000
namespace Go.Proofs.Qxb6500275aGreatDoor
open Go Go.RowKit
section
variable {M : Mod} {fn : Fn} {nl rs : Nat} {params : ByteArray}
theorem flat_go (hM : ModOk M) (hF : FnOk fn) (hpa : Vals params) (hnl : nl = params.size + fn.locals.size) : ∀ (l : List Ins) (pc i : Nat) {v : VS} {p : PS} {hs : List Nat}, JS M nl rs v p hs → (∀ x, x ∈ l → InsOk x) → pc + l.length = fn.body.length → (bodyVL M fn params l pc v).2.2 = 0 → ∃ q, flatL M fn l i p = .ok q
  | [], pc, i, v, p, hs, h, hl, hn, hv => by simp [bodyVL] at hv
  | x :: xs, pc, i, v, p, hs, h, hl, hn, hv => by
    rw [bodyVL] at hv
    rw [flatL]
    have hx := hl x (by simp)
    simp at hn
    have hd : decide (xs.length = 0) = decide (pc + 1 = fn.body.length) := decide_eq_decide.2 ⟨fun h => by omega, fun h => by omega⟩
    rcases hsv : stepV M fn params pc v x with ⟨v', o⟩
    rw [hsv] at hv
    have ho : o = none ∨ ∃ a, o = some (a, 0) := by
      cases o with
      | none => exact .inl rfl
      | some a =>
        obtain ⟨a, c⟩ := a
        dsimp only at hv
        exact .inr ⟨a, by rw [hv]⟩
    obtain ⟨p', hsp⟩ := stepP_some (last := decide (xs.length = 0)) hM hF hpa h hx hd ho hsv
    rw [hsp]
    dsimp only
    cases o with
    | none =>
      dsimp only at hv
      obtain ⟨ks, h1⟩ := h.step hM hF hpa hnl hx hsv hsp
      exact flat_go hM hF hpa hnl xs (pc + 1) (i + 1) h1 (fun y hy => hl y (by simp [hy])) (by omega) hv
    | some a =>
      obtain ⟨a, c⟩ := a
      dsimp only at hv
      subst hv
      obtain ⟨h1, h2, h3, h4, h5⟩ := stepV_yes hsv
      have hxs : xs = [] := List.length_eq_zero_iff.1 (by omega)
      subst hxs
      unfold stepP at hsp
      cases hk : skipP p x.op with
      | some q' =>
        exfalso
        have hd : 2 ≤ p.dead := by
          unfold skipP at hk
          rcases iteC hk with ⟨_, hk⟩ | ⟨_, hk⟩
          · simp at hk
          rw [if_neg (by omega), if_neg (by omega), if_pos h1] at hk
          rcases iteC hk with ⟨_, hk⟩ | ⟨_, hk⟩
          · simp at hk
          omega
        obtain ⟨n, ex, f, r, e1, e2, e3, _⟩ := (h.rel.dead (by omega)).is
        rw [settledV_ctl, e2] at h4
        simp at h4
        omega
      | none =>
        rw [hk] at hsp
        dsimp only at hsp
        have hsk := skip_none hk
        rw [if_neg (by omega), if_neg (by omega), if_pos h1] at hsp
        cases hsh : shutP p with
        | none => rw [hsh] at hsp; simp at hsp
        | some q' =>
          rw [hsh] at hsp
          dsimp only at hsp
          rcases iteC hsp with ⟨_, hsp⟩ | ⟨_, hsp⟩
          · simp at hsp
          simp at hsp
          subst hsp
          obtain ⟨ks, k1, k2, k3, k4⟩ := last_end h.j h.pi h.nn h.bot h.rel (by omega) h2 h3 h4 hsh
          rw [flatL, k4]
          exact ⟨_, rfl⟩
theorem flat_ok (hM : ModOk M) (hF : FnOk fn) {t : Ty} (hT : TyOk t) (ht : M.typeAt fn.ty = some t) (hv : (bodyV M fn).2.2 = 0) : ∃ q, flatP M fn t.q.size = .ok q := by
  unfold bodyV at hv
  rw [ht] at hv
  dsimp only at hv
  unfold flatP
  have hq1 := hT.nq
  have hfl := firstV_len hT
  have hres : resOk (firstV t.q) := by
    unfold firstV
    by_cases e : t.q.size = 0
    · rw [if_pos e]; exact .inl rfl
    · rw [if_neg e]; exact .inr (hT.q 0 (by omega))
  refine flat_go (v := ⟨[], [⟨2, firstV t.q, 0, false⟩]⟩) (hs := [0]) (rs := t.q.size) hM hF hT.p rfl fn.body 0 0 ⟨⟨rfl, fun i c hi _ hc => ?_, fun g hg => ?_, .inr ⟨rfl, rfl, rfl⟩⟩, PI.first _ hq1, VI.start hres, .inl ⟨rfl, rfl, ⟨⟨rfl, hfl.symm, ⟨fun e => by simp at e, fun e => by simp at e⟩, ⟨fun e => by simp at e, fun e => absurd rfl e⟩⟩, trivial⟩, fun f hf => ?_⟩, fun f hf => ?_, by simp⟩ hF.body (by omega) hv
  · have := (List.getElem?_eq_some_iff.1 hc).1
    simp at this
    omega
  · simp at hg
    subst hg
    exact ⟨⟨fun e => absurd rfl e, fun e => absurd rfl e, fun i hi => by simp at hi, fun e => by simp at e⟩, fun _ => rfl⟩
  · simp at hf
    subst hf
    rfl
  · simp at hf
    subst hf
    exact hfl
theorem valid_bodies (hv : (validV M).2.2 = 0) : ∀ f, f ∈ M.funcs → (bodyV M f).2.2 = 0 := by
  unfold validV at hv
  cases hp : partsV M with
  | some r =>
    obtain ⟨i, e⟩ := r
    rw [hp] at hv
    exact absurd hv (partsV_e hp)
  | none =>
    rw [hp] at hv
    exact bodies_all _ _ hv
/- a function's row of the compiled code -/
def FfOf (M : Mod) (j : Nat) (ff : FF) : Prop := ∃ f t q, M.funcs[j]? = some f ∧ M.typeOf ((M.imports.length + j : Nat) : Int) = some t ∧ M.typeAt f.ty = some t ∧ flatP M f t.q.size = .ok q ∧ ff = ⟨t.p.size, t.p.size + f.locals.size, t.q.size, q.cells.tail⟩
theorem comp_go (hM : ModOk M) (hv : (validV M).2.2 = 0) : ∀ (l : List Fn) (k : Nat) (acc : List FF), M.funcs.drop k = l → acc.length = k → (∀ (j : Nat) (ff : FF), acc[j]? = some ff → FfOf M j ff) → ∃ fs, compL M l k acc = .ok fs ∧ fs.length = k + l.length ∧ ∀ (j : Nat) (ff : FF), fs[j]? = some ff → FfOf M j ff
  | [], k, acc, hl, ha, hacc => ⟨acc, rfl, by simp [ha], hacc⟩
  | f :: l, k, acc, hl, ha, hacc => by
    have hk : M.funcs[k]? = some f := by
      have := congrArg (fun x => x[0]?) hl
      simpa using this
    have hkl := (List.getElem?_eq_some_iff.1 hk).1
    have hfm := List.mem_of_getElem? hk
    have hF := hM.funcs f hfm
    obtain ⟨t, ht⟩ := parts_types (valid_parts hv) (M.imports.length + k) (by omega)
    have hT := typeOf_ok hM ht
    have hta : M.typeAt f.ty = some t := by
      unfold Mod.typeOf at ht
      rw [tyIdx_own hk] at ht
      exact ht
    obtain ⟨q, hq⟩ := flat_ok hM hF hT hta (valid_bodies hv f hfm)
    have hnb := hF.nb
    have hnt := hF.nt
    obtain ⟨fs, h1, h2, h3⟩ := comp_go hM hv l (k + 1) (acc ++ [⟨t.p.size, t.p.size + f.locals.size, t.q.size, q.cells.tail⟩]) (by rw [← List.drop_drop, hl]; rfl) (by simp [ha]) (fun j ff hj => by
      rcases get_snoc3 hj with ⟨e1, e2⟩ | ⟨e1, e2⟩
      · exact hacc j ff e2
      · subst e2
        rw [ha] at e1
        subst e1
        exact ⟨f, t, q, hk, ht, hta, hq, rfl⟩)
    refine ⟨fs, ?_, by rw [h2]; simp; omega, h3⟩
    rw [compL, ht]
    dsimp only
    rw [if_neg (by omega), hq]
    exact h1
theorem comp_ok (hM : ModOk M) (hv : (validV M).2.2 = 0) : ∃ fs, compP M = .ok fs := by
  obtain ⟨fs, h1, _⟩ := comp_go hM hv M.funcs 0 [] rfl rfl (fun j ff h => by simp at h)
  exact ⟨fs, h1⟩
/- EVERY FUNCTION, validated and compiled -/
theorem allF_ok (hM : ModOk M) (hv : (validV M).2.2 = 0) {fs : List FF} (hc : compP M = .ok fs) (hy : ∀ f, f ∈ M.funcs → ∀ i, i ∈ f.body → i.op = 65 → i.y < 4294967296) (num : NumF0) : AllF ⟨M, fs, num⟩ := by
  intro k hk
  obtain ⟨fs', h1, h2, h3⟩ := comp_go hM hv M.funcs 0 [] rfl rfl (fun j ff h => by simp at h)
  have e : fs' = fs := by
    unfold compP at hc
    rw [hc] at h1
    simpa using h1.symm
  subst e
  dsimp only at hk
  obtain ⟨ff, hff⟩ : ∃ ff, fs'[k]? = some ff := ⟨_, List.getElem?_eq_getElem (by omega)⟩
  obtain ⟨f, t, q, a1, a2, a3, a4, a5⟩ := h3 k ff hff
  subst a5
  have hfm := List.mem_of_getElem? a1
  exact ⟨f, t, q.cells, a1, a2, tw_of hM (hM.funcs f hfm) (typeOf_ok hM a2) a3 (valid_bodies hv f hfm) a4, hff, hy f hfm⟩
end
end Go.Proofs.Qxb6500275aGreatDoor
