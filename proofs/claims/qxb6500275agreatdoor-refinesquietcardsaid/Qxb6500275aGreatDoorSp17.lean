import Derived.Test.Qxb6500275aGreatDoorSp16
set_option linter.unusedVariables false
set_option linter.unusedSimpArgs false
set_option maxRecDepth 100000
namespace Go.Proofs.Qxb6500275aGreatDoor
open Go Go.RowKit
/- what a round does to the validator's blocks -/
theorem popV_ct (v : VS) (t : Nat) : (popV v t).1.ctl = v.ctl := by
  unfold popV
  split <;> rfl
theorem carryV_ctl (v : VS) (t : Nat) : (carryV v t).1.ctl = v.ctl := by
  unfold carryV
  split
  · rfl
  · exact popV_ct v t
theorem settledV_ctl (v : VS) : (settledV v).1.ctl = v.ctl := by
  unfold settledV
  split <;> exact carryV_ctl v _
theorem giveV_ctl (pc : Nat) (r : VR) : (giveV pc r).1.ctl = r.1.ctl := by
  unfold giveV pushV
  repeat' split
  all_goals rfl
theorem tableV_none {v : VS} {pc : Nat} {tabs : List Int} {b : Bool} : ∀ (n i : Nat) {v' : VS}, tableV v pc tabs b n i = (v', none) → v' = cutV v
  | 0, i, v', h => by
    rw [tableV] at h
    simp at h
    exact h.symm
  | n + 1, i, v', h => by
    rw [tableV] at h
    rcases iteC h with ⟨_, h⟩ | ⟨_, h⟩
    · simp at h
    rcases iteC h with ⟨_, h⟩ | ⟨_, h⟩
    · simp at h
    rcases iteC h with ⟨_, h⟩ | ⟨_, h⟩
    · exact tableV_none n (i + 1) h
    · simp at h
structure CtlE (op : Nat) (c c' : List VF) : Prop where
  opn : op = 2 ∨ op = 3 ∨ op = 4 → ∃ g, c' = g :: c
  tu : op = 5 → ∃ g a b r, c = a :: b :: r ∧ c' = g :: b :: r
  en : op = 11 → c' = c.tail
  no : ¬ (op = 2 ∨ op = 3 ∨ op = 4 ∨ op = 5 ∨ op = 11) → c' = c ∨ ∃ f r, c = f :: r ∧ c' = { f with dead := true } :: r
theorem cutV_ctl {v : VS} (h : v.ctl ≠ []) : ∃ f r, v.ctl = f :: r ∧ (cutV v).ctl = { f with dead := true } :: r := by
  obtain ⟨o, c⟩ := v
  cases c with
  | nil => exact absurd rfl h
  | cons f r => exact ⟨f, r, rfl, rfl⟩
theorem CtlE.cut {op : Nat} {v w v' : VS} (h : v.ctl ≠ []) (hw : w.ctl = v.ctl) (hv : v' = cutV w) (ho : ¬ (op = 2 ∨ op = 3 ∨ op = 4 ∨ op = 5 ∨ op = 11)) : CtlE op v.ctl v'.ctl := by
  obtain ⟨f, r, h1, h2⟩ := cutV_ctl (v := w) (by rw [hw]; exact h)
  rw [hw] at h1
  subst hv
  exact ⟨fun h => absurd h (by omega), fun h => absurd h (by omega), fun h => absurd h (by omega), fun _ => .inr ⟨f, r, h1, h2⟩⟩
theorem CtlE.same {op : Nat} {c c' : List VF} (h : c' = c) (ho : ¬ (op = 2 ∨ op = 3 ∨ op = 4 ∨ op = 5 ∨ op = 11)) : CtlE op c c' :=
  ⟨fun h => absurd h (by omega), fun h => absurd h (by omega), fun h => absurd h (by omega), fun _ => .inl h⟩
theorem stepV_ctl {M : Mod} (hM : ModOk M) {fn : Fn} (hF : FnOk fn) {params : ByteArray} (hp : Vals params) {v v' : VS} (h : VI v) (hc : v.ctl ≠ []) {pc : Nat} {x : Ins} (hx : InsOk x) (hs : stepV M fn params pc v x = (v', none)) : CtlE x.op v.ctl v'.ctl := by
  unfold stepV at hs
  rcases iteC hs with ⟨e, hs⟩ | ⟨_, hs⟩
  · simp at hs
    subst hs
    exact CtlE.same rfl (by omega)
  rcases iteC hs with ⟨e, hs⟩ | ⟨_, hs⟩
  · simp at hs
    exact CtlE.cut hc rfl hs.symm (by omega)
  rcases iteC hs with ⟨e, hs⟩ | ⟨_, hs⟩
  · rcases iteC hs with ⟨_, hs⟩ | ⟨_, hs⟩
    · simp at hs
    · simp at hs
      subst hs
      exact ⟨fun _ => ⟨_, rfl⟩, fun h => absurd h (by omega), fun h => absurd h (by omega), fun h => absurd h (by omega)⟩
  rcases iteC hs with ⟨e, hs⟩ | ⟨_, hs⟩
  · rcases iteC hs with ⟨_, hs⟩ | ⟨_, hs⟩
    · rcases iteC hs with ⟨_, hs⟩ | ⟨_, hs⟩
      · simp at hs
      · simp at hs
        subst hs
        exact ⟨fun _ => ⟨_, by dsimp only; rw [carryV_ctl]⟩, fun h => absurd h (by omega), fun h => absurd h (by omega), fun h => absurd h (by omega)⟩
    · simp at hs
  rcases iteC hs with ⟨e, hs⟩ | ⟨_, hs⟩
  · rcases iteC hs with ⟨_, hs⟩ | ⟨_, hs⟩
    · rcases iteC hs with ⟨_, hs⟩ | ⟨h1, hs⟩
      · simp at hs
      · rcases iteC hs with ⟨_, hs⟩ | ⟨_, hs⟩
        · simp at hs
          subst hs
          refine ⟨fun h => absurd h (by omega), fun _ => ?_, fun h => absurd h (by omega), fun h => absurd h (by omega)⟩
          dsimp only
          rw [settledV_ctl] at h1 ⊢
          cases hk : v.ctl with
          | nil => exact absurd hk hc
          | cons a r =>
            cases r with
            | nil => rw [hk] at h1; simp at h1
            | cons b r => exact ⟨_, a, b, r, rfl, rfl⟩
        · simp at hs
    · simp at hs
  rcases iteC hs with ⟨e, hs⟩ | ⟨_, hs⟩
  · rcases iteC hs with ⟨_, hs⟩ | ⟨_, hs⟩
    · rcases iteC hs with ⟨_, hs⟩ | ⟨_, hs⟩
      · simp at hs
      · rcases iteC hs with ⟨_, hs⟩ | ⟨_, hs⟩
        · rcases iteC hs with ⟨_, hs⟩ | ⟨_, hs⟩
          · simp at hs
          · simp at hs
        · have := giveV_ctl pc (⟨(settledV v).1.ops, (settledV v).1.ctl.tail⟩, (settledV v).1.top.res, 0)
          rw [hs] at this
          dsimp only at this
          rw [settledV_ctl] at this
          exact ⟨fun h => absurd h (by omega), fun h => absurd h (by omega), fun _ => this, fun h => absurd h (by omega)⟩
    · simp at hs
  rcases iteC hs with ⟨e, hs⟩ | ⟨_, hs⟩
  · rcases iteC hs with ⟨_, hs⟩ | ⟨_, hs⟩
    · simp at hs
    · rcases iteC hs with ⟨_, hs⟩ | ⟨_, hs⟩
      · simp at hs
        exact CtlE.cut hc (carryV_ctl _ _) hs.symm (by omega)
      · simp at hs
  rcases iteC hs with ⟨e, hs⟩ | ⟨_, hs⟩
  · rcases iteC hs with ⟨_, hs⟩ | ⟨_, hs⟩
    · rcases iteC hs with ⟨_, hs⟩ | ⟨_, hs⟩
      · simp at hs
      · rcases iteC hs with ⟨_, hs⟩ | ⟨_, hs⟩
        · have := giveV_ctl pc ((carryV (carryV v 127).1 (labelV (carryV v 127).1 x.x.toNat)).1, labelV (carryV v 127).1 x.x.toNat, 0)
          rw [hs] at this
          dsimp only at this
          rw [carryV_ctl, carryV_ctl] at this
          exact CtlE.same this (by omega)
        · simp at hs
    · simp at hs
  rcases iteC hs with ⟨e, hs⟩ | ⟨_, hs⟩
  · rcases iteC hs with ⟨_, hs⟩ | ⟨_, hs⟩
    · rcases iteC hs with ⟨_, hs⟩ | ⟨_, hs⟩
      · simp at hs
      · rcases iteC hs with ⟨_, hs⟩ | ⟨_, hs⟩
        · simp at hs
        · exact CtlE.cut hc (carryV_ctl _ _) (tableV_none _ _ hs) (by omega)
    · simp at hs
  rcases iteC hs with ⟨e, hs⟩ | ⟨_, hs⟩
  · rcases iteC hs with ⟨_, hs⟩ | ⟨_, hs⟩
    · simp at hs
      exact CtlE.cut hc (carryV_ctl _ _) hs.symm (by omega)
    · simp at hs
  · have h1 := (h.plain hM hp hF.locals hc x hx (by omega)).2.1
    have := giveV_ctl pc (plainV M params fn.locals v x)
    rw [hs] at this
    exact CtlE.same (this.trans h1) (by omega)
/- the bottom block's result -/
def BotR (rs : Nat) (c : List VF) : Prop := ∀ f, c.getLast? = some f → gLen f.res = rs
theorem BotR.step {rs op : Nat} {c c' : List VF} (h : BotR rs c) (hc : c ≠ []) (he : CtlE op c c') : BotR rs c' := by
  intro f hf
  cases c with
  | nil => exact absurd rfl hc
  | cons a r =>
  by_cases h1 : op = 2 ∨ op = 3 ∨ op = 4
  · obtain ⟨g, rfl⟩ := he.opn h1
    rw [List.getLast?_cons_cons] at hf
    exact h f hf
  by_cases h2 : op = 5
  · obtain ⟨g, a', b, r', e1, rfl⟩ := he.tu h2
    rw [List.getLast?_cons_cons] at hf
    refine h f ?_
    rw [e1, List.getLast?_cons_cons]
    exact hf
  by_cases h3 : op = 11
  · rw [he.en h3, List.tail_cons] at hf
    cases r with
    | nil => simp at hf
    | cons b r =>
      refine h f ?_
      rw [List.getLast?_cons_cons]
      exact hf
  rcases he.no (by omega) with e | ⟨f0, r0, e1, e2⟩
  · subst e
    exact h f hf
  · simp at e1
    obtain ⟨rfl, rfl⟩ := e1
    subst e2
    cases r with
    | nil =>
      simp at hf
      subst hf
      exact h a (by simp)
    | cons b r =>
      refine h f ?_
      rw [List.getLast?_cons_cons] at hf ⊢
      exact hf
/- dead code that is passed over -/
theorem RD.skip {v v' : VS} {p q : PS} {op : Nat} (h : RD v p) (hs : skipP p op = some q) (he : CtlE op v.ctl v'.ctl) : RD v' q ∧ q.cells = p.cells ∧ q.ctl = p.ctl ∧ q.h = p.h := by
  obtain ⟨n, ex, f, r, h1, h2, h3, h4, h5, h6⟩ := h.is
  rw [h2] at he
  unfold skipP at hs
  rcases iteC hs with ⟨_, hs⟩ | ⟨_, hs⟩
  · simp at hs
  rcases iteC hs with ⟨e, hs⟩ | ⟨e1, hs⟩
  · simp at hs
    subst hs
    obtain ⟨g, hg⟩ := he.opn e
    exact ⟨⟨n + 1, g :: ex, f, r, by dsimp only; omega, hg, by simp [h3], h4, h5, h6⟩, rfl, rfl, rfl⟩
  rcases iteC hs with ⟨e, hs⟩ | ⟨e2, hs⟩
  · rcases iteC hs with ⟨hd, hs⟩ | ⟨_, hs⟩
    · simp at hs
      subst hs
      obtain ⟨g, a, b, r', e3, e4⟩ := he.tu e
      cases ex with
      | nil => simp at h3; omega
      | cons a' ex' =>
        simp at e3
        obtain ⟨_, e3⟩ := e3
        exact ⟨⟨n, g :: ex', f, r, h1, by rw [e4, ← e3]; rfl, by simpa using h3, h4, h5, h6⟩, rfl, rfl, rfl⟩
    · simp at hs
  rcases iteC hs with ⟨e, hs⟩ | ⟨e3, hs⟩
  · rcases iteC hs with ⟨_, hs⟩ | ⟨hd, hs⟩
    · simp at hs
    · simp at hs
      subst hs
      have := he.en e
      cases ex with
      | nil => simp at h3; omega
      | cons a' ex' =>
        refine ⟨⟨n - 1, ex', f, r, by dsimp only; simp at h3; omega, this, by simp at h3; omega, h4, h5, h6⟩, rfl, rfl, rfl⟩
  · simp at hs
    subst hs
    rcases he.no (by omega) with e | ⟨f0, r0, e4, e5⟩
    · exact ⟨⟨n, ex, f, r, h1, e, h3, h4, h5, h6⟩, rfl, rfl, rfl⟩
    · cases ex with
      | nil =>
        simp at e4
        obtain ⟨rfl, rfl⟩ := e4
        have hf : ({ f with dead := true } : VF) = f := by obtain ⟨a, b, c, d⟩ := f; simp at h4; subst h4; rfl
        rw [hf] at e5
        exact ⟨⟨n, [], f, r, h1, e5, h3, h4, h5, h6⟩, rfl, rfl, rfl⟩
      | cons a' ex' =>
        simp at e4
        obtain ⟨_, e4⟩ := e4
        exact ⟨⟨n, _ :: ex', f, r, h1, by rw [e5, ← e4]; rfl, by simpa using h3, h4, h5, h6⟩, rfl, rfl, rfl⟩
end Go.Proofs.Qxb6500275aGreatDoor
