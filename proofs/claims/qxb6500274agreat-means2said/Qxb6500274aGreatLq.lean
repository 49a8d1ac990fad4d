import Derived.Test.Qxb6500274aGreatLp
set_option linter.unusedVariables false
set_option linter.unusedSimpArgs false
set_option maxRecDepth 100000
namespace Go.Sx
open Go Go.RowKit
def withPrim (E : Env) (g : Nat) (f : List Value → St → Option (List (Value × St))) : Env :=
  ⟨E.ti, E.fn, E.meth, E.impl, E.nv, E.long, E.calm, E.flat, E.bad, E.quiet, fun h => match Nat.beq h g with | true => some f | false => E.prim h⟩
theorem pairs_with (E : Env) (g : Nat) (f) (all : List Oper) (m : Nat) (y : Oper) : ∀ (l : List Oper) (k : Nat), okPairs (withPrim E g f) all m y k l = okPairs E all m y k l
  | [], _ => rfl
  | x :: l, k => by
    simp only [okPairs, pairs_with E g f all m y l]
    rfl
theorem from_with (E : Env) (g : Nat) (f) (all : List Oper) (ms : List Nat) : ∀ (l : List Oper) (i : Nat), okFrom (withPrim E g f) all ms i l = okFrom E all ms i l
  | [], _ => rfl
  | y :: l, i => by
    simp only [okFrom, from_with E g f all ms l, pairs_with]
theorem draws_with (E : Env) (g : Nat) (f) (h : Nat) (c : Code) : drawsOK (withPrim E g f) h c = drawsOK E h c := by
  induction c with
  | region id ops draw =>
    simp only [drawsOK, okDraw, from_with]
    rfl
  | seq a b ha hb => simp only [drawsOK, ha, hb]
  | cond o a b ha hb => simp only [drawsOK, ha, hb]
  | block id a ha => simp only [drawsOK, ha]
  | loop a ha => simp only [drawsOK, ha]
  | scope a ha => simp only [drawsOK, ha]
  | _ => rfl
theorem ProgOK.withPrim {P : Program} {E : Env} {n0 : Base} {w0 : World} (h : ProgOK P E n0 w0) {g : Nat} {f : List Value → St → Option (List (Value × St))} (hq : E.quiet g = false)
    (hf : CallSound P n0 w0 (fun h args s => if h = g then f args s else none)) : ProgOK P (withPrim E g f) n0 w0 := by
  obtain ⟨⟨e1, e2, e3, e4, e5, e6⟩, h2, h3, h4, h5, h6⟩ := h
  refine ⟨⟨e1, e2, e3, e4, e5, e6⟩, h2, ?_, h4, ?_, ?_⟩
  · intro g' f' c hf' hc
    have := h3 g' f' c hf' hc
    rw [draws_with]
    exact this
  · intro g' f' hf'
    simp only [Go.Sx.withPrim] at hf'
    split at hf'
    · rename_i e
      have e := Nat.eq_of_beq_eq_true e
      subst e
      cases hf'
      exact hf
    · exact h5 g' f' hf'
  · intro g' hg'
    have hne : Nat.beq g' g = false := by
      cases hb : Nat.beq g' g with
      | false => rfl
      | true =>
        have e := Nat.eq_of_beq_eq_true hb
        subst e
        have hg'' : E.quiet g' = true := hg'
        rw [hq] at hg''
        cases hg''
    obtain ⟨f', q1, q2⟩ := h6 g' hg'
    refine ⟨f', ?_, q2⟩
    simp only [Go.Sx.withPrim, hne]
    exact q1
/- where the head's blocks lie behind the first part -/
def mPre : List Nat := [12, 643, 656, 1, 10, 17, 348, 620, 638, 11, 648, 649, 650, 645, 654, 655, 0, 8, 9, 20, 30, 349, 646, 647, 651, 644, 652, 653, 592, 366, 427, 474, 507, 536, 581, 590]
def bdPre : List (Nat × List Value) := [(2, [.int .u64 7]), (20, [.int .i64 0]), (21, [.int .i64 1])]
def preOK : Option (Rg × St) → Bool
  | some (r, s) => isVar 40 (r.get 0) && (isPtr0 12 (r.get 3) && (isPtr0 643 (r.get 7) && (isPtr0 656 (r.get 8) && (eqPlain (r.get 9) (.int .i64 0) && (r.defers.isEmpty && covers zOne s mPre bdPre)))))
  | none => false
end Go.Sx
namespace Go.Proofs.Qxb6500274aGreat
open Go Go.RowKit Go.Sx
def IsTxt (txt : Value) : Prop := txt = (match body7 Tryz.f7.body [1, 1, 0] with | .region _ ops _ => probeOf ops.toList | _ => .bool false)
theorem load_sound {E : Env} (h : IsEnv E) {n0 : Base} {w0 : World} (hp : PfOK n0) {txt : Value} {sA sB : St} (ht : IsTxt txt) (hA : IsNew sA) (hB : IsS9 sB) : CallSound Tryz.prog n0 w0 (fun h args s => if h = 17 then primLoad txt sA sB args s else none) := by
  have hP := progOK E h (n0 := n0) (w0 := w0) hp
  refine prim_sound Tryz.func17 (of_decide_eq_true (by kernel_rfl)) (by kernel_rfl) ?_
  intro args s L hL K w cargs hR ha
  unfold primLoad at hL
  split at hL
  · rename_i s p t f
    split at hL
    · rename_i hc
      simp only [Bool.and_eq_true] at hc
      obtain ⟨c1, c2, c3, c4⟩ := hc
      have e1 := sameCell_eq c1
      have e2 := (eqPlain_eq c2).1
      have e3 := (eqPlain_eq c3).1
      have e4 := sameSt_eq c4
      subst e1; subst e2; subst e3; subst e4
      cases hL
      exact ((callF_sound hP 3000 60).1 17 _ _ _ (ld_all E h _ _ hA hB _ ht)).2 K w cargs hR ha
    · cases hL
  · cases hL
theorem pre_run (E : Env) (h : IsEnv E) (txt : Value) (sA sB : St) (ht : IsTxt txt) (hA : IsNew sA) (hB : IsS9 sB) :
    preOK (evN (withPrim E 17 (primLoad txt sA sB)) (callF (withPrim E 17 (primLoad txt sA sB)) 3000 60) 7 3000 [body7 Tryz.f7.body [0], body7 Tryz.f7.body [1, 0], body7 Tryz.f7.body [1, 1, 0], body7 Tryz.f7.body [1, 1, 1, 0], body7 Tryz.f7.body [1, 1, 1, 1, 0], body7 Tryz.f7.body [1, 1, 1, 1, 1, 0], body7 Tryz.f7.body [1, 1, 1, 1, 1, 1, 0, 0]]
      (enter (E.nv 7) (E.long 7) [symv .nilIface [.chan (some 40)]]) ⟨[], 0, [], []⟩) = true := by
  unfold IsEnv at h; unfold IsTxt at ht; unfold IsNew at hA; unfold IsS9 at hB; subst h; subst ht; subst hA; subst hB; kernel_rfl
end Go.Proofs.Qxb6500274aGreat
