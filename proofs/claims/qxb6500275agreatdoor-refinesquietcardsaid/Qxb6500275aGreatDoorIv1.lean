import Derived.Test.Qxb6500275aGreatDoorLd1
import Derived.Test.Qxb6500275aGreatDoorTw2
set_option linter.unusedVariables false
set_option linter.unusedSimpArgs false
set_option maxRecDepth 100000
namespace Go.Proofs.Qxb6500275aGreatDoor
open Go Go.RowKit
/- INVOKE, as plain functions -/
def argW (t : Ty) (args : ByteArray) (i : Nat) : Nat := (cutB (pAt t.p i) (wordF args (i : Int))).toNat
def argsW (t : Ty) (args : ByteArray) : List Nat := (List.range t.p.size).map (argW t args)
structure Ia where
  s : ByteArray
  n : Int
  e : Int
def freshS (H : Hm) : Hm := { H with tr := [], rows := 0 }
def resS (t : Ty) (R : Nat × Xe) : Ia := if R.2.e ≠ 0 ∨ resT t = 0 then ⟨⟨#[]⟩, (R.1 : Int), (R.2.e : Int)⟩ else ⟨(⟨⟨hexL (resT t) 2⟩⟩ : ByteArray) ++ colon ++ (⟨⟨hexL (R.2.out.getD 0 0) 16⟩⟩ : ByteArray), (R.1 : Int), 0⟩
def InvX (x : Xt) (H : Hm) (name args : ByteArray) (fuel : Nat) (a : Ia) (st : Ma) : Prop :=
  if findX name x.C.M.exports < 0 then a = ⟨⟨#[]⟩, 0, 33⟩ ∧ st = ⟨some x, H⟩ else
    match x.C.M.typeOf (findX name x.C.M.exports) with
    | none => a = ⟨⟨#[]⟩, 0, 33⟩ ∧ st = ⟨some x, H⟩
    | some t => if args.size ≠ 8 * t.p.size then a = ⟨⟨#[]⟩, 0, 34⟩ ∧ st = ⟨some x, H⟩ else
      ∃ R, RunR x.C fuel (findX name x.C.M.exports).toNat (argsW t args) x.S (freshS H) R ∧ a = resS t R ∧ st = ⟨some ⟨x.C, R.2.S⟩, R.2.H⟩
def InvR (st0 : Ma) (name args : ByteArray) (fuel : Nat) (a : Ia) (st : Ma) : Prop :=
  if 8 < name.size ∨ 32 < args.size then a = ⟨⟨#[]⟩, 0, 1⟩ ∧ st = st0 else
    match st0.m with
    | none => a = ⟨⟨#[]⟩, 0, 32⟩ ∧ st = st0
    | some x => InvX x st0.H name args fuel a st
section
variable {num : NumF} {st0 st st' : Ma} {name args : ByteArray} {fuel : Nat} {a a' : Ia} {x : Xt} {H : Hm} {t : Ty}
theorem freshS_ok (h : HmOk H) : HmOk (freshS H) := ⟨h.bd, h.tp, ⟨by simp [freshS], fun v hv => by simp [freshS] at hv, by simp [freshS]⟩, by simp [freshS]⟩
theorem argsW_len : (argsW t args).length = t.p.size := by simp [argsW]
theorem argW_lt (i : Nat) : argW t args i < 18446744073709551616 := by
  unfold argW
  have := cutB_r (t := pAt t.p i) (wordF_range args (i : Int))
  omega
theorem inv_env (h : Env x.C [] x.S H) : Env x.C (argsW t args) x.S (freshS H) := by
  refine ⟨fun v hv => ?_, h.sm, freshS_ok h.hm, h.tab, h.bd⟩
  unfold argsW at hv
  obtain ⟨i, _, rfl⟩ := List.mem_map.1 hv
  exact argW_lt i
theorem InvX.total (h : GoodC num x.C) (he : Env x.C [] x.S H) (name args : ByteArray) (fuel : Nat) : ∃ a st, InvX x H name args fuel a st := by
  unfold InvX
  by_cases h1 : findX name x.C.M.exports < 0
  · exact ⟨⟨⟨#[]⟩, 0, 33⟩, ⟨some x, H⟩, by rw [if_pos h1]; exact ⟨rfl, rfl⟩⟩
  · cases ht : x.C.M.typeOf (findX name x.C.M.exports) with
    | none => exact ⟨⟨⟨#[]⟩, 0, 33⟩, ⟨some x, H⟩, by rw [if_neg h1]; exact ⟨rfl, rfl⟩⟩
    | some t =>
      by_cases h2 : args.size ≠ 8 * t.p.size
      · exact ⟨⟨⟨#[]⟩, 0, 34⟩, ⟨some x, H⟩, by rw [if_neg h1]; dsimp only; rw [if_pos h2]; exact ⟨rfl, rfl⟩⟩
      · obtain ⟨R, hR⟩ := RunR.total (f := (findX name x.C.M.exports).toNat) h.ok (by rw [Int.toNat_of_nonneg (by omega)]; exact ht) (inv_env (t := t) (args := args) he) argsW_len fuel
        exact ⟨_, _, by rw [if_neg h1]; dsimp only; rw [if_neg h2]; exact ⟨R, hR, rfl, rfl⟩⟩
theorem InvR.total (h : Good num st0) (name args : ByteArray) (fuel : Nat) : ∃ a st, InvR st0 name args fuel a st := by
  unfold InvR
  by_cases h1 : 8 < name.size ∨ 32 < args.size
  · exact ⟨⟨⟨#[]⟩, 0, 1⟩, st0, by rw [if_pos h1]; exact ⟨rfl, rfl⟩⟩
  · cases hm : st0.m with
    | none => exact ⟨⟨⟨#[]⟩, 0, 32⟩, st0, by rw [if_neg h1]; exact ⟨rfl, rfl⟩⟩
    | some x =>
      obtain ⟨a, st, h2⟩ := InvX.total (h.md x hm).1 (h.md x hm).2 name args fuel
      exact ⟨a, st, by rw [if_neg h1]; exact h2⟩
theorem InvX.det (h : InvX x H name args fuel a st) (h' : InvX x H name args fuel a' st') : a = a' ∧ st = st' := by
  unfold InvX at h h'
  by_cases h1 : findX name x.C.M.exports < 0
  · rw [if_pos h1] at h h'
    exact ⟨h.1.trans h'.1.symm, h.2.trans h'.2.symm⟩
  · rw [if_neg h1] at h h'
    cases ht : x.C.M.typeOf (findX name x.C.M.exports) with
    | none => rw [ht] at h h'; exact ⟨h.1.trans h'.1.symm, h.2.trans h'.2.symm⟩
    | some t =>
      rw [ht] at h h'
      dsimp only at h h'
      by_cases h2 : args.size ≠ 8 * t.p.size
      · rw [if_pos h2] at h h'
        exact ⟨h.1.trans h'.1.symm, h.2.trans h'.2.symm⟩
      · rw [if_neg h2] at h h'
        obtain ⟨R, hR, rfl, rfl⟩ := h
        obtain ⟨R', hR', rfl, rfl⟩ := h'
        cases hR.det hR'
        exact ⟨rfl, rfl⟩
theorem InvR.det (h : InvR st0 name args fuel a st) (h' : InvR st0 name args fuel a' st') : a = a' ∧ st = st' := by
  unfold InvR at h h'
  by_cases h1 : 8 < name.size ∨ 32 < args.size
  · rw [if_pos h1] at h h'
    exact ⟨h.1.trans h'.1.symm, h.2.trans h'.2.symm⟩
  · rw [if_neg h1] at h h'
    cases hm : st0.m with
    | none => rw [hm] at h h'; exact ⟨h.1.trans h'.1.symm, h.2.trans h'.2.symm⟩
    | some x => rw [hm] at h h'; exact InvX.det h h'
/- what it keeps -/
structure InvF (num : NumF) (st0 : Ma) (fuel : Nat) (a : Ia) (st : Ma) : Prop where
  good : Good num st
  same : refusedS a.e = true → st = st0
  ran : refusedS a.e = false → 0 ≤ a.n ∧ a.n ≤ (fuel : Int)
  e46 : a.e = 46 → a.n = 0
theorem resS_e (t : Ty) (R : Nat × Xe) : (resS t R).e = (R.2.e : Int) ∧ (resS t R).n = (R.1 : Int) := by
  unfold resS
  split
  · exact ⟨rfl, rfl⟩
  · rename_i h
    have : R.2.e = 0 := Classical.byContradiction (fun e => h (.inl e))
    rw [this]
    exact ⟨rfl, rfl⟩
theorem run_ref {R : Nat × Xe} (h : R.2.e = 0 ∨ 38 ≤ R.2.e) (t : Ty) : refusedS (resS t R).e = false := by
  rw [(resS_e t R).1]
  unfold refusedS
  simp only [decide_eq_false_iff_not]
  omega
theorem InvR.facts (hg : Good num st0) (h : InvR st0 name args fuel a st) : InvF num st0 fuel a st := by
  have ref : ∀ (e : Int), e = 1 ∨ e = 32 ∨ e = 33 ∨ e = 34 → a = ⟨⟨#[]⟩, 0, e⟩ ∧ st = st0 → InvF num st0 fuel a st := fun e he h => by
    obtain ⟨rfl, rfl⟩ := h
    refine ⟨hg, fun _ => rfl, fun hr => ?_, fun h => ?_⟩
    · unfold refusedS at hr
      simp only [decide_eq_false_iff_not] at hr
      exact absurd he hr
    · dsimp only at h; omega
  unfold InvR at h
  by_cases h1 : 8 < name.size ∨ 32 < args.size
  · rw [if_pos h1] at h
    exact ref 1 (by omega) h
  · rw [if_neg h1] at h
    cases hm : st0.m with
    | none => rw [hm] at h; exact ref 32 (by omega) h
    | some x =>
      rw [hm] at h
      have hst : (⟨some x, st0.H⟩ : Ma) = st0 := by rw [← hm]
      obtain ⟨hgc, he⟩ := hg.md x hm
      unfold InvX at h
      dsimp only at h
      rw [hst] at h
      by_cases h1 : findX name x.C.M.exports < 0
      · rw [if_pos h1] at h
        exact ref 33 (by omega) h
      · rw [if_neg h1] at h
        cases ht : x.C.M.typeOf (findX name x.C.M.exports) with
        | none => rw [ht] at h; exact ref 33 (by omega) h
        | some t =>
          rw [ht] at h
          dsimp only at h
          by_cases h2 : args.size ≠ 8 * t.p.size
          · rw [if_pos h2] at h
            exact ref 34 (by omega) h
          · rw [if_neg h2] at h
            obtain ⟨R, hR, rfl, rfl⟩ := h
            have hf := hR.fin hgc.ok (by rw [Int.toNat_of_nonneg (by omega)]; exact ht) (inv_env (t := t) (args := args) he) argsW_len
            have hle := hf.le
            have h46 := hf.e46
            obtain ⟨g1, g2⟩ := resS_e t R
            refine ⟨⟨hf.env.hm, fun y hy => ?_⟩, fun hr => ?_, fun _ => ?_, fun hr => ?_⟩
            · simp only [Option.some.injEq] at hy
              subst hy
              exact ⟨hgc, hf.env.nil⟩
            · rw [run_ref hf.e t] at hr
              simp at hr
            · rw [g2]; omega
            · rw [g1] at hr
              rw [g2, h46 (by omega)]
              rfl
/- one fuel more -/
def moreI (a : Ia) : Ia := if refusedS a.e = true then a else { a with n := a.n + 1 }
theorem moreI_ref {s : ByteArray} {n e : Int} (he : e = 1 ∨ e = 32 ∨ e = 33 ∨ e = 34) : moreI ⟨s, n, e⟩ = ⟨s, n, e⟩ := by
  unfold moreI
  rw [if_pos]
  unfold refusedS
  exact decide_eq_true he
theorem resS_more (t : Ty) (R : Nat × Xe) (he : R.2.e = 0 ∨ 38 ≤ R.2.e) : moreI (resS t R) = resS t (R.1 + 1, R.2) := by
  unfold moreI
  rw [if_neg (by rw [run_ref he t]; simp)]
  unfold resS
  dsimp only
  split
  · simp
  · simp
theorem InvR.more (hg : Good num st0) (h : InvR st0 name args fuel a st) (h46 : a.e ≠ 46) : InvR st0 name args (fuel + 1) (moreI a) st := by
  have ref : ∀ (e : Int), e = 1 ∨ e = 32 ∨ e = 33 ∨ e = 34 → ∀ st1 : Ma, a = ⟨⟨#[]⟩, 0, e⟩ ∧ st = st1 → moreI a = ⟨⟨#[]⟩, 0, e⟩ ∧ st = st1 := fun e he st1 h => by
    obtain ⟨rfl, rfl⟩ := h
    exact ⟨moreI_ref he, rfl⟩
  unfold InvR at h ⊢
  by_cases h1 : 8 < name.size ∨ 32 < args.size
  · rw [if_pos h1] at h ⊢
    exact ref 1 (by omega) _ h
  · rw [if_neg h1] at h ⊢
    cases hm : st0.m with
    | none => rw [hm] at h; exact ref 32 (by omega) _ h
    | some x =>
      rw [hm] at h
      obtain ⟨hgc, he⟩ := hg.md x hm
      unfold InvX at h ⊢
      dsimp only at h ⊢
      by_cases h1 : findX name x.C.M.exports < 0
      · rw [if_pos h1] at h ⊢
        exact ref 33 (by omega) _ h
      · rw [if_neg h1] at h ⊢
        cases ht : x.C.M.typeOf (findX name x.C.M.exports) with
        | none => rw [ht] at h; exact ref 33 (by omega) _ h
        | some t =>
          rw [ht] at h
          dsimp only at h ⊢
          by_cases h2 : args.size ≠ 8 * t.p.size
          · rw [if_pos h2] at h ⊢
            exact ref 34 (by omega) _ h
          · rw [if_neg h2] at h ⊢
            obtain ⟨R, hR, rfl, rfl⟩ := h
            have hf := hR.fin hgc.ok (by rw [Int.toNat_of_nonneg (by omega)]; exact ht) (inv_env (t := t) (args := args) he) argsW_len
            have g1 := (resS_e t R).1
            have hm := hR.more (fun e => h46 (by rw [g1, e]; rfl))
            exact ⟨_, hm, resS_more t R hf.e, rfl⟩
end
end Go.Proofs.Qxb6500275aGreatDoor
