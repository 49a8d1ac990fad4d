import Derived.Test.Qxb6500275aGreatDoorRn1
import Derived.Test.Qxb6500275aGreatDoorSt1
import Derived.Test.Qxb6500275aGreatDoorSy1
import Derived.Test.Qxb6500275aGreatDoorSy3
import Derived.Test.Qxb6500275aGreatDoorEx8
set_option linter.unusedVariables false
set_option linter.unusedSimpArgs false
set_option maxRecDepth 100000
namespace Go.Proofs.Qxb6500275aGreatDoor
open Go Go.RowKit
/- THE WHOLE MACHINE, as plain data: a module with its store, or none; the host -/
structure Xt where
  C : XC
  S : Sm
structure Ma where
  m : Option Xt
  H : Hm
structure Lan where
  n : Int
  m : Int
  e : Int
abbrev NumF := Nat → Int → Int → Int × Int
/- decode, validate, compile -/
def load0 (s : ByteArray) : Except Lan (Mod × List FF) := match decodeS s with
  | .error (c, p) => .error ⟨(p : Int), 0, c⟩
  | .ok M => if (validV M).2.2 = 0 then (match compP M with
    | .error (k, p) => .error ⟨(k : Int), (p : Int), 29⟩
    | .ok fs => .ok (M, fs)) else .error ⟨(validV M).1, ((validV M).2.1 : Int), (validV M).2.2⟩
def LoadS (num : NumF) (M : Mod) (fs : List FF) (fuel : Nat) (r : SR) (a : Lan) (st : Ma) : Prop :=
  (r.e ≠ 0 ∧ a = ⟨(r.i : Int), (r.k : Int), (r.e : Int)⟩ ∧ st = ⟨none, clearS r.H⟩) ∨
  (r.e = 0 ∧ M.start < 0 ∧ a = ⟨(fuel : Int), 0, 0⟩ ∧ st = ⟨some ⟨⟨M, fs, num⟩, r.S⟩, r.H⟩) ∨
  (r.e = 0 ∧ 0 ≤ M.start ∧ ∃ R, RunR ⟨M, fs, num⟩ fuel M.start.toNat [] r.S r.H R ∧ a = ⟨(R.1 : Int), 0, (R.2.e : Int)⟩ ∧ st = if R.2.e = 0 then ⟨some ⟨⟨M, fs, num⟩, R.2.S⟩, R.2.H⟩ else ⟨none, clearS R.2.H⟩)
def LoadR (num : NumF) (s : ByteArray) (fuel : Nat) (H : Hm) (a : Lan) (st : Ma) : Prop := match load0 s with
  | .error a' => a = a' ∧ st = ⟨none, clearS H⟩
  | .ok (M, fs) => LoadS num M fs fuel (settleS M Sm.none (clearS H)) a st
/- what a loaded module keeps -/
structure GoodC (num : NumF) (C : XC) : Prop where
  num : C.num = num
  ok : CodeOk C
  len : ∀ (k : Nat) (ff : FF), C.fs[k]? = some ff → ff.cells.length ≤ 1000
  ty : ∀ j : Nat, j < C.M.imports.length + C.M.funcs.length → ∃ t, C.M.typeOf (j : Int) = some t
  last : ∀ (k : Nat) (ff : FF), C.fs[k]? = some ff → ff.cells ≠ [] → ∃ c, ff.cells = c ++ [⟨11, 0, 0⟩]
  exps : ∀ x, x ∈ C.M.exports → x.kind = 0 → x.idx < ((C.M.imports.length + C.M.funcs.length : Nat) : Int)
structure Good (num : NumF) (st : Ma) : Prop where
  hm : HmOk st.H
  md : ∀ x, st.m = some x → GoodC num x.C ∧ Env x.C [] x.S st.H
section
variable {num : NumF} {s : ByteArray} {M : Mod} {fs : List FF} {fuel : Nat} {H : Hm} {a : Lan} {st : Ma}
theorem clearS_ok (h : HmOk H) : HmOk (clearS H) := ⟨⟨by simp [clearS], fun k hk => by simp [clearS] at hk⟩, h.tp, ⟨by simp [clearS], fun v hv => by simp [clearS] at hv, by simp [clearS]⟩, by simp [clearS]⟩
theorem expsV_all : ∀ (l b : List Exp) (i : Nat), expsV M b l i = none → ∀ x, x ∈ l → x.kind = 0 → x.idx < ((M.imports.length + M.funcs.length : Nat) : Int)
  | [], b, i, h, x, hx => by simp at hx
  | y :: ys, b, i, h, x, hx => by
    rw [expsV] at h
    rcases iteC h with ⟨_, h⟩ | ⟨h1, h⟩
    · simp at h
    rcases iteC h with ⟨_, h⟩ | ⟨_, h⟩
    · simp at h
    rcases List.mem_cons.1 hx with rfl | hx
    · intro hk
      rw [hk] at h1
      rw [if_neg (by decide), if_neg (by decide), if_neg (by decide)] at h1
      omega
    · exact expsV_all ys _ _ h x hx
theorem parts_exps (h : partsV M = none) : ∀ x, x ∈ M.exports → x.kind = 0 → x.idx < ((M.imports.length + M.funcs.length : Nat) : Int) := by
  unfold partsV at h
  split at h
  · simp at h
  rcases iteC h with ⟨_, h⟩ | ⟨_, h⟩
  · simp at h
  rcases iteC h with ⟨_, h⟩ | ⟨_, h⟩
  · simp at h
  split at h
  · simp at h
  split at h
  · simp at h
  rename_i he
  exact expsV_all _ _ _ he
structure Ld0 (M : Mod) (fs : List FF) : Prop where
  mod : ModOk M
  seg : SegOk M
  good : ∀ num, NumOk num → GoodC num ⟨M, fs, num⟩
theorem load0_ok (h : load0 s = .ok (M, fs)) : Ld0 M fs := by
  unfold load0 at h
  cases hd : decodeS s with
  | error x => rw [hd] at h; simp at h
  | ok M' =>
    rw [hd] at h
    dsimp only at h
    rcases iteC h with ⟨hv, h⟩ | ⟨_, h⟩
    · cases hc : compP M' with
      | error x => rw [hc] at h; simp at h
      | ok fs' =>
        rw [hc] at h
        simp only [Except.ok.injEq, Prod.mk.injEq] at h
        obtain ⟨rfl, rfl⟩ := h
        obtain ⟨h1, h2⟩ := decodeS_r hd
        have hp := valid_parts hv
        exact ⟨h1, parts_segs hp, fun num hN => ⟨rfl, code_ok h1 hN hv hc, compP_len h1 h2 hc, parts_types hp, compP_last h1 hc, parts_exps hp⟩⟩
    · simp at h
theorem load0_err (h : load0 s = .error a) : a.e ≠ 0 ∧ a.e < 38 := by
  unfold load0 at h
  cases hd : decodeS s with
  | error x =>
    obtain ⟨c, p⟩ := x
    rw [hd] at h
    simp only [Except.error.injEq] at h
    subst h
    have := er_decode (s := s)
    rw [hd] at this
    have := this c p rfl
    dsimp only
    omega
  | ok M' =>
    rw [hd] at h
    dsimp only at h
    rcases iteC h with ⟨hv, h⟩ | ⟨hv, h⟩
    · cases hc : compP M' with
      | error x =>
        obtain ⟨k, p⟩ := x
        rw [hc] at h
        simp only [Except.error.injEq] at h
        subst h
        dsimp only
        omega
      | ok fs' => rw [hc] at h; simp at h
    · simp only [Except.error.injEq] at h
      subst h
      have := validV_e28 (m := M')
      dsimp only
      omega
theorem start_ty (h : Ld0 M fs) (hs : 0 ≤ M.start) : ∃ t, M.typeOf ((M.start.toNat : Nat) : Int) = some t ∧ t.p.size = 0 ∧ t.q.size = 0 := by
  rcases h.seg.start with e | ⟨t, h1, h2, h3⟩
  · omega
  · exact ⟨t, by rw [Int.toNat_of_nonneg hs]; exact h1, h2, h3⟩
theorem settle_env (h : Ld0 M fs) {r : SR} (hr : SRok M r) : Env ⟨M, fs, num⟩ [] r.S r.H := ⟨fun v hv => by simp at hv, hr.sm, hr.hm, hr.tab, hr.bd⟩
theorem settle_r (h : Ld0 M fs) (hH : HmOk H) (S : Sm) (he : (settleS M S (clearS H)).e = 0) : SRok M (settleS M S (clearS H)) := settleS_ok h.mod h.seg (clearS_ok hH) rfl he
/- it answers; the answer is one -/
theorem LoadS.total (hN : NumOk num) (h : Ld0 M fs) (hH : HmOk H) (fuel : Nat) : ∃ a st, LoadS num M fs fuel (settleS M Sm.none (clearS H)) a st := by
  unfold LoadS
  have hr := settle_r h hH Sm.none
  generalize settleS M Sm.none (clearS H) = r at hr ⊢
  by_cases he : r.e = 0
  · by_cases hs : M.start < 0
    · exact ⟨_, _, .inr (.inl ⟨he, hs, rfl, rfl⟩)⟩
    · obtain ⟨t, h1, h2, h3⟩ := start_ty h (by omega)
      obtain ⟨R, hR⟩ := RunR.total (h.good num hN).ok h1 (settle_env h (hr he)) (by rw [h2]; rfl) fuel
      exact ⟨_, _, .inr (.inr ⟨he, by omega, R, hR, rfl, rfl⟩)⟩
  · exact ⟨_, _, .inl ⟨he, rfl, rfl⟩⟩
theorem LoadR.total (hN : NumOk num) (hH : HmOk H) (s : ByteArray) (fuel : Nat) : ∃ a st, LoadR num s fuel H a st := by
  unfold LoadR
  cases h : load0 s with
  | error a => exact ⟨_, _, rfl, rfl⟩
  | ok p => obtain ⟨M, fs⟩ := p; exact LoadS.total hN (load0_ok h) hH fuel
theorem LoadS.det {r : SR} {a' : Lan} {st' : Ma} (h : LoadS num M fs fuel r a st) (h' : LoadS num M fs fuel r a' st') : a = a' ∧ st = st' := by
  unfold LoadS at h h'
  rcases h with ⟨e, rfl, rfl⟩ | ⟨e, hs, rfl, rfl⟩ | ⟨e, hs, R, hR, rfl, rfl⟩
  · rcases h' with ⟨_, rfl, rfl⟩ | ⟨e', _⟩ | ⟨e', _⟩
    · exact ⟨rfl, rfl⟩
    · exact absurd e' e
    · exact absurd e' e
  · rcases h' with ⟨e', _⟩ | ⟨_, _, rfl, rfl⟩ | ⟨_, hs', _⟩
    · exact absurd e e'
    · exact ⟨rfl, rfl⟩
    · omega
  · rcases h' with ⟨e', _⟩ | ⟨_, hs', _⟩ | ⟨_, _, R', hR', rfl, rfl⟩
    · exact absurd e e'
    · omega
    · cases hR.det hR'
      exact ⟨rfl, rfl⟩
theorem LoadR.det {a' : Lan} {st' : Ma} (h : LoadR num s fuel H a st) (h' : LoadR num s fuel H a' st') : a = a' ∧ st = st' := by
  unfold LoadR at h h'
  cases h0 : load0 s with
  | error x => rw [h0] at h h'; obtain ⟨rfl, rfl⟩ := h; obtain ⟨rfl, rfl⟩ := h'; exact ⟨rfl, rfl⟩
  | ok p => obtain ⟨M, fs⟩ := p; rw [h0] at h h'; exact LoadS.det h h'
/- what it keeps -/
structure LoadF (num : NumF) (fuel : Nat) (a : Lan) (st : Ma) : Prop where
  good : Good num st
  no : a.e ≠ 0 → st.m = none
  ran : a.e = 0 ∨ 38 ≤ a.e → 0 ≤ a.n ∧ a.n ≤ (fuel : Int) ∧ a.m = 0
  e46 : a.e = 46 → a.n = 0
theorem Good.no (h : HmOk H) : Good num ⟨none, clearS H⟩ := ⟨clearS_ok h, fun x e => by simp at e⟩
theorem LoadR.facts (hN : NumOk num) (hH : HmOk H) (h : LoadR num s fuel H a st) : LoadF num fuel a st := by
  unfold LoadR at h
  cases h0 : load0 s with
  | error x =>
    rw [h0] at h
    obtain ⟨rfl, rfl⟩ := h
    have := load0_err h0
    exact ⟨Good.no hH, fun _ => rfl, fun e => by omega, fun e => by omega⟩
  | ok p =>
    obtain ⟨M, fs⟩ := p
    rw [h0] at h
    dsimp only at h
    have hl := load0_ok h0
    have hg := hl.good num hN
    have hr := settle_r hl hH Sm.none
    have hh := settleS_hm hl.mod Sm.none (clearS_ok hH)
    have hee := settleS_e M Sm.none (clearS H)
    generalize settleS M Sm.none (clearS H) = r at hr h hh hee
    rcases h with ⟨e, rfl, rfl⟩ | ⟨e, hs, rfl, rfl⟩ | ⟨e, hs, R, hR, rfl, rfl⟩
    · exact ⟨Good.no hh, fun _ => rfl, fun e => by dsimp only at e; omega, fun e => by dsimp only at e; omega⟩
    · exact ⟨⟨hh, fun x e => by simp only [Option.some.injEq] at e; subst e; exact ⟨hg, settle_env hl (hr ‹_›)⟩⟩, fun e => absurd rfl e, fun _ => ⟨by dsimp only; omega, by dsimp only; omega, rfl⟩, fun e => by simp at e⟩
    · obtain ⟨t, h1, h2, h3⟩ := start_ty hl hs
      have hf := hR.fin hg.ok h1 (settle_env hl (hr e)) (by rw [h2]; rfl)
      have hle := hf.le
      have h46 := hf.e46
      refine ⟨?_, fun e => ?_, fun _ => ⟨by dsimp only; omega, by dsimp only; omega, rfl⟩, fun e => ?_⟩
      · by_cases e0 : R.2.e = 0
        · rw [if_pos e0]
          exact ⟨hf.env.hm, fun x e => by simp only [Option.some.injEq] at e; subst e; exact ⟨hg, hf.env.nil⟩⟩
        · rw [if_neg e0]
          exact Good.no hf.env.hm
      · rw [if_neg (fun e0 => e (by rw [e0]; rfl))]
      · dsimp only at e ⊢
        rw [h46 (by omega)]
        rfl
/- one fuel more -/
def moreL (a : Lan) : Lan := if a.e = 0 ∨ 38 ≤ a.e then { a with n := a.n + 1 } else a
theorem LoadR.more (hN : NumOk num) (hH : HmOk H) (h : LoadR num s fuel H a st) (h46 : a.e ≠ 46) : LoadR num s (fuel + 1) H (moreL a) st := by
  unfold LoadR at h ⊢
  unfold moreL
  cases h0 : load0 s with
  | error x =>
    rw [h0] at h
    obtain ⟨rfl, rfl⟩ := h
    have := load0_err h0
    rw [if_neg (by omega)]
    exact ⟨rfl, rfl⟩
  | ok p =>
    obtain ⟨M, fs⟩ := p
    rw [h0] at h
    dsimp only at h ⊢
    have hl := load0_ok h0
    have hr := settle_r hl hH Sm.none
    have hee := settleS_e M Sm.none (clearS H)
    generalize settleS M Sm.none (clearS H) = r at h hee hr ⊢
    rcases h with ⟨e, rfl, rfl⟩ | ⟨e, hs, rfl, rfl⟩ | ⟨e, hs, R, hR, rfl, rfl⟩
    · rw [if_neg (by dsimp only; omega)]
      exact .inl ⟨e, rfl, rfl⟩
    · rw [if_pos (.inl rfl)]
      exact .inr (.inl ⟨e, hs, by simp, rfl⟩)
    · have hm := hR.more (fun e => h46 (by dsimp only; rw [e]; rfl))
      refine .inr (.inr ⟨e, hs, _, hm, ?_, rfl⟩)
      obtain ⟨t, h1, h2, h3⟩ := start_ty hl hs
      have hf := hR.fin (hl.good num hN).ok h1 (settle_env hl (hr e)) (by rw [h2]; rfl)
      have := hf.e
      have : (R.2.e : Int) = 0 ∨ 38 ≤ (R.2.e : Int) := by omega
      rw [if_pos this]
      simp
end
end Go.Proofs.Qxb6500275aGreatDoor
