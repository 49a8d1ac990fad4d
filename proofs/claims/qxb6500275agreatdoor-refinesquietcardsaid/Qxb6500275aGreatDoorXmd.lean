import Derived.Test.Qxb6500275aGreatDoorXmc
set_option linter.unusedVariables false
set_option linter.unusedSimpArgs false
set_option maxRecDepth 100000
namespace Go.Proofs.Qxb6500275aGreatDoor
open Go Go.RowKit
theorem tysB_inj {a b : ByteArray} (h : tysB a = tysB b) : a = b := by
  unfold tysB at h
  have h1 : a.data.toList = b.data.toList := by
    apply List.ext_getElem?
    intro i
    have := congrArg (fun l => l[i]?) h
    simp only [List.getElem?_map] at this
    cases hx : a.data.toList[i]? with
    | none => rw [hx] at this; cases hy : b.data.toList[i]? with | none => rfl | some y => rw [hy] at this; simp at this
    | some x =>
      rw [hx] at this
      cases hy : b.data.toList[i]? with
      | none => rw [hy] at this; simp at this
      | some y =>
        rw [hy] at this
        simp at this
        congr 1
        exact UInt8.toNat_inj.1 this
  exact ByteArray.ext (Array.toList_inj.1 h1)
theorem text_eq {t u : Ty} (hT : TyOk t) (hU : TyOk u) : t.text = u.text ↔ (t.p = u.p ∧ t.q = u.q) := by
  constructor
  · intro h
    have h1 : tysB t.p ++ 58 :: tysB t.q = tysB u.p ++ 58 :: tysB u.q := by
      have := congrArg tysB h
      unfold Ty.text tysB at this
      simp [ByteArray.data_append, colon] at this
      unfold tysB
      exact this
    have key : ∀ (a b c d : List Nat), (∀ x, x ∈ a → isVal x) → (∀ x, x ∈ c → isVal x) → a ++ 58 :: b = c ++ 58 :: d → a = c ∧ b = d := by
      intro a
      induction a with
      | nil =>
        intro b c d ha hc h
        cases c with
        | nil => simp at h; exact ⟨rfl, h⟩
        | cons y c => simp at h; have := hc y (by simp); unfold isVal at this; omega
      | cons x a ih =>
        intro b c d ha hc h
        cases c with
        | nil => simp at h; have := ha x (by simp); unfold isVal at this; omega
        | cons y c =>
          simp at h
          obtain ⟨e1, e2⟩ := ih b c d (fun z hz => ha z (by simp [hz])) (fun z hz => hc z (by simp [hz])) h.2
          exact ⟨by rw [h.1, e1], e2⟩
    obtain ⟨e1, e2⟩ := key _ _ _ _ (vals_tys hT.p) (vals_tys hU.p) h1
    exact ⟨tysB_inj e1, tysB_inj e2⟩
  · rintro ⟨h1, h2⟩
    unfold Ty.text
    rw [h1, h2]
theorem pack_eq {t u : Ty} (hT : TyOk t) (hU : TyOk u) : packS t = packS u ↔ (t.p = u.p ∧ t.q = u.q) := by
  constructor
  · intro h
    unfold packS at h
    simp at h
    obtain ⟨h0, h1, h2, h3, h4, h5⟩ := h
    have ht4 := hT.np
    have hp : t.p = u.p := by
      apply tysB_inj
      apply List.ext_getElem?
      intro i
      by_cases hi : i < t.p.size
      · rw [tysB_get hi, tysB_get (by omega)]
        congr 1
        unfold pAt at h1 h2 h3 h4
        rcases (by omega : i = 0 ∨ i = 1 ∨ i = 2 ∨ i = 3) with e | e | e | e
        · subst e; rw [if_pos hi, if_pos (by omega)] at h1; exact h1
        · subst e; rw [if_pos hi, if_pos (by omega)] at h2; exact h2
        · subst e; rw [if_pos hi, if_pos (by omega)] at h3; exact h3
        · subst e; rw [if_pos hi, if_pos (by omega)] at h4; exact h4
      · rw [List.getElem?_eq_none (by rw [tysB_len]; omega), List.getElem?_eq_none (by rw [tysB_len]; omega)]
    refine ⟨hp, ?_⟩
    have hq1 := hT.nq
    have hq2 := hU.nq
    obtain ⟨a1, a2, _⟩ := resT_z hT
    obtain ⟨b1, b2, _⟩ := resT_z hU
    by_cases e : t.q.size = 0
    · have e2 : u.q.size = 0 := b1.1 (by rw [← h5]; exact a1.2 e)
      apply tysB_inj
      have l1 : (tysB t.q).length = 0 := by rw [tysB_len]; exact e
      have l2 : (tysB u.q).length = 0 := by rw [tysB_len]; exact e2
      rw [List.length_eq_zero_iff.1 l1, List.length_eq_zero_iff.1 l2]
    · have e2 : u.q.size ≠ 0 := fun e2 => e (a1.1 (by rw [h5]; exact b1.2 e2))
      apply tysB_inj
      apply List.ext_getElem?
      intro i
      by_cases hi : i < t.q.size
      · have i0 : i = 0 := by omega
        subst i0
        rw [tysB_get hi, tysB_get (by omega)]
        unfold resT at h5
        rw [if_neg e, if_neg e2] at h5
        rw [h5]
      · rw [List.getElem?_eq_none (by rw [tysB_len]; omega), List.getElem?_eq_none (by rw [tysB_len]; omega)]
  · rintro ⟨h1, h2⟩
    unfold packS resT
    rw [h1, h2]
theorem resV_first {t : Ty} (hT : TyOk t) : resV (firstV t.q) = resL t := by
  unfold resV firstV resL
  by_cases h : t.q.size = 0
  · rw [if_pos h, if_pos rfl, if_pos h]
  · have hv := hT.q 0 (by omega)
    rw [if_neg h, if_neg (isVal_ne hv), if_neg h]
section
variable {C : XC} {t0 : Ty} {q : MQ} {p : Nat × Xs} {r : MF} {rest : List MF} {k : Nat} {fn : Fn} {t : Ty} {cells : List Ins} {below : List Nat} {aw : List Nat}
/- the operands that a call takes -/
theorem split_args {l : List MV} {ts rs : List Nat} (h : (l.map MV.t).reverse = ts.reverse ++ rs) : ∃ l0 vs, l = l0 ++ vs ∧ vs.map MV.t = ts ∧ rs = (l0.map MV.t).reverse := by
  have h1 : l.map MV.t = rs.reverse ++ ts := by
    have := congrArg List.reverse h
    simpa using this
  have hl : l.length = rs.length + ts.length := by
    have := congrArg List.length h1
    simpa using this
  refine ⟨l.take rs.length, l.drop rs.length, (List.take_append_drop _ _).symm, ?_, ?_⟩
  · rw [List.map_drop, h1, List.drop_append]
    simp
  · rw [List.map_take, h1, List.take_append, List.take_of_length_le (by simp)]
    simp
/- a caller that waits, behind its call -/
theorem RelX.waits (h : RelX C t0 q p r rest k fn t cells below) (ho : (opAt fn r.pc).op = 16 ∨ (opAt fn r.pc).op = 17) {l0 : List MV} {tf : Ty} (hct : (vsAt C.M fn t (r.pc + 1)).ctl = (vsAt C.M fn t r.pc).ctl) (hop : (vsAt C.M fn t (r.pc + 1)).ops = resL tf ++ (l0.map MV.t).reverse) (hal : ∀ u, u ∈ r.loc ∨ u ∈ l0 → VOk u) :
    FrAt C.M fn t { r with pc := r.pc + 1, ops := l0 } k (resL tf) :=
  ⟨h.at_.f, h.nlt (by omega), fun f hf => by dsimp only at hf; rw [hct] at hf; exact h.at_.lv f hf, hop, by dsimp only; rw [h.at_.labs]; exact labsF_same (os_same (by omega)).symm, h.at_.loc, hal⟩
theorem RelX.call (h : RelX C t0 q p r rest k fn t cells below) (ho : (opAt fn r.pc).op = 16) (hA : AllF C) (hE : Env C p.2.ws p.2.S p.2.H) : Sim1 C t0 q p := by
  have hT := h.fz.tw
  obtain ⟨f, rr, hc, hf, hdd, hfl, hz, hops⟩ := h.vst
  have hx := h.opR.x
  unfold u32R at hx
  have hst := h.stepv (by omega)
  have hpl : plainV C.M t.p fn.locals (vsAt C.M fn t r.pc) (opAt fn r.pc) = callV C.M (vsAt C.M fn t r.pc) (opAt fn r.pc) := by unfold plainV; rw [if_pos (.inl ho)]
  rw [hpl] at hst
  unfold callV at hst
  rw [if_pos ho] at hst
  cases hty : C.M.typeOf (opAt fn r.pc).x with
  | none => rw [hty] at hst; have := (give_ty hst).1; simp at this
  | some tf =>
    rw [hty] at hst
    obtain ⟨g0, g1, g2, g3⟩ := give_ty hst
    dsimp only at g0 g1 g2 g3
    have hTf := typeOf_ok hT.hM hty
    obtain ⟨rs, e1, e2, e4⟩ := pops_ty (argsV tf.p) hc hf hdd (fun x hx => by rw [argsV_rev] at hx; exact vals_tys hTf.p x (by simpa using hx)) (typedV0 g0) hz
    rw [e2] at g1 g2
    dsimp only at g1 g2
    rw [argsV_rev, hops] at e1
    obtain ⟨l0, vs, hl, hvt, hr⟩ := split_args e1
    have hty2 : C.M.typeOf (((opAt fn r.pc).x.toNat : Nat) : Int) = some tf := by rw [Int.toNat_of_nonneg hx.1]; exact hty
    have hal : ∀ u, u ∈ r.loc ∨ u ∈ l0 → VOk u := fun u hu => h.at_.ok u (by rcases hu with hu | hu; exact .inl hu; exact .inr (by rw [hl]; exact List.mem_append_left _ hu))
    have hw := h.waits (.inl ho) (l0 := l0) (tf := tf) g1 (by rw [g2, hr, ← resV_first hTf]; rfl) hal
    have hl0 : rs.length = l0.length := by rw [hr]; simp
    have hpos := (hT.lay_plain h.at_.lt h.at_.lv (by omega)).2
    refine h.plain (by omega) (fun n hn => ?_)
    obtain ⟨m, h1, h2⟩ := call_both (n := n) (r1 := { r with pc := r.pc + 1 }) (q1 := ⟨{ r with pc := r.pc + 1 } :: rest, n, p.2.S, p.2.H⟩) (s1 := { p.2 with pc := p.2.pc + 1 }) (rest := rest) (below := below) hA hT.hM h.fz hty2 rfl hl hvt (fun v hv => h.at_.ok v (.inr (by rw [hl]; exact List.mem_append_right _ hv))) (by show r.floor ≤ _; rw [hfl, ← hl0]; exact e4) hw (by show p.2.ws = _; rw [h.ws, hl, bitsM_app, ← List.append_assoc]) h.base h.fn_ (by show p.2.pc + 1 = _; rw [h.pc]; exact hpos.symm) h.stk rfl rfl rfl h.gl2 hE
    refine ⟨m, ?_, ?_⟩
    · rw [← h1]
      unfold deedM
      dsimp only
      rw [if_neg (show ¬ (opAt fn r.pc).op = 0 by omega), if_neg (show ¬ (opAt fn r.pc).op = 1 by omega), if_neg (show ¬ (opAt fn r.pc).op = 4 by omega), if_neg (show ¬ (opAt fn r.pc).op = 12 by omega), if_neg (show ¬ (opAt fn r.pc).op = 13 by omega), if_neg (show ¬ (opAt fn r.pc).op = 14 by omega), if_neg (show ¬ (opAt fn r.pc).op = 15 by omega), if_pos ho]
    · have hco : coreX C { p.2 with pc := p.2.pc + 1 } (opAt fn r.pc) = enterX C p.2.ws (Xs.cur { p.2 with pc := p.2.pc + 1 } :: p.2.fr) (opAt fn r.pc).x.toNat p.2.S p.2.H := by
        unfold coreX
        rw [if_neg (show ¬ (opAt fn r.pc).op = 0 by omega), if_neg (show ¬ (opAt fn r.pc).op = 1 by omega), if_neg (show ¬ (opAt fn r.pc).op = 4 by omega), if_neg (show ¬ (opAt fn r.pc).op = 224 by omega), if_neg (show ¬ (opAt fn r.pc).op = 13 by omega), if_neg (show ¬ (opAt fn r.pc).op = 12 by omega), if_neg (show ¬ (opAt fn r.pc).op = 14 by omega), if_neg (show ¬ ((opAt fn r.pc).op = 15 ∨ (opAt fn r.pc).op = 11) by omega), if_pos ho]
      rw [hco]
      exact h2
theorem RelX.calli (h : RelX C t0 q p r rest k fn t cells below) (ho : (opAt fn r.pc).op = 17) (hA : AllF C) (hTy : ∀ j : Nat, j < C.M.imports.length + C.M.funcs.length → ∃ t, C.M.typeOf (j : Int) = some t) (hE : Env C p.2.ws p.2.S p.2.H) : Sim1 C t0 q p := by
  have hT := h.fz.tw
  obtain ⟨f, rr, hc, hf, hdd, hfl, hz, hops⟩ := h.vst
  have hx := h.opR.x
  unfold u32R at hx
  have hst := h.stepv (by omega)
  have hpl : plainV C.M t.p fn.locals (vsAt C.M fn t r.pc) (opAt fn r.pc) = callV C.M (vsAt C.M fn t r.pc) (opAt fn r.pc) := by unfold plainV; rw [if_pos (.inr ho)]
  rw [hpl] at hst
  unfold callV at hst
  rw [if_neg (by omega)] at hst
  by_cases htm : C.M.tabMin < 0
  · rw [if_pos htm] at hst; have := (give_ty hst).1; simp at this
  rw [if_neg htm] at hst
  cases hu : C.M.types[(opAt fn r.pc).x.toNat]? with
  | none => rw [hu] at hst; have := (give_ty hst).1; simp at this
  | some u =>
    rw [hu] at hst
    dsimp only at hst
    by_cases c0 : ¬ ((carryV (vsAt C.M fn t r.pc) 127).2 = true)
    · rw [if_neg c0] at hst; have := (give_ty hst).1; simp at this
    replace c0 := Classical.not_not.1 c0
    rw [if_pos c0] at hst
    obtain ⟨rs0, d1, d2, d4⟩ := carry_ty hc hf hdd (by unfold isVal; omega) c0 hz
    rw [d2] at hst
    obtain ⟨g0, g1, g2, g3⟩ := give_ty hst
    dsimp only at g0 g1 g2 g3
    have hTu : TyOk u := hT.hM.types u (List.mem_of_getElem? hu)
    have hz1 : ∀ x, x ∈ rs0 → x ≠ 0 := fun x hx => hz x (by rw [d1]; exact List.mem_cons_of_mem _ hx)
    obtain ⟨rs, e1, e2, e4⟩ := pops_ty (argsV u.p) (v := ⟨rs0, (vsAt C.M fn t r.pc).ctl⟩) hc d4 hdd (fun x hx => by rw [argsV_rev] at hx; exact vals_tys hTu.p x (by simpa using hx)) (typedV0 g0) hz1
    dsimp only at e1
    rw [e2] at g1 g2
    dsimp only at g1 g2
    obtain ⟨l1, v, hl1, hv, hr1, hrl1, hvok, hal1, hw1'⟩ := h.top1 d1
    rw [argsV_rev, hr1] at e1
    obtain ⟨l0, vs, hl, hvt, hr⟩ := split_args e1
    subst hl
    have hpop : popM { r with pc := r.pc + 1 } 127 = some (v, { r with pc := r.pc + 1, ops := l0 ++ vs }) := popM_snoc hl1 (by show r.floor ≤ _; rw [hfl, ← hrl1]; exact d4) (.inr hv)
    have hw1 := ws1 (s := { p.2 with pc := p.2.pc + 1 }) (by exact hw1')
    have hal : ∀ u, u ∈ r.loc ∨ u ∈ l0 → VOk u := fun u hu => hal1 u (by rcases hu with hu | hu; exact .inl hu; exact .inr (List.mem_append_left _ hu))
    have hl0 : rs.length = l0.length := by rw [hr]; simp
    have hpos := (hT.lay_plain h.at_.lt h.at_.lv (by omega)).2
    have hde0 : ∀ n, deedM C.num C.M fn ⟨{ r with pc := r.pc + 1 } :: rest, n, p.2.S, p.2.H⟩ (opAt fn r.pc) = if (elemS p.2.S (lo32 v.b)).2 ≠ 0 then some ((elemS p.2.S (lo32 v.b)).2, ⟨{ r with pc := r.pc + 1, ops := l0 ++ vs } :: rest, n, p.2.S, p.2.H⟩) else match C.M.typeOf (elemS p.2.S (lo32 v.b)).1 with | none => none | some t' => if t'.text = u.text then callM C.M ⟨{ r with pc := r.pc + 1, ops := l0 ++ vs } :: rest, n, p.2.S, p.2.H⟩ (elemS p.2.S (lo32 v.b)).1.toNat else some (44, ⟨{ r with pc := r.pc + 1, ops := l0 ++ vs } :: rest, n, p.2.S, p.2.H⟩) := fun n => by
      unfold deedM
      dsimp only
      rw [if_neg (show ¬ (opAt fn r.pc).op = 0 by omega), if_neg (show ¬ (opAt fn r.pc).op = 1 by omega), if_neg (show ¬ (opAt fn r.pc).op = 4 by omega), if_neg (show ¬ (opAt fn r.pc).op = 12 by omega), if_neg (show ¬ (opAt fn r.pc).op = 13 by omega), if_neg (show ¬ (opAt fn r.pc).op = 14 by omega), if_neg (show ¬ (opAt fn r.pc).op = 15 by omega), if_neg (show ¬ (opAt fn r.pc).op = 16 by omega), if_pos ho, hpop]
      dsimp only
      rw [hu]
      rfl
    have hco0 : coreX C { p.2 with pc := p.2.pc + 1 } (opAt fn r.pc) = if (elemS p.2.S (lo32 v.b)).2 ≠ 0 then trapX { p.2 with pc := p.2.pc + 1 } (elemS p.2.S (lo32 v.b)).2 else match C.M.typeOf (elemS p.2.S (lo32 v.b)).1, C.M.types[(opAt fn r.pc).x.toNat]? with | some t, some u => if packS t ≠ packS u then trapX { p.2 with pc := p.2.pc + 1 } 44 else enterX C (below ++ bitsM r.loc ++ bitsM (l0 ++ vs)) (Xs.cur { p.2 with pc := p.2.pc + 1 } :: p.2.fr) (elemS p.2.S (lo32 v.b)).1.toNat p.2.S p.2.H | _, _ => trapX { p.2 with pc := p.2.pc + 1 } 44 := by
      unfold coreX
      rw [if_neg (show ¬ (opAt fn r.pc).op = 0 by omega), if_neg (show ¬ (opAt fn r.pc).op = 1 by omega), if_neg (show ¬ (opAt fn r.pc).op = 4 by omega), if_neg (show ¬ (opAt fn r.pc).op = 224 by omega), if_neg (show ¬ (opAt fn r.pc).op = 13 by omega), if_neg (show ¬ (opAt fn r.pc).op = 12 by omega), if_neg (show ¬ (opAt fn r.pc).op = 14 by omega), if_neg (show ¬ ((opAt fn r.pc).op = 15 ∨ (opAt fn r.pc).op = 11) by omega), if_neg (show ¬ (opAt fn r.pc).op = 16 by omega), if_pos ho, hw1.1, hw1.2.1]
      dsimp only
      cases C.M.typeOf (elemS p.2.S (lo32 v.b)).1 <;> cases C.M.types[(opAt fn r.pc).x.toNat]? <;> rfl
    refine h.plain (by omega) (fun n hn => ?_)
    rw [hde0, hco0]
    by_cases hee : (elemS p.2.S (lo32 v.b)).2 ≠ 0
    · rw [if_pos hee, if_pos hee]
      exact ⟨_, rfl, h.traps (s := { p.2 with pc := p.2.pc + 1 }) hee rfl rfl rfl rfl⟩
    rw [if_neg hee, if_neg hee]
    have hrg : 0 ≤ (elemS p.2.S (lo32 v.b)).1 ∧ (elemS p.2.S (lo32 v.b)).1 < ((C.M.imports.length + C.M.funcs.length : Nat) : Int) := by
      unfold elemS at hee ⊢
      cases ht : p.2.S.tab[lo32 v.b]? with
      | none => rw [ht] at hee; simp at hee
      | some x =>
        rw [ht] at hee
        dsimp only at hee ⊢
        by_cases h0 : x < 0
        · rw [if_pos h0] at hee; simp at hee
        · rw [if_neg h0]
          exact ⟨by dsimp only; omega, hE.tab x (List.mem_of_getElem? ht)⟩
    obtain ⟨e, he⟩ : ∃ e : Nat, (elemS p.2.S (lo32 v.b)).1 = (e : Int) := ⟨(elemS p.2.S (lo32 v.b)).1.toNat, by omega⟩
    obtain ⟨tf, hty⟩ := hTy e (by omega)
    have hTf := typeOf_ok hT.hM hty
    rw [he, hty, hu]
    dsimp only
    by_cases hpk : packS tf = packS u
    · obtain ⟨q1, q2⟩ := (pack_eq hTf hTu).1 hpk
      rw [if_pos ((text_eq hTf hTu).2 ⟨q1, q2⟩), if_neg (by simp [hpk])]
      have hw := h.waits (.inr ho) (l0 := l0) (tf := tf) g1 (by rw [g2, hr, ← resV_first hTf, q2]; rfl) hal
      have hWs : below ++ bitsM r.loc ++ bitsM (l0 ++ vs) = below ++ bitsM r.loc ++ bitsM l0 ++ bitsM vs := by rw [bitsM_app, ← List.append_assoc]
      rw [show ((e : Int)).toNat = e from rfl]
      exact call_both (n := n) (r1 := { r with pc := r.pc + 1, ops := l0 ++ vs }) (q1 := ⟨{ r with pc := r.pc + 1, ops := l0 ++ vs } :: rest, n, p.2.S, p.2.H⟩) (s1 := { p.2 with pc := p.2.pc + 1, ws := below ++ bitsM r.loc ++ bitsM (l0 ++ vs) }) (rest := rest) (below := below) hA hT.hM h.fz hty rfl rfl (by rw [hvt, q1]) (fun v hv => hal1 v (.inr (List.mem_append_right _ hv))) (by show r.floor ≤ _; rw [hfl, ← hl0]; exact e4) hw hWs h.base h.fn_ (by show p.2.pc + 1 = _; rw [h.pc]; exact hpos.symm) h.stk rfl rfl rfl h.gl2 ⟨fun x hx => hE.wd x (by rw [hw1']; exact List.mem_append_left _ hx), hE.sm, hE.hm, hE.tab, hE.bd⟩
    · rw [if_neg (fun e => hpk ((pack_eq hTf hTu).2 ((text_eq hTf hTu).1 e))), if_pos hpk]
      exact ⟨_, rfl, h.traps (s := { p.2 with pc := p.2.pc + 1 }) (by omega) rfl rfl rfl rfl⟩
/- EVERY INSTRUCTION -/
theorem RelX.sim (h : RelX C t0 q p r rest k fn t cells below) (hA : AllF C) (hN : NumX C.num) (hL : LdOk) (hTy : ∀ j : Nat, j < C.M.imports.length + C.M.funcs.length → ∃ t, C.M.typeOf (j : Int) = some t) (hE : Env C p.2.ws p.2.S p.2.H) : Sim1 C t0 q p := by
  have hop := h.opR.op
  unfold opOk at hop
  by_cases c0 : (opAt fn r.pc).op = 0
  · exact h.unr c0
  by_cases c1 : (opAt fn r.pc).op = 1
  · exact h.nop c1
  by_cases c2 : (opAt fn r.pc).op = 2 ∨ (opAt fn r.pc).op = 3
  · exact h.open_ c2
  by_cases c4 : (opAt fn r.pc).op = 4
  · exact h.if_ c4
  by_cases c5 : (opAt fn r.pc).op = 5
  · exact h.else_ c5
  by_cases c11 : (opAt fn r.pc).op = 11
  · have hpos := h.fz.tw.os_pos h.at_.lt
    by_cases hl : (osAt fn r.pc).length = 1
    · exact h.last_ c11 hl
    · exact h.end_ c11 (by omega)
  by_cases c12 : (opAt fn r.pc).op = 12
  · exact h.br c12
  by_cases c13 : (opAt fn r.pc).op = 13
  · exact h.brif c13
  by_cases c14 : (opAt fn r.pc).op = 14
  · exact h.table c14
  by_cases c15 : (opAt fn r.pc).op = 15
  · exact h.ret c15
  by_cases c16 : (opAt fn r.pc).op = 16
  · exact h.call c16 hA hE
  by_cases c17 : (opAt fn r.pc).op = 17
  · exact h.calli c17 hA hTy hE
  by_cases c26 : (opAt fn r.pc).op = 26
  · exact h.drop c26
  by_cases c27 : (opAt fn r.pc).op = 27
  · exact h.sel c27
  by_cases c32 : (opAt fn r.pc).op = 32
  · exact h.lget c32
  by_cases c33 : (opAt fn r.pc).op = 33
  · exact h.lset c33
  by_cases c34 : (opAt fn r.pc).op = 34
  · exact h.ltee c34
  by_cases c35 : (opAt fn r.pc).op = 35
  · exact h.gget c35 hE
  by_cases c36 : (opAt fn r.pc).op = 36
  · exact h.gset c36 hE
  by_cases c53 : 40 ≤ (opAt fn r.pc).op ∧ (opAt fn r.pc).op ≤ 53
  · exact h.load c53 hL hE
  by_cases c62 : 54 ≤ (opAt fn r.pc).op ∧ (opAt fn r.pc).op ≤ 62
  · exact h.store c62
  by_cases c63 : (opAt fn r.pc).op = 63
  · exact h.msize c63 hE
  by_cases c64 : (opAt fn r.pc).op = 64
  · exact h.mgrow c64 hE
  by_cases c68 : 65 ≤ (opAt fn r.pc).op ∧ (opAt fn r.pc).op ≤ 68
  · exact h.const c68
  by_cases c69 : (opAt fn r.pc).op = 69
  · exact h.eqz c69 (by rw [c69]; decide) hN
  by_cases c106 : (opAt fn r.pc).op = 106
  · exact h.add c106 (by rw [c106]; decide) hN
  cases htw : twoS (opAt fn r.pc).op
  · exact h.num1 (by omega) c69 c106 htw hN
  · exact h.num2 (by omega) c69 c106 htw hN
/- THE WHOLE RUN -/
theorem RelE.len {q : MQ} {p : Nat × Xs} (h : RelE C t0 q p) : 1 < q.fr.length := by
  obtain ⟨r, rest, k, fn, t, cells, below, h⟩ := h
  have := h.stk.ne.1
  rw [h.fr]
  cases rest with
  | nil => exact absurd rfl this
  | cons a b => simp
theorem iterM_go {n : Nat} {q : MQ} {m : Nat × MQ} (hl : 1 < q.fr.length) (hs : stepM C.num C.M q = some m) : iterM C.num C.M (n + 1) (0, q) = iterM C.num C.M n m := by
  rw [iterM, if_neg (by simp; omega), hs]
theorem iterM_reach {n : Nat} {q : MQ} {m m' : Nat × MQ} (hl : 1 < q.fr.length) (hr : ReachM C q m) (h : iterM C.num C.M n m = some m') : ∃ n', iterM C.num C.M n' (0, q) = some m' := by
  rcases hr with hr | ⟨q1, h1, h2, h3, _⟩
  · exact ⟨n + 1, by rw [iterM_go hl hr]; exact h⟩
  · exact ⟨n + 1 + 1, by rw [iterM_go hl h1, iterM_go h2 h3]; exact h⟩
theorem RdX.stop {R : Nat × Xe} {m : Nat × MQ} (h : RdX C t0 R m) : iterM C.num C.M 0 m = some m := by
  rw [iterM, if_pos]
  by_cases e : m.1 ≠ 0
  · exact .inl e
  · right
    obtain ⟨root, h1, _⟩ := h.ok (by rw [← h.e]; omega)
    rw [h1]
    simp
theorem sim_run (hK : CodeOk C) (hA : AllF C) (hN : NumX C.num) (hL : LdOk) (hTy : ∀ j : Nat, j < C.M.imports.length + C.M.funcs.length → ∃ t, C.M.typeOf (j : Int) = some t) (R : Nat × Xe) : ∀ (d n : Nat) (q : MQ) (p : Nat × Xs), muM C.M q ≤ d → RelE C t0 q p → Gd C p.2 → iterX C n p = some R → ∃ n' m, iterM C.num C.M n' (0, q) = some m ∧ RdX C t0 R m := by
  intro d n
  induction n using Nat.strongRecOn generalizing d with
  | ind n ihn =>
    induction d with
    | zero =>
      intro q p hd hR hG hi
      have hlen := hR.len
      obtain ⟨r, rest, k, fn, t, cells, below, h⟩ := hR
      rcases h.sim hA hN hL hTy hG.env with ⟨X, m, hX, hM, hP⟩ | ⟨q', hs, hR', hmu⟩
      · cases n with
        | zero => simp [iterX] at hi
        | succ n =>
          rw [iterX] at hi
          rcases hX with hX | ⟨p1, hX1, hX2⟩
          · rw [hX] at hi
            cases X with
            | error e =>
              simp at hi
              subst hi
              obtain ⟨n', h1⟩ := iterM_reach hlen hM (RdX.stop hP)
              exact ⟨n', m, h1, hP⟩
            | ok p' =>
              obtain ⟨m1, m2⟩ := m
              obtain ⟨e0, hR'⟩ := hP
              dsimp only at e0 hR' hi
              subst e0
              obtain ⟨n', m', h1, h2⟩ := ihn n (by omega) _ m2 p' (Nat.le_refl _) hR' (hG.step (s' := p'.2) (m := p'.1) (n := p.1) hK (by rw [← hX])) hi
              obtain ⟨n'', h3⟩ := iterM_reach hlen hM h1
              exact ⟨n'', m', h3, h2⟩
          · rw [hX1] at hi
            dsimp only at hi
            have hG1 : Gd C p1.2 := hG.step (s' := p1.2) (m := p1.1) (n := p.1) hK (by rw [← hX1])
            cases n with
            | zero => simp [iterX] at hi
            | succ n =>
              rw [iterX, hX2] at hi
              cases X with
              | error e =>
                simp at hi
                subst hi
                obtain ⟨n', h1⟩ := iterM_reach hlen hM (RdX.stop hP)
                exact ⟨n', m, h1, hP⟩
              | ok p' =>
                obtain ⟨m1, m2⟩ := m
                obtain ⟨e0, hR'⟩ := hP
                dsimp only at e0 hR' hi
                subst e0
                obtain ⟨n', m', h1, h2⟩ := ihn n (by omega) _ m2 p' (Nat.le_refl _) hR' (hG1.step (s' := p'.2) (m := p'.1) (n := p1.1) hK (by rw [← hX2])) hi
                obtain ⟨n'', h3⟩ := iterM_reach hlen hM h1
                exact ⟨n'', m', h3, h2⟩
      · omega
    | succ d ihd =>
      intro q p hd hR hG hi
      have hlen := hR.len
      obtain ⟨r, rest, k, fn, t, cells, below, h⟩ := hR
      rcases h.sim hA hN hL hTy hG.env with ⟨X, m, hX, hM, hP⟩ | ⟨q', hs, hR', hmu⟩
      · cases n with
        | zero => simp [iterX] at hi
        | succ n =>
          rw [iterX] at hi
          rcases hX with hX | ⟨p1, hX1, hX2⟩
          · rw [hX] at hi
            cases X with
            | error e =>
              simp at hi
              subst hi
              obtain ⟨n', h1⟩ := iterM_reach hlen hM (RdX.stop hP)
              exact ⟨n', m, h1, hP⟩
            | ok p' =>
              obtain ⟨m1, m2⟩ := m
              obtain ⟨e0, hR'⟩ := hP
              dsimp only at e0 hR' hi
              subst e0
              obtain ⟨n', m', h1, h2⟩ := ihn n (by omega) _ m2 p' (Nat.le_refl _) hR' (hG.step (s' := p'.2) (m := p'.1) (n := p.1) hK (by rw [← hX])) hi
              obtain ⟨n'', h3⟩ := iterM_reach hlen hM h1
              exact ⟨n'', m', h3, h2⟩
          · rw [hX1] at hi
            dsimp only at hi
            have hG1 : Gd C p1.2 := hG.step (s' := p1.2) (m := p1.1) (n := p.1) hK (by rw [← hX1])
            cases n with
            | zero => simp [iterX] at hi
            | succ n =>
              rw [iterX, hX2] at hi
              cases X with
              | error e =>
                simp at hi
                subst hi
                obtain ⟨n', h1⟩ := iterM_reach hlen hM (RdX.stop hP)
                exact ⟨n', m, h1, hP⟩
              | ok p' =>
                obtain ⟨m1, m2⟩ := m
                obtain ⟨e0, hR'⟩ := hP
                dsimp only at e0 hR' hi
                subst e0
                obtain ⟨n', m', h1, h2⟩ := ihn n (by omega) _ m2 p' (Nat.le_refl _) hR' (hG1.step (s' := p'.2) (m := p'.1) (n := p1.1) hK (by rw [← hX2])) hi
                obtain ⟨n'', h3⟩ := iterM_reach hlen hM h1
                exact ⟨n'', m', h3, h2⟩
      · obtain ⟨n', m', h1, h2⟩ := ihd q' p (by omega) hR' hG hi
        exact ⟨n' + 1, m', by rw [iterM_go hlen hs]; exact h1, h2⟩
end
end Go.Proofs.Qxb6500275aGreatDoor
