import Derived.Test.Qxb6500275aGreatDoorXzj
set_option linter.unusedVariables false
set_option linter.unusedSimpArgs false
set_option maxRecDepth 100000
namespace Go.Proofs.Qxb6500275aGreatDoor
open Go Go.RowKit
/- the outermost frame's function -/
def botX (fn : Nat) : List Fr → Nat
  | [] => fn
  | c :: cs => botX c.fn cs
section
variable {C : XC} {s s' : Xs} {c : Ins} {ff : FF} {ks : List Nat} {h : Nat} {r : Xe}
theorem enter_bot {ws : List Nat} {cr : Fr} {cs : List Fr} {f : Nat} {S : Sm} {H : Hm} (hr : enterX C ws (cr :: cs) f S H = .ok s') : botX s'.fn s'.fr = botX cr.fn cs := by
  unfold enterX at hr
  rcases iteC hr with ⟨_, hr⟩ | ⟨_, hr⟩
  · split at hr
    · simp at hr
    · dsimp only at hr
      rcases iteC hr with ⟨_, hr⟩ | ⟨_, hr⟩
      · simp at hr
      · simp at hr; subst hr; rfl
  · rcases iteC hr with ⟨_, hr⟩ | ⟨_, hr⟩
    · simp at hr
    · split at hr
      · simp at hr
      · simp at hr; subst hr; rfl
theorem core_bot (hr : coreX C s c = .ok s') : botX s'.fn s'.fr = botX s.fn s.fr := by
  unfold coreX at hr
  rcases iteC hr with ⟨_, hr⟩ | ⟨_, hr⟩
  · unfold trapX at hr; simp at hr
  iterate 3
    rcases iteC hr with ⟨_, hr⟩ | ⟨_, hr⟩
    · simp at hr; subst hr; rfl
  rcases iteC hr with ⟨_, hr⟩ | ⟨_, hr⟩
  · simp only [Except.ok.injEq] at hr; subst hr; split <;> rfl
  rcases iteC hr with ⟨_, hr⟩ | ⟨_, hr⟩
  · simp only [Except.ok.injEq] at hr; subst hr; rfl
  rcases iteC hr with ⟨_, hr⟩ | ⟨_, hr⟩
  · simp only [Except.ok.injEq] at hr; subst hr; rfl
  rcases iteC hr with ⟨_, hr⟩ | ⟨_, hr⟩
  · unfold leaveX at hr
    dsimp only at hr
    cases hfr : s.fr with
    | nil => rw [hfr] at hr; simp at hr
    | cons a b => rw [hfr] at hr; simp only [Except.ok.injEq] at hr; subst hr; rfl
  rcases iteC hr with ⟨_, hr⟩ | ⟨_, hr⟩
  · exact enter_bot hr
  rcases iteC hr with ⟨_, hr⟩ | ⟨_, hr⟩
  · rcases iteC hr with ⟨_, hr⟩ | ⟨_, hr⟩
    · unfold trapX at hr; simp at hr
    · split at hr
      · rcases iteC hr with ⟨_, hr⟩ | ⟨_, hr⟩
        · unfold trapX at hr; simp at hr
        · exact enter_bot hr
      · unfold trapX at hr; simp at hr
  iterate 12
    rcases iteC hr with ⟨_, hr⟩ | ⟨_, hr⟩
    · simp only [Except.ok.injEq] at hr; subst hr; rfl
  rcases iteC hr with ⟨_, hr⟩ | ⟨_, hr⟩
  · split at hr
    · unfold trapX at hr; simp at hr
    · simp only [Except.ok.injEq] at hr; subst hr; rfl
  rcases iteC hr with ⟨_, hr⟩ | ⟨_, hr⟩
  · split at hr
    · unfold trapX at hr; simp at hr
    · simp only [Except.ok.injEq] at hr; subst hr; rfl
  rcases iteC hr with ⟨_, hr⟩ | ⟨_, hr⟩
  · rcases iteC hr with ⟨h0, hr⟩ | ⟨_, hr⟩
    · unfold trapX at hr; simp at hr
    · simp only [Except.ok.injEq] at hr; subst hr; rfl
  · rcases iteC hr with ⟨h0, hr⟩ | ⟨_, hr⟩
    · unfold trapX at hr; simp at hr
    · simp only [Except.ok.injEq] at hr; subst hr; rfl
/- how it ends -/
theorem Env.nil {ws : List Nat} {S : Sm} {H : Hm} (h : Env C ws S H) : Env C [] S H := ⟨fun v hv => by simp at hv, h.sm, h.hm, h.tab, h.bd⟩
theorem enter_fin {ws : List Nat} {cur : List Fr} {f : Nat} {t : Ty} {S : Sm} {H : Hm} (hK : CodeOk C) (hty : C.M.typeOf (f : Int) = some t) (he : Env C ws S H) (hp : t.p.size ≤ ws.length) (hr : enterX C ws cur f S H = .error r) :
    Env C r.out r.S r.H ∧ (r.e = 0 → cur = [] ∧ r.out.length = ws.length - t.p.size + t.q.size) := by
  have hT := typeOf_ok hK.mod hty
  have hq := hT.nq
  have hnp := hT.np
  have hm := he.sm.m
  have hni := hK.mod.ni
  unfold enterX at hr
  rcases iteC hr with ⟨hi, hr⟩ | ⟨hi, hr⟩
  · rw [hty] at hr
    dsimp only at hr
    have hdl : (ws.drop (ws.length - t.p.size)).length ≤ 4 := by rw [List.length_drop]; omega
    have hE : Env C (ws.take (ws.length - t.p.size)) S (callH H f (ws.drop (ws.length - t.p.size)) (resT t) (S.bs.length / 64)).2.2 :=
      ⟨fun v hv => he.wd v (List.mem_of_mem_take hv), he.sm, callH_ok he.hm (by omega) hdl _ _, he.tab, by rw [callH_bd]; exact he.bd⟩
    rcases iteC hr with ⟨h0, hr⟩ | ⟨h0, hr⟩
    · simp only [Except.error.injEq] at hr
      subst hr
      exact ⟨hE.nil, fun e => absurd e h0⟩
    cases cur with
    | cons a b => simp at hr
    | nil =>
      simp only [Except.error.injEq] at hr
      subst hr
      have hres := resT_0 hT
      refine ⟨?_, fun _ => ⟨rfl, ?_⟩⟩
      · dsimp only
        by_cases hz : resT t = 0
        · rw [if_pos hz]; simp; exact hE
        · rw [if_neg hz]; exact hE.app (callH_w he.hm (by omega) hdl _ _ (by omega))
      · dsimp only
        by_cases hz : t.q.size = 0
        · rw [if_pos (hres.2 hz), List.append_nil, List.length_take, hz]; omega
        · rw [if_neg (fun e => hz (hres.1 e)), List.length_append, List.length_take, List.length_singleton]; omega
  · rcases iteC hr with ⟨_, hr⟩ | ⟨h6, hr⟩
    · simp only [Except.error.injEq] at hr
      subst hr
      exact ⟨he.nil, fun e => by simp at e⟩
    cases hf : C.fs[f - C.M.imports.length]? with
    | some ff => rw [hf] at hr; simp at hr
    | none =>
      have h1 := (typeOf_range hty).2
      have h2 := hK.n
      rw [List.getElem?_eq_none_iff] at hf
      omega
theorem trap_fin {e : Nat} {s : Xs} (he : Env C s.ws s.S s.H) (h0 : e ≠ 0) (hr : trapX s e = .error r) {P : Prop} : Env C r.out r.S r.H ∧ (r.e = 0 → P) := by
  unfold trapX at hr
  simp only [Except.error.injEq] at hr
  subst hr
  exact ⟨he.nil, fun e => absurd e h0⟩
theorem core_fin (hK : CodeOk C) (hc : Cur C s.ws s.fn s.pc s.base ff ks h) (hch : ChX C s.fr ff.results s.base) (he : Env C s.ws s.S s.H)
    (hj : CJ C.M ff.locals ff.results (Ato (Ins.zero :: ff.cells) ks) (Ent (Ins.zero :: ff.cells) ks) [] (s.pc + 1) c h) (hr : coreX C { s with pc := s.pc + 1 } c = .error r) :
    Env C r.out r.S r.H ∧ (r.e = 0 → s.fr = [] ∧ r.out.length = ff.results) := by
  have hlen := hc.len
  have hle := hc.ft.le
  have hff : ∀ (ws : List Nat) (pc : Nat), ffX C { s with ws := ws, pc := pc } = ff := fun ws pc => by unfold ffX; rw [List.getD_eq_getElem?_getD, hc.fh.at_]; rfl
  have hff0 : ffX C { s with pc := s.pc + 1 } = ff := hff s.ws (s.pc + 1)
  have htw : Xs.topW { s with pc := s.pc + 1 } < 18446744073709551616 := he.getD _
  have hlv : ∀ r, leaveX C { s with pc := s.pc + 1 } = .error r → Env C r.out r.S r.H ∧ (r.e = 0 → s.fr = [] ∧ r.out.length = ff.results) := fun r hr => by
    unfold leaveX at hr
    rw [hff0] at hr
    dsimp only at hr
    generalize Xs.topW { s with pc := s.pc + 1 } = tw at htw hr
    cases hfr : s.fr with
    | cons a b => rw [hfr] at hr; simp at hr
    | nil =>
      rw [hfr] at hr hch
      have hb : s.base = 0 := hch
      simp only [Except.error.injEq] at hr
      subst hr
      have hE := he.take s.base
      refine ⟨?_, fun _ => ⟨rfl, ?_⟩⟩
      · dsimp only
        by_cases hz : ff.results = 1
        · rw [if_pos hz]; exact hE.app htw
        · rw [if_neg hz]; simp; exact hE
      · dsimp only
        rw [hb]
        by_cases hz : ff.results = 1
        · rw [if_pos hz]; simp; omega
        · rw [if_neg hz]; simp; omega
  unfold coreX at hr
  rcases iteC hr with ⟨e, hr⟩ | ⟨n0, hr⟩
  · exact trap_fin he (by decide) hr
  iterate 6
    rcases iteC hr with ⟨_, hr⟩ | ⟨_, hr⟩
    · simp at hr
  rcases iteC hr with ⟨e, hr⟩ | ⟨nl, hr⟩
  · exact hlv r hr
  rcases iteC hr with ⟨e, hr⟩ | ⟨n16, hr⟩
  · obtain ⟨hi, take, give, hef, h1, h2, _⟩ := hj.plain (by omega)
    have hx0 := hi.x.1
    unfold effectP at hef
    rw [if_neg (by omega), if_neg (by omega), if_neg (by omega), if_neg (by omega), if_neg (by omega), if_pos e] at hef
    cases ht : C.M.typeOf c.x with
    | none => rw [ht] at hef; simp at hef
    | some t =>
      rw [ht] at hef
      simp at hef
      have ht' : C.M.typeOf ((c.x.toNat : Nat) : Int) = some t := by rw [Int.toNat_of_nonneg hx0]; exact ht
      obtain ⟨g1, g2⟩ := enter_fin hK ht' he (by omega) hr
      exact ⟨g1, fun e => by have := (g2 e).1; simp at this⟩
  rcases iteC hr with ⟨e, hr⟩ | ⟨n17, hr⟩
  · obtain ⟨hi, take, give, hef, h1, h2, _⟩ := hj.plain (by omega)
    unfold effectP at hef
    rw [if_neg (by omega), if_neg (by omega), if_neg (by omega), if_neg (by omega), if_neg (by omega), if_neg (by omega), if_pos e] at hef
    rcases iteC hr with ⟨h0, hr⟩ | ⟨hel, hr⟩
    · exact trap_fin he h0 hr
    split at hr
    · rename_i t u ht hu
      rcases iteC hr with ⟨_, hr⟩ | ⟨hpk, hr⟩
      · exact trap_fin he (by decide) hr
      rw [hu] at hef
      simp at hef
      have hpe : packS t = packS u := Classical.byContradiction hpk
      obtain ⟨q1, q2⟩ := packS_eq hpe
      have hnn := (typeOf_range ht).1
      rw [← Int.toNat_of_nonneg hnn] at ht
      obtain ⟨g1, g2⟩ := enter_fin hK ht (he.take _) (by simp; omega) hr
      exact ⟨g1, fun e => by have := (g2 e).1; simp at this⟩
    · exact trap_fin he (by decide) hr
  iterate 12
    rcases iteC hr with ⟨_, hr⟩ | ⟨_, hr⟩
    · simp at hr
  rcases iteC hr with ⟨_, hr⟩ | ⟨_, hr⟩
  · split at hr
    · exact trap_fin he (by decide) hr
    · simp at hr
  rcases iteC hr with ⟨_, hr⟩ | ⟨_, hr⟩
  · split at hr
    · exact trap_fin he (by decide) hr
    · simp at hr
  have hN : ∀ o x y, (C.num o x y).2 ≠ 0 → (C.num o x y).2.toNat ≠ 0 := fun o x y h => by
    have := (hK.num.r o x y).2
    omega
  rcases iteC hr with ⟨_, hr⟩ | ⟨_, hr⟩
  · rcases iteC hr with ⟨h0, hr⟩ | ⟨_, hr⟩
    · exact trap_fin he (hN _ _ _ h0) hr
    · simp at hr
  · rcases iteC hr with ⟨h0, hr⟩ | ⟨_, hr⟩
    · exact trap_fin he (hN _ _ _ h0) hr
    · simp at hr
def resB (C : XC) (k : Nat) : Nat := (C.fs.getD k ⟨0, 0, 0, []⟩).results
theorem step_fin (hK : CodeOk C) {n m : Nat} (hg : Gd C s) (hs : stepX C (n, s) = .error (m, r)) : Env C r.out r.S r.H ∧ (r.e = 0 → r.out.length = resB C (botX s.fn s.fr)) := by
  obtain ⟨ff, ks, hh, hc, hch⟩ := hg.cur
  obtain ⟨c, h1, h2, h3, h4, h5⟩ := hc.cell
  unfold stepX at hs
  dsimp only at hs
  rw [h2] at hs
  have key : ∀ q, coreX C { s with pc := s.pc + 1 } c = .error q → Env C q.out q.S q.H ∧ (q.e = 0 → q.out.length = resB C (botX s.fn s.fr)) := fun q hq => by
    obtain ⟨g1, g2⟩ := core_fin hK hc hch hg.env h5 hq
    refine ⟨g1, fun e => ?_⟩
    obtain ⟨g3, g4⟩ := g2 e
    rw [g3, g4, botX, resB, List.getD_eq_getElem?_getD, hc.fh.at_]
    rfl
  rcases iteC hs with ⟨_, hs⟩ | ⟨_, hs⟩
  · cases hq : coreX C { s with pc := s.pc + 1 } c with
    | ok q => rw [hq] at hs; simp at hs
    | error q => rw [hq] at hs; simp only [Except.error.injEq, Prod.mk.injEq] at hs; rw [← hs.2]; exact key q hq
  · rcases iteC hs with ⟨_, hs⟩ | ⟨_, hs⟩
    · simp only [Except.error.injEq, Prod.mk.injEq] at hs
      rw [← hs.2]
      exact ⟨hg.env.nil, fun e => by simp at e⟩
    · cases hq : coreX C { s with pc := s.pc + 1 } c with
      | ok q => rw [hq] at hs; simp at hs
      | error q => rw [hq] at hs; simp only [Except.error.injEq, Prod.mk.injEq] at hs; rw [← hs.2]; exact key q hq
theorem step_bot {n m : Nat} (hs : stepX C (n, s) = .ok (m, s')) : botX s'.fn s'.fr = botX s.fn s.fr := by
  have key : ∀ q, coreX C { s with pc := s.pc + 1 } (cellX C s) = .ok q → botX q.fn q.fr = botX s.fn s.fr := by
    intro q hq
    have := core_bot (C := C) (s := { s with pc := s.pc + 1 }) (c := cellX C s) (s' := q) hq
    exact this
  unfold stepX at hs
  dsimp only at hs
  rcases iteC hs with ⟨_, hs⟩ | ⟨_, hs⟩
  · cases hq : coreX C { s with pc := s.pc + 1 } (cellX C s) with
    | error q => rw [hq] at hs; simp at hs
    | ok q => rw [hq] at hs; simp only [Except.ok.injEq, Prod.mk.injEq] at hs; rw [← hs.2]; exact key q hq
  · rcases iteC hs with ⟨_, hs⟩ | ⟨_, hs⟩
    · simp at hs
    · cases hq : coreX C { s with pc := s.pc + 1 } (cellX C s) with
      | error q => rw [hq] at hs; simp at hs
      | ok q => rw [hq] at hs; simp only [Except.ok.injEq, Prod.mk.injEq] at hs; rw [← hs.2]; exact key q hq
theorem Ends.fin (hK : CodeOk C) {n m : Nat} (hg : Gd C s) (h : Ends C (n, s) (m, r)) : Env C r.out r.S r.H ∧ (r.e = 0 → r.out.length = resB C (botX s.fn s.fr)) := by
  obtain ⟨k, h⟩ := h
  induction k generalizing n s with
  | zero => simp [iterX] at h
  | succ k ih =>
    rw [iterX] at h
    cases hs : stepX C (n, s) with
    | error e =>
      rw [hs] at h
      simp at h
      subst h
      exact step_fin hK hg hs
    | ok q =>
      obtain ⟨m', s'⟩ := q
      rw [hs] at h
      have := ih (hg.step hK hs) h
      rw [step_bot hs] at this
      exact this
/- A RUN, as a relation -/
def RunR (C : XC) (fuel f : Nat) (ws : List Nat) (S : Sm) (H : Hm) (R : Nat × Xe) : Prop := match enterX C ws [] f S H with
  | .error r => R = (fuel, r)
  | .ok s => Ends C (fuel, s) R
theorem RunR.det {fuel f : Nat} {ws : List Nat} {S : Sm} {H : Hm} {R R' : Nat × Xe} (h : RunR C fuel f ws S H R) (h' : RunR C fuel f ws S H R') : R = R' := by
  unfold RunR at h h'
  cases he : enterX C ws [] f S H with
  | error r => rw [he] at h h'; dsimp only at h h'; rw [h, h']
  | ok s => rw [he] at h h'; exact Ends.det h h'
variable {fuel f : Nat} {ws : List Nat} {S : Sm} {H : Hm} {t : Ty} {R : Nat × Xe}
theorem enter_gd (hK : CodeOk C) (hty : C.M.typeOf (f : Int) = some t) (he : Env C ws S H) (hwl : ws.length = t.p.size) (hr : enterX C ws [] f S H = .ok s) : Gd C s := enter_good hK hty he (by omega) (by simp) hwl hr
theorem RunR.goes (hK : CodeOk C) (hty : C.M.typeOf (f : Int) = some t) (he : Env C ws S H) (hwl : ws.length = t.p.size) (h : RunR C fuel f ws S H R) : ∃ m, Goes C R m fuel (enterX C ws [] f S H) := by
  unfold RunR at h
  unfold Goes
  cases hx : enterX C ws [] f S H with
  | error r => rw [hx] at h; exact ⟨0, h⟩
  | ok s => rw [hx] at h; obtain ⟨m, h⟩ := h; exact ⟨m, h, enter_gd hK hty he hwl hx⟩
theorem RunR.total (hK : CodeOk C) (hty : C.M.typeOf (f : Int) = some t) (he : Env C ws S H) (hwl : ws.length = t.p.size) (fuel : Nat) : ∃ R, RunR C fuel f ws S H R := by
  unfold RunR
  cases hx : enterX C ws [] f S H with
  | error r => exact ⟨_, rfl⟩
  | ok s => exact (enter_gd hK hty he hwl hx).ends hK fuel
theorem enter_resB (hK : CodeOk C) (hty : C.M.typeOf (f : Int) = some t) (hr : enterX C ws [] f S H = .ok s) : resB C (botX s.fn s.fr) = t.q.size := by
  unfold enterX at hr
  rcases iteC hr with ⟨hi, hr⟩ | ⟨hi, hr⟩
  · rw [hty] at hr
    dsimp only at hr
    rcases iteC hr with ⟨_, hr⟩ | ⟨_, hr⟩ <;> simp at hr
  · rcases iteC hr with ⟨_, hr⟩ | ⟨_, hr⟩
    · simp at hr
    cases hf : C.fs[f - C.M.imports.length]? with
    | none => rw [hf] at hr; simp at hr
    | some ff =>
      rw [hf] at hr
      simp only [Except.ok.injEq] at hr
      subst hr
      obtain ⟨hFT, _⟩ := hK.f _ ff hf
      obtain ⟨t', ht', e1, e2⟩ := hFT.ty
      have : (C.M.imports.length + (f - C.M.imports.length) : Nat) = f := by omega
      rw [this, hty] at ht'
      simp at ht'
      subst ht'
      dsimp only [botX, resB]
      rw [List.getD_eq_getElem?_getD, hf]
      exact e2
structure RunF (C : XC) (fuel : Nat) (t : Ty) (R : Nat × Xe) : Prop where
  env : Env C R.2.out R.2.S R.2.H
  out : R.2.e = 0 → R.2.out.length = t.q.size
  le : R.1 ≤ fuel
  e : R.2.e = 0 ∨ 38 ≤ R.2.e
  e46 : R.2.e = 46 → R.1 = 0
theorem RunR.fin (hK : CodeOk C) (hty : C.M.typeOf (f : Int) = some t) (he : Env C ws S H) (hwl : ws.length = t.p.size) (h : RunR C fuel f ws S H R) : RunF C fuel t R := by
  unfold RunR at h
  cases hx : enterX C ws [] f S H with
  | error r =>
    rw [hx] at h
    dsimp only at h
    subst h
    obtain ⟨h1, h2⟩ := enter_fin hK hty he (by omega) hx
    have h3 := enterX_e hx
    exact ⟨h1, fun e => by rw [(h2 e).2]; omega, Nat.le_refl _, h3.1, fun e => absurd e h3.2⟩
  | ok s =>
    rw [hx] at h
    obtain ⟨m, r⟩ := R
    obtain ⟨h1, h2⟩ := Ends.fin hK (enter_gd hK hty he hwl hx) h
    have h3 := Ends.e hK.num h
    rw [enter_resB hK hty hx] at h2
    exact ⟨h1, h2, Ends.le h, h3.1, h3.2⟩
theorem RunR.more (h : RunR C fuel f ws S H R) (h46 : R.2.e ≠ 46) : RunR C (fuel + 1) f ws S H (R.1 + 1, R.2) := by
  unfold RunR at h ⊢
  cases hx : enterX C ws [] f S H with
  | error r =>
    rw [hx] at h
    dsimp only at h ⊢
    subst h
    rfl
  | ok s =>
    rw [hx] at h
    obtain ⟨m, r⟩ := R
    exact Ends.more h h46
end
end Go.Proofs.Qxb6500275aGreatDoor
