import Derived.Test.Qxb6500275aGreatDoorXp1
set_option linter.unusedVariables false
set_option linter.unusedSimpArgs false
set_option maxRecDepth 100000
namespace Go.Proofs.Qxb6500275aGreatDoor
open Go Go.RowKit
/- a function's code and its heights -/
structure FH (C : XC) (k : Nat) (ff : FF) (ks : List Nat) : Prop where
  at_ : C.fs[k]? = some ff
  ht : Hts C.M ff.locals ff.results (Ins.zero :: ff.cells) ks
structure FT (C : XC) (k : Nat) (ff : FF) : Prop where
  ty : ∃ t, C.M.typeOf ((C.M.imports.length + k : Nat) : Int) = some t ∧ ff.params = t.p.size ∧ ff.results = t.q.size
  le : ff.params ≤ ff.locals ∧ ff.locals ≤ 10 ∧ ff.params ≤ 4 ∧ ff.results ≤ 1
structure CodeOk (C : XC) : Prop where
  mod : ModOk C.M
  num : NumOk C.num
  f : ∀ k ff, C.fs[k]? = some ff → FT C k ff ∧ ∃ ks, FH C k ff ks
  n : C.fs.length = C.M.funcs.length
theorem typeOf_range {M : Mod} {f : Int} {t : Ty} (h : M.typeOf f = some t) : 0 ≤ f ∧ f < ((M.imports.length + M.funcs.length : Nat) : Int) := by
  unfold Mod.typeOf Mod.tyIdx Mod.typeAt at h
  by_cases h1 : 0 ≤ f ∧ f < M.imports.length
  · omega
  · rw [if_neg h1] at h
    by_cases h2 : M.imports.length ≤ f ∧ f - M.imports.length < M.funcs.length
    · omega
    · rw [if_neg h2] at h
      simp at h
theorem typeOf_ok {M : Mod} (hM : ModOk M) {f : Int} {t : Ty} (h : M.typeOf f = some t) : TyOk t := by
  unfold Mod.typeOf Mod.typeAt at h
  rcases iteC h with ⟨_, h⟩ | ⟨_, h⟩
  · simp at h
  · exact hM.types t (List.mem_of_getElem? h)
/- the frames below -/
def ChX (C : XC) : List Fr → Nat → Nat → Prop
  | [], _, base => base = 0
  | c :: cs, rs, base => (∃ ff ks h, FH C c.fn ff ks ∧ FT C c.fn ff ∧ Ato (Ins.zero :: ff.cells) ks (c.pc + 1) h ∧ base + rs = c.base + ff.locals + h ∧ base ≤ c.base + ff.locals + 10 ∧ ChX C cs ff.results c.base)
structure Cur (C : XC) (ws : List Nat) (fn pc base : Nat) (ff : FF) (ks : List Nat) (h : Nat) : Prop where
  fh : FH C fn ff ks
  ft : FT C fn ff
  at_ : Ato (Ins.zero :: ff.cells) ks (pc + 1) h
  len : ws.length = base + ff.locals + h
  top : h ≤ 10
/- what the words, the store and the host keep -/
structure Env (C : XC) (ws : List Nat) (S : Sm) (H : Hm) : Prop where
  wd : ∀ v, v ∈ ws → v < 18446744073709551616
  sm : SmOk S
  hm : HmOk H
  tab : ∀ x, x ∈ S.tab → x < ((C.M.imports.length + C.M.funcs.length : Nat) : Int)
  bd : H.bd.length = C.M.imports.length
structure Gd (C : XC) (s : Xs) : Prop where
  cur : ∃ ff ks h, Cur C s.ws s.fn s.pc s.base ff ks h ∧ ChX C s.fr ff.results s.base
  env : Env C s.ws s.S s.H
  dp : s.fr.length ≤ 5
section
variable {C : XC} {s s' : Xs} {c : Ins} {ff : FF} {ks : List Nat} {h : Nat}
theorem Cur.cell (hc : Cur C s.ws s.fn s.pc s.base ff ks h) : ∃ c, ff.cells[s.pc]? = some c ∧ cellX C s = c ∧ ffX C s = ff ∧ c.op ≠ 225 ∧ CJ C.M ff.locals ff.results (Ato (Ins.zero :: ff.cells) ks) (Ent (Ins.zero :: ff.cells) ks) [] (s.pc + 1) c h := by
  obtain ⟨c, h1, h2, h3⟩ := hc.at_
  have h1' : ff.cells[s.pc]? = some c := by simpa using h1
  have hff : ffX C s = ff := by unfold ffX; rw [List.getD_eq_getElem?_getD, hc.fh.at_]; rfl
  obtain ⟨h', h4, h5⟩ := hc.fh.ht.cj (s.pc + 1) c (by omega) (by omega) h1
  rw [h3] at h4
  simp at h4
  subst h4
  exact ⟨c, h1', by unfold cellX; rw [hff, List.getD_eq_getElem?_getD, h1']; rfl, hff, h2, h5⟩
theorem Ato.top (hh : Hts C.M ff.locals ff.results (Ins.zero :: ff.cells) ks) {t n : Nat} (ha : Ato (Ins.zero :: ff.cells) ks (t + 1) n) : n ≤ 10 := by
  obtain ⟨c, h1, h2, h3⟩ := ha
  obtain ⟨h', h4, h5⟩ := hh.cj (t + 1) c (by omega) (by omega) h1
  rw [h3] at h4
  simp at h4
  subst h4
  exact h5.top
theorem ChX.base : ∀ {fr : List Fr} {rs base : Nat}, ChX C fr rs base → base ≤ 20 * fr.length
  | [], _, _, h => by rw [h]; simp
  | c :: cs, rs, base, h => by
    obtain ⟨ff, ks, n, h1, h2, h3, h4, h5, h6⟩ := h
    have := ChX.base h6
    have hl := h2.le
    simp
    omega
/- the pieces of a next state -/
theorem Env.take {ws : List Nat} {S : Sm} {H : Hm} (h : Env C ws S H) (n : Nat) : Env C (ws.take n) S H := ⟨fun v hv => h.wd v (List.mem_of_mem_take hv), h.sm, h.hm, h.tab, h.bd⟩
theorem Env.app {ws : List Nat} {S : Sm} {H : Hm} (h : Env C ws S H) {v : Nat} (hv : v < 18446744073709551616) : Env C (ws ++ [v]) S H := ⟨fun u hu => by
  rcases List.mem_append.1 hu with hu | hu
  · exact h.wd u hu
  · simp at hu; subst hu; exact hv, h.sm, h.hm, h.tab, h.bd⟩
theorem Env.set {ws : List Nat} {S : Sm} {H : Hm} (h : Env C ws S H) {i v : Nat} (hv : v < 18446744073709551616) : Env C (ws.set i v) S H := ⟨fun u hu => by
  rcases List.mem_or_eq_of_mem_set hu with hu | hu
  · exact h.wd u hu
  · subst hu; exact hv, h.sm, h.hm, h.tab, h.bd⟩
theorem Env.getD {ws : List Nat} {S : Sm} {H : Hm} (h : Env C ws S H) (i : Nat) : ws.getD i 0 < 18446744073709551616 := by
  rw [List.getD_eq_getElem?_getD]
  cases hi : ws[i]? with
  | none => simp
  | some v => exact h.wd v (List.mem_of_getElem? hi)
theorem mkGd {ws' : List Nat} {pc' h' : Nat} {S' : Sm} {H' : Hm} (hc : Cur C s.ws s.fn s.pc s.base ff ks h) (hch : ChX C s.fr ff.results s.base) (hd : s.fr.length ≤ 5) (ha : Ato (Ins.zero :: ff.cells) ks (pc' + 1) h') (hl : ws'.length = s.base + ff.locals + h') (he : Env C ws' S' H') : Gd C ⟨ws', s.fr, s.fn, pc', s.base, S', H'⟩ :=
  ⟨⟨ff, ks, h', ⟨hc.fh, hc.ft, ha, hl, Ato.top hc.fh.ht ha⟩, hch⟩, he, hd⟩
/- a target -/
theorem Tg.nat {A : Nat → Nat → Prop} {x : Int} {n : Nat} (h : Tg A x n) : A (x.toNat + 1) n := by
  obtain ⟨j, rfl, h⟩ := h
  rw [Int.toNat_natCast]; exact h
/- a branch -/
theorem branch_good {ws : List Nat} {i n : Nat} (hc : Cur C s.ws s.fn s.pc s.base ff ks h) (hch : ChX C s.fr ff.results s.base) (hd : s.fr.length ≤ 5) (he : Env C ws s.S s.H) (hl : ws.length = s.base + ff.locals + n) (hj : BrJ (Ato (Ins.zero :: ff.cells) ks) [] i c n) (pc : Nat) : Gd C (branchX C { s with ws := ws, pc := pc } c) := by
  obtain ⟨keep, fl, h1, h2, h3, h4, h5⟩ := hj.is
  have hff : ffX C { s with ws := ws, pc := pc } = ff := by unfold ffX; rw [List.getD_eq_getElem?_getD, hc.fh.at_]; rfl
  rcases h5 with h5 | ⟨g, hg, _⟩
  · unfold branchX
    rw [hff, h1]
    unfold packP
    dsimp only
    have e1 : ((keep : Int) * 4294967296 + (fl : Int)) % 4294967296 = fl := by omega
    have e2 : ((keep : Int) * 4294967296 + (fl : Int)) / 4294967296 = keep := by omega
    rw [e1, e2, Int.toNat_natCast]
    refine mkGd hc hch hd h5.nat ?_ ?_
    · by_cases hk : keep = 1
      · subst hk
        simp
        omega
      · have hk0 : keep = 0 := by omega
        subst hk0
        simp
        omega
    · by_cases hk : keep = 1
      · subst hk
        simp
        exact (he.take _).app (he.getD _)
      · have hk0 : keep = 0 := by omega
        subst hk0
        simp
        exact he.take _
  · simp at hg
/- a function ends -/
theorem leave_good {ws : List Nat} {pc : Nat} (hc : Cur C s.ws s.fn s.pc s.base ff ks h) (hch : ChX C s.fr ff.results s.base) (hd : s.fr.length ≤ 5) (he : Env C s.ws s.S s.H) (hr : leaveX C { s with pc := pc } = .ok s') : Gd C s' := by
  have hff : ffX C { s with pc := pc } = ff := by unfold ffX; rw [List.getD_eq_getElem?_getD, hc.fh.at_]; rfl
  unfold leaveX at hr
  rw [hff] at hr
  dsimp only at hr
  have hr1 := hc.ft.le
  have hlen := hc.len
  cases hfr : s.fr with
  | nil => rw [hfr] at hr; simp at hr
  | cons a r =>
    rw [hfr] at hr hch hd
    simp at hr
    subst hr
    obtain ⟨ff', ks', h', g1, g2, g3, g4, g5, g6⟩ := hch
    refine ⟨⟨ff', ks', h', ⟨g1, g2, g3, ?_, Ato.top g1.ht g3⟩, g6⟩, ?_, by simp at hd; dsimp only; omega⟩
    · dsimp only
      by_cases hk : ff.results = 1
      · rw [if_pos hk]; simp; omega
      · rw [if_neg hk]; simp; omega
    · by_cases hk : ff.results = 1
      · rw [if_pos hk]; exact (he.take _).app (he.getD _)
      · rw [if_neg hk]; simp; exact he.take _
theorem resT_0 {t : Ty} (h : TyOk t) : resT t = 0 ↔ t.q.size = 0 := by
  unfold resT
  constructor
  · intro e
    by_cases h0 : t.q.size = 0
    · exact h0
    · rw [if_neg h0] at e
      have := h.q 0 (by omega)
      unfold isVal at this
      omega
  · intro e
    rw [if_pos e]
theorem resT_r {t : Ty} (h : TyOk t) : resT t < 256 := by
  unfold resT
  split
  · omega
  · have := h.q 0 (by omega)
    unfold isVal at this
    omega
theorem fnH_w {H : Hm} (h : HmOk H) (kd want pages : Nat) (hp : pages ≤ 6) : (fnH H kd want pages).1 < 18446744073709551616 := by
  unfold fnH
  split
  · split
    · simp
    · cases ht : takeH H with
      | none => simp
      | some p =>
        obtain ⟨v, H'⟩ := p
        dsimp only
        have hv : v < 18446744073709551616 := by
          unfold takeH at ht
          cases hq : H.tp with
          | nil => rw [hq] at ht; simp at ht
          | cons a r => rw [hq] at ht; simp at ht; rw [← ht.1]; exact h.tp.2 a (by rw [hq]; simp)
        have := cutB_r (t := want) (v := (v : Int)) (by omega)
        omega
  split
  · simp
  split
  · split
    · simp
    · have := cutB_r (t := want) (v := (pages : Int)) (by omega)
      dsimp only
      omega
  · simp
theorem callH_w {H : Hm} (h : HmOk H) {k : Nat} (hk : k < 4) {a : List Nat} (ha : a.length ≤ 4) (want pages : Nat) (hp : pages ≤ 6) : (callH H k a want pages).1 < 18446744073709551616 := by
  unfold callH
  split
  · simp
  · exact fnH_w (tracedH_ok h hk ha (by omega)) _ _ _ hp
theorem fnH_bd (H : Hm) (kd want pages : Nat) : (fnH H kd want pages).2.2.bd = H.bd := by
  unfold fnH
  split
  · split
    · rfl
    · cases ht : takeH H with
      | none => rfl
      | some p =>
        unfold takeH at ht
        cases hq : H.tp with
        | nil => rw [hq] at ht; simp at ht
        | cons a r => rw [hq] at ht; simp at ht; rw [← ht]
  split
  · rfl
  split
  · split <;> rfl
  · rfl
theorem callH_bd (H : Hm) (k : Nat) (a : List Nat) (want pages : Nat) : (callH H k a want pages).2.2.bd = H.bd := by
  unfold callH
  split
  · rfl
  · rw [fnH_bd]; rfl
/- a function is called: what must stand: t: its type; the operands behind the call -/
theorem enter_good {ws : List Nat} {cur : List Fr} {f : Nat} {t : Ty} {S : Sm} {H : Hm} (hK : CodeOk C) (hty : C.M.typeOf (f : Int) = some t) (he : Env C ws S H) (hp : t.p.size ≤ ws.length) (hd : cur.length ≤ 6)
    (hcur : match cur with
      | [] => ws.length = t.p.size
      | a :: r => ∃ ff ks h, FH C a.fn ff ks ∧ FT C a.fn ff ∧ Ato (Ins.zero :: ff.cells) ks (a.pc + 1) h ∧ ws.length - t.p.size + t.q.size = a.base + ff.locals + h ∧ ws.length ≤ a.base + ff.locals + 10 ∧ ChX C r ff.results a.base)
    (hr : enterX C ws cur f S H = .ok s') : Gd C s' := by
  have hT := typeOf_ok hK.mod hty
  have hq := hT.nq
  have hnp := hT.np
  have hm := he.sm.m
  have hni := hK.mod.ni
  unfold enterX at hr
  rcases iteC hr with ⟨hi, hr⟩ | ⟨hi, hr⟩
  · rw [hty] at hr
    dsimp only at hr
    rcases iteC hr with ⟨_, hr⟩ | ⟨h0, hr⟩
    · simp at hr
    cases cur with
    | nil => simp at hr
    | cons a r =>
      simp at hr
      subst hr
      obtain ⟨ff, ks, h, g1, g2, g3, g4, g5, g6⟩ := hcur
      simp at hd
      have hdl : (ws.drop (ws.length - t.p.size)).length ≤ 4 := by rw [List.length_drop]; omega
      have hres := resT_0 hT
      refine ⟨⟨ff, ks, h, ⟨g1, g2, g3, ?_, Ato.top g1.ht g3⟩, g6⟩, ?_, hd⟩
      · dsimp only
        by_cases hz : t.q.size = 0
        · rw [if_pos (hres.2 hz)]; simp; omega
        · rw [if_neg (fun e => hz (hres.1 e))]; simp; omega
      · have hE : Env C (ws.take (ws.length - t.p.size)) S (callH H f (ws.drop (ws.length - t.p.size)) (resT t) (S.bs.length / 64)).2.2 :=
          ⟨fun v hv => he.wd v (List.mem_of_mem_take hv), he.sm, callH_ok he.hm (by omega) hdl _ _, he.tab, by rw [callH_bd]; exact he.bd⟩
        by_cases hz : resT t = 0
        · rw [if_pos hz]; simp; exact hE
        · rw [if_neg hz]; exact hE.app (callH_w he.hm (by omega) hdl _ _ (by omega))
  · rcases iteC hr with ⟨_, hr⟩ | ⟨h6, hr⟩
    · simp at hr
    cases hf : C.fs[f - C.M.imports.length]? with
    | none => rw [hf] at hr; simp at hr
    | some ff =>
      rw [hf] at hr
      simp at hr
      subst hr
      obtain ⟨hFT, ks, hFH⟩ := hK.f _ ff hf
      obtain ⟨t', ht', e1, e2⟩ := hFT.ty
      have : (C.M.imports.length + (f - C.M.imports.length) : Nat) = f := by omega
      rw [this, hty] at ht'
      simp at ht'
      subst ht'
      have hle := hFT.le
      refine ⟨⟨ff, ks, 0, ⟨hFH, hFT, hFH.ht.first, ?_, by omega⟩, ?_⟩, ⟨fun v hv => ?_, he.sm, he.hm, he.tab, he.bd⟩, by dsimp only; omega⟩
      · simp; omega
      · dsimp only
        cases cur with
        | nil =>
          dsimp only at hcur
          show ws.length - ff.params = 0
          omega
        | cons a r =>
          obtain ⟨ff2, ks2, h2, g1, g2, g3, g4, g5, g6⟩ := hcur
          exact ⟨ff2, ks2, h2, g1, g2, g3, by omega, by omega, g6⟩
      · rcases List.mem_append.1 hv with hv | hv
        · exact he.wd v hv
        · have := (List.mem_replicate.1 hv).2; omega
end
end Go.Proofs.Qxb6500275aGreatDoor
