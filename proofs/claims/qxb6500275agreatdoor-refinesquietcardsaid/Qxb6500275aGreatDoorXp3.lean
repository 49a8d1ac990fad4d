import Derived.Test.Qxb6500275aGreatDoorXp2
import Derived.Test.Qxb6500275aGreatDoorNm1
set_option linter.unusedVariables false
set_option linter.unusedSimpArgs false
set_option maxRecDepth 100000
namespace Go.Proofs.Qxb6500275aGreatDoor
open Go Go.RowKit
section
variable {C : XC} {s s' : Xs} {c : Ins} {ff : FF} {ks : List Nat} {h : Nat}
/- what a load answers fits a word -/
theorem growS_w (S : Sm) (hS : SmOk S) (d : Nat) : (growS S d).1 < 18446744073709551616 := by
  have := hS.m
  unfold growS
  split
  · simp
  split
  · simp
  · dsimp only; omega
theorem growS_tab (S : Sm) (d : Nat) : (growS S d).2.tab = S.tab := by
  unfold growS
  split
  · rfl
  split
  · rfl
  · rfl
theorem saveS_tab {S S' : Sm} {op a o v : Nat} (h : saveS S op a o v = some S') : S'.tab = S.tab := by
  unfold saveS at h
  rcases iteC h with ⟨_, h⟩ | ⟨_, h⟩
  · simp at h; subst h; rfl
  · simp at h
theorem packS_eq {t u : Ty} (h : packS t = packS u) : t.p.size = u.p.size ∧ resT t = resT u := by
  unfold packS at h
  simp at h
  exact ⟨h.1, h.2.2.2.2.2⟩
theorem plain_step {take give : Nat} (hj : CJ C.M ff.locals ff.results (Ato (Ins.zero :: ff.cells) ks) (Ent (Ins.zero :: ff.cells) ks) [] (s.pc + 1) c h) (ho : ¬ (c.op = 4 ∨ c.op = 224 ∨ c.op = 12 ∨ c.op = 13 ∨ c.op = 225 ∨ c.op = 14 ∨ c.op = 15 ∨ c.op = 11)) (h0 : c.op ≠ 0) (he : effectP C.M c = some (take, give)) :
    InsOk c ∧ take ≤ h ∧ Ato (Ins.zero :: ff.cells) ks (s.pc + 1 + 1) (h - take + give) ∧ (32 ≤ c.op ∧ c.op ≤ 34 → c.x < ff.locals) := by
  obtain ⟨h1, t, g, h2, h3, h4, h5⟩ := hj.plain ho
  rw [he] at h2
  simp at h2
  obtain ⟨rfl, rfl⟩ := h2
  exact ⟨h1, h3, h4 h0, h5⟩
set_option maxHeartbeats 4000000 in
theorem numSig_two : ∀ op : Nat, op < 192 → 69 ≤ op → (numSig op).1 = if twoS op = true then 2 else 1 := by decide +kernel
theorem eff_num {op : Nat} {x y : Int} (h1 : 69 ≤ op) (h2 : op ≤ 191) {take give : Nat} (he : effectP C.M ⟨op, x, y⟩ = some (take, give)) : take = (if twoS op = true then 2 else 1) ∧ give = 1 := by
  unfold effectP at he
  dsimp only at he
  rw [if_neg (by omega), if_neg (by omega), if_neg (by omega), if_neg (by omega), if_neg (by omega), if_neg (by omega), if_neg (by omega), if_neg (by omega), if_neg (by omega)] at he
  have := numSig_two op (by omega) h1
  rcases iteC he with ⟨_, he⟩ | ⟨_, he⟩
  · simp at he
  · simp at he
    omega
theorem byS_lt {S : Sm} (hS : SmOk S) (i : Nat) : byS S i < 256 := by
  unfold byS
  rw [List.getD_eq_getElem?_getD]
  cases hi : S.bs[i]? with
  | none => simp
  | some v => exact hS.b v (List.mem_of_getElem? hi)
theorem loadS_r {S : Sm} (hS : SmOk S) {op a o : Nat} {v : Int} (hv : loadS S op a o = some v) : 0 ≤ v ∧ v < 18446744073709551616 := by
  unfold loadS at hv
  rcases iteC hv with ⟨_, hv⟩ | ⟨_, hv⟩
  · simp at hv
    subst hv
    have h0 := byS_lt hS (a + o + 0)
    unfold loadV
    split
    · exact ⟨bits_u64_nonneg _ _ _, bits_u64_lt _ _ _⟩
    split
    · dsimp only; omega
    split
    · exact ⟨wrap_u64_nonneg _, wrap_u64_lt _⟩
    split
    · have h1 := wrap_u64_nonneg (wrap64 (IntKind.i16.wrap (halfS (byS S (a + o + 0)) (byS S (a + o + 1)))))
      omega
    split
    · exact ⟨wrap_u64_nonneg _, wrap_u64_lt _⟩
    split
    · exact ⟨wrap_u64_nonneg _, wrap_u64_lt _⟩
    split
    · exact ⟨wrap_u64_nonneg _, wrap_u64_lt _⟩
    split
    · exact ⟨bits_u64_nonneg _ _ _, bits_u64_lt _ _ _⟩
    · exact ⟨wrap_u64_nonneg _, wrap_u64_lt _⟩
  · simp at hv
set_option maxHeartbeats 4000000 in
theorem core_good (hK : CodeOk C) (hc : Cur C s.ws s.fn s.pc s.base ff ks h) (hch : ChX C s.fr ff.results s.base) (he : Env C s.ws s.S s.H) (hd : s.fr.length ≤ 5) (h225 : c.op ≠ 225)
    (hj : CJ C.M ff.locals ff.results (Ato (Ins.zero :: ff.cells) ks) (Ent (Ins.zero :: ff.cells) ks) [] (s.pc + 1) c h) (hr : coreX C { s with pc := s.pc + 1 } c = .ok s') : Gd C s' := by
  have hlen := hc.len
  have htop := hc.top
  have hle := hc.ft.le
  have hff : ∀ (ws : List Nat) (pc : Nat), ffX C { s with ws := ws, pc := pc } = ff := fun ws pc => by unfold ffX; rw [List.getD_eq_getElem?_getD, hc.fh.at_]; rfl
  have hff0 : ffX C { s with pc := s.pc + 1 } = ff := hff s.ws (s.pc + 1)
  have htw : Xs.topW { s with pc := s.pc + 1 } < 18446744073709551616 := he.getD _
  have hpop : ∀ n, Xs.pop { s with pc := s.pc + 1 } n = s.ws.take (s.ws.length - n) := fun n => rfl
  have hE1 : ∀ n, Env C (s.ws.take n) s.S s.H := fun n => he.take n
  unfold coreX at hr
  rcases iteC hr with ⟨e, hr⟩ | ⟨n0, hr⟩
  · unfold trapX at hr; simp at hr
  rcases iteC hr with ⟨e, hr⟩ | ⟨n1, hr⟩
  · obtain ⟨_, h1, h2, _⟩ := plain_step hj (by omega) n0 (take := 0) (give := 0) (by unfold effectP; rw [if_pos (.inr e)])
    simp at hr; subst hr
    exact mkGd hc hch hd h2 (by omega) he
  rcases iteC hr with ⟨e, hr⟩ | ⟨n4, hr⟩
  · obtain ⟨h1, h2, h3⟩ := hj.if_ e
    simp only [Except.ok.injEq] at hr
    subst hr
    rw [hpop]
    rcases h3 with h3 | ⟨g, hg, _⟩
    · by_cases ht : Xs.topW { s with pc := s.pc + 1 } = 0
      · rw [if_pos ht]; exact mkGd hc hch hd h3.nat (by simp; omega) (hE1 _)
      · rw [if_neg ht]; exact mkGd hc hch hd h2 (by simp; omega) (hE1 _)
    · simp at hg
  rcases iteC hr with ⟨e, hr⟩ | ⟨n224, hr⟩
  · simp at hr; subst hr
    rcases hj.jump e with ⟨j, hx, _, h3⟩ | ⟨g, hg, _⟩
    · have : c.x.toNat = j := by omega
      rw [this]
      exact mkGd hc hch hd h3 hlen he
    · simp at hg
  rcases iteC hr with ⟨e, hr⟩ | ⟨n13, hr⟩
  · obtain ⟨h1, h2, h3⟩ := hj.brif e
    simp only [Except.ok.injEq] at hr
    subst hr
    rw [hpop]
    by_cases ht : Xs.topW { s with pc := s.pc + 1 } = 0
    · rw [if_pos ht]; exact mkGd hc hch hd h3 (by simp; omega) (hE1 _)
    · rw [if_neg ht]; exact branch_good hc hch hd (hE1 _) (by simp; omega) h2 _
  rcases iteC hr with ⟨e, hr⟩ | ⟨n12, hr⟩
  · simp only [Except.ok.injEq] at hr
    subst hr
    exact branch_good (ws := s.ws) hc hch hd he hlen (hj.br e) _
  rcases iteC hr with ⟨e, hr⟩ | ⟨n14, hr⟩
  · obtain ⟨h1, n, hx, hn1, hE⟩ := hj.table e
    simp only [Except.ok.injEq] at hr
    subst hr
    rw [hpop, hff0]
    have hxn : c.x.toNat = n := by omega
    rw [hxn]
    obtain ⟨k, hk⟩ : ∃ k, (if Xs.topW { s with pc := s.pc + 1 } < n - 1 then Xs.topW { s with pc := s.pc + 1 } else n - 1) = k := ⟨_, rfl⟩
    have hkn : k < n := by rw [← hk]; split <;> omega
    rw [hk]
    obtain ⟨d, d1, d2, d3⟩ := hE k hkn
    have d1' : ff.cells[s.pc + 1 + k]? = some d := by
      rw [show s.pc + 1 + 1 + k = (s.pc + 1 + k) + 1 by omega] at d1
      simpa using d1
    have hgd : ff.cells.getD (s.pc + 1 + k) Ins.zero = d := by rw [List.getD_eq_getElem?_getD, d1']; rfl
    try dsimp only
    rw [hgd]
    obtain ⟨h', d4, d5⟩ := hc.fh.ht.cj (s.pc + 1 + 1 + k) d (by omega) (by omega) d1
    rw [d3] at d4
    simp at d4
    subst d4
    exact branch_good hc hch hd (hE1 _) (by simp; omega) (d5.entry d2) _
  rcases iteC hr with ⟨e, hr⟩ | ⟨nl, hr⟩
  · exact leave_good (ws := s.ws) hc hch hd he hr
  have hpl : ¬ (c.op = 4 ∨ c.op = 224 ∨ c.op = 12 ∨ c.op = 13 ∨ c.op = 225 ∨ c.op = 14 ∨ c.op = 15 ∨ c.op = 11) := by omega
  have hcur2 : Cur C s.ws s.fn s.pc s.base ff ks h := hc
  rcases iteC hr with ⟨e, hr⟩ | ⟨n16, hr⟩
  · obtain ⟨hi, take, give, hef, h1, h2, _⟩ := hj.plain hpl
    have hx0 := hi.x.1
    unfold effectP at hef
    rw [if_neg (by omega), if_neg (by omega), if_neg (by omega), if_neg (by omega), if_neg (by omega), if_pos e] at hef
    cases ht : C.M.typeOf c.x with
    | none => rw [ht] at hef; simp at hef
    | some t =>
      rw [ht] at hef
      simp at hef
      have ht' : C.M.typeOf ((c.x.toNat : Nat) : Int) = some t := by rw [Int.toNat_of_nonneg hx0]; exact ht
      refine enter_good hK ht' he (by omega) (by simp; omega) ?_ hr
      refine ⟨ff, ks, h - take + give, hc.fh, hc.ft, h2 n0, ?_, ?_, hch⟩
      · dsimp only [Xs.cur]; omega
      · dsimp only [Xs.cur]; omega
  rcases iteC hr with ⟨e, hr⟩ | ⟨n17, hr⟩
  · obtain ⟨hi, take, give, hef, h1, h2, _⟩ := hj.plain hpl
    unfold effectP at hef
    rw [if_neg (by omega), if_neg (by omega), if_neg (by omega), if_neg (by omega), if_neg (by omega), if_neg (by omega), if_pos e] at hef
    rcases iteC hr with ⟨_, hr⟩ | ⟨hel, hr⟩
    · unfold trapX at hr; simp at hr
    cases hu : C.M.types[c.x.toNat]? with
    | none => rw [hu] at hef; simp at hef
    | some u =>
      rw [hu] at hef hr
      simp at hef
      have hnn : 0 ≤ (elemS s.S (lo32 (Xs.topW { s with pc := s.pc + 1 }))).1 := by
        unfold elemS
        split
        · simp
        · split
          · simp
          · dsimp only; omega
      generalize (elemS s.S (lo32 (Xs.topW { s with pc := s.pc + 1 }))) = el at *
      obtain ⟨f, er⟩ := el
      dsimp only at hr hnn hel
      cases ht : C.M.typeOf f with
      | none => rw [ht] at hr; unfold trapX at hr; simp at hr
      | some t =>
        rw [ht] at hr
        dsimp only at hr
        rcases iteC hr with ⟨_, hr⟩ | ⟨hpk, hr⟩
        · unfold trapX at hr; simp at hr
        have hpe : packS t = packS u := Classical.byContradiction hpk
        obtain ⟨q1, q2⟩ := packS_eq hpe
        have hT := typeOf_ok hK.mod ht
        have hU : TyOk u := hK.mod.types u (List.mem_of_getElem? hu)
        have hq : t.q.size = u.q.size := by
          have a1 := resT_0 hT
          have a2 := resT_0 hU
          have a3 := hT.nq
          have a4 := hU.nq
          by_cases z : t.q.size = 0
          · have := a1.2 z
            have := a2.1 (q2 ▸ this)
            omega
          · have : ¬ u.q.size = 0 := fun z2 => z (a1.1 (q2 ▸ (a2.2 z2)))
            omega
        have ht' : C.M.typeOf ((f.toNat : Nat) : Int) = some t := by rw [Int.toNat_of_nonneg hnn]; exact ht
        rw [hpop] at hr
        refine enter_good hK ht' (hE1 _) (by simp; omega) (by simp; omega) ?_ hr
        refine ⟨ff, ks, h - take + give, hc.fh, hc.ft, h2 n0, ?_, ?_, hch⟩
        · dsimp only [Xs.cur]; simp; omega
        · dsimp only [Xs.cur]; simp; omega
  rcases iteC hr with ⟨e, hr⟩ | ⟨n33, hr⟩
  · obtain ⟨_, h1, h2, _⟩ := plain_step hj hpl n0 (take := 1) (give := 0) (by unfold effectP; rw [if_neg (by omega), if_pos (by omega)])
    simp only [Except.ok.injEq] at hr; subst hr
    exact mkGd hc hch hd h2 (by simp; omega) ((he.set htw).take _)
  rcases iteC hr with ⟨e, hr⟩ | ⟨n26, hr⟩
  · obtain ⟨_, h1, h2, _⟩ := plain_step hj hpl n0 (take := 1) (give := 0) (by unfold effectP; rw [if_neg (by omega), if_pos (by omega)])
    simp only [Except.ok.injEq] at hr; subst hr
    rw [hpop]
    exact mkGd hc hch hd h2 (by simp; omega) (he.take _)
  rcases iteC hr with ⟨e, hr⟩ | ⟨n34, hr⟩
  · obtain ⟨_, h1, h2, _⟩ := plain_step hj hpl n0 (take := 1) (give := 1) (by unfold effectP; rw [if_neg (by omega), if_neg (by omega), if_pos (by omega)])
    simp only [Except.ok.injEq] at hr; subst hr
    exact mkGd hc hch hd h2 (by simp; omega) (he.set htw)
  rcases iteC hr with ⟨e, hr⟩ | ⟨n32, hr⟩
  · obtain ⟨_, h1, h2, _⟩ := plain_step hj hpl n0 (take := 0) (give := 1) (by unfold effectP; rw [if_neg (by omega), if_neg (by omega), if_neg (by omega), if_pos (by omega)])
    simp only [Except.ok.injEq] at hr; subst hr
    exact mkGd hc hch hd h2 (by simp; omega) (he.app (he.getD _))
  rcases iteC hr with ⟨e, hr⟩ | ⟨n27, hr⟩
  · obtain ⟨_, h1, h2, _⟩ := plain_step hj hpl n0 (take := 3) (give := 1) (by unfold effectP; rw [if_neg (by omega), if_neg (by omega), if_neg (by omega), if_neg (by omega), if_pos (by omega)])
    simp only [Except.ok.injEq] at hr; subst hr
    refine mkGd hc hch hd h2 ?_ ?_
    · split <;> (simp; omega)
    · split
      · exact (he.set (he.getD _)).take _
      · exact he.take _
  rcases iteC hr with ⟨e, hr⟩ | ⟨n35, hr⟩
  · obtain ⟨_, h1, h2, _⟩ := plain_step hj hpl n0 (take := 0) (give := 1) (by unfold effectP; rw [if_neg (by omega), if_neg (by omega), if_neg (by omega), if_pos (by omega)])
    simp only [Except.ok.injEq] at hr; subst hr
    refine mkGd hc hch hd h2 (by simp; omega) (he.app ?_)
    rw [List.getD_eq_getElem?_getD]
    try dsimp only
    cases hg : s.S.gl[c.x.toNat]? with
    | none => simp
    | some v => have := he.sm.g.2 v (List.mem_of_getElem? hg); simp; omega
  rcases iteC hr with ⟨e, hr⟩ | ⟨n36, hr⟩
  · obtain ⟨_, h1, h2, _⟩ := plain_step hj hpl n0 (take := 1) (give := 0) (by unfold effectP; rw [if_neg (by omega), if_pos (by omega)])
    simp only [Except.ok.injEq] at hr; subst hr
    rw [hpop]
    refine mkGd hc hch hd h2 (by simp; omega) ⟨(he.take _).wd, ⟨he.sm.m, he.sm.b, he.sm.no, he.sm.t, by rw [List.length_set]; exact he.sm.g.1, fun v hv => ?_⟩, he.hm, he.tab, he.bd⟩
    rcases List.mem_or_eq_of_mem_set hv with hv | hv
    · exact he.sm.g.2 v hv
    · subst hv; omega
  rcases iteC hr with ⟨e, hr⟩ | ⟨n63, hr⟩
  · obtain ⟨_, h1, h2, _⟩ := plain_step hj hpl n0 (take := 0) (give := 1) (by unfold effectP; rw [if_neg (by omega), if_neg (by omega), if_neg (by omega), if_pos (by omega)])
    simp only [Except.ok.injEq] at hr; subst hr
    have := he.sm.m
    exact mkGd hc hch hd h2 (by simp; omega) (he.app (by omega))
  rcases iteC hr with ⟨e, hr⟩ | ⟨n64, hr⟩
  · obtain ⟨_, h1, h2, _⟩ := plain_step hj hpl n0 (take := 1) (give := 1) (by unfold effectP; rw [if_neg (by omega), if_neg (by omega), if_pos (by omega)])
    simp only [Except.ok.injEq] at hr; subst hr
    exact mkGd hc hch hd h2 (by simp; omega) ⟨(he.set (growS_w _ he.sm _)).wd, growS_ok he.sm _, he.hm, by rw [growS_tab]; exact he.tab, he.bd⟩
  rcases iteC hr with ⟨e, hr⟩ | ⟨n65, hr⟩
  · obtain ⟨hi, h1, h2, _⟩ := plain_step hj hpl n0 (take := 0) (give := 1) (by unfold effectP; rw [if_neg (by omega), if_neg (by omega), if_neg (by omega), if_pos (by omega)])
    simp only [Except.ok.injEq] at hr; subst hr
    have := hi.y
    unfold u64R at this
    exact mkGd hc hch hd h2 (by simp; omega) (he.app (by omega))
  obtain ⟨hi, take, give, hef, h1, h2, _⟩ := hj.plain hpl
  have hop := hi.op
  unfold opOk at hop
  replace h2 := h2 n0
  have hn5 : ¬ c.op ≤ 5 := fun h5 => by
    have hef2 := hef
    unfold effectP at hef2
    rw [if_neg (by omega), if_neg (by omega), if_neg (by omega), if_neg (by omega), if_neg (by omega), if_neg (by omega), if_neg (by omega), if_neg (by omega), if_neg (by omega)] at hef2
    have hz : (numSig c.op).1 = 0 := by
      have : c.op = 2 ∨ c.op = 3 ∨ c.op = 5 := by omega
      rcases this with e | e | e <;> rw [e] <;> rfl
    rw [if_pos hz] at hef2
    simp at hef2
  rcases iteC hr with ⟨e, hr⟩ | ⟨n69, hr⟩
  · obtain ⟨e1, e2⟩ := eff_num (C := C) (x := c.x) (y := c.y) (by omega) (by omega) hef
    have e3 : twoS c.op = false := by rw [e]; rfl
    rw [e3] at e1
    simp at e1
    simp only [Except.ok.injEq] at hr; subst hr
    exact mkGd hc hch hd h2 (by simp; omega) (he.set (by split <;> omega))
  rcases iteC hr with ⟨e, hr⟩ | ⟨n106, hr⟩
  · obtain ⟨e1, e2⟩ := eff_num (C := C) (x := c.x) (y := c.y) (by omega) (by omega) hef
    have e3 : twoS c.op = true := by rw [e]; rfl
    rw [e3] at e1
    simp at e1
    simp only [Except.ok.injEq] at hr; subst hr
    exact mkGd hc hch hd h2 (by simp; omega) ((he.set (by omega)).take _)
  rcases iteC hr with ⟨e, hr⟩ | ⟨n53, hr⟩
  · unfold effectP at hef
    rw [if_neg (by omega), if_neg (by omega), if_neg (by omega), if_neg (by omega), if_neg (by omega), if_neg (by omega), if_neg (by omega), if_pos (by omega)] at hef
    simp at hef
    cases hl : loadS s.S c.op (lo32 (Xs.topW { s with pc := s.pc + 1 })) (c.y % 4294967296).toNat with
    | none => rw [hl] at hr; unfold trapX at hr; simp at hr
    | some v =>
      rw [hl] at hr
      simp only [Except.ok.injEq] at hr; subst hr
      have := loadS_r he.sm hl
      exact mkGd hc hch hd h2 (by simp; omega) (he.set (by omega))
  rcases iteC hr with ⟨e, hr⟩ | ⟨n62, hr⟩
  · unfold effectP at hef
    rw [if_neg (by omega), if_neg (by omega), if_neg (by omega), if_neg (by omega), if_neg (by omega), if_neg (by omega), if_neg (by omega), if_neg (by omega), if_pos (by omega)] at hef
    simp at hef
    split at hr
    · unfold trapX at hr; simp at hr
    · rename_i S' hl
      simp only [Except.ok.injEq] at hr; subst hr
      rw [hpop]
      exact mkGd hc hch hd h2 (by simp; omega) ⟨(he.take _).wd, saveS_ok he.sm hl, he.hm, by rw [saveS_tab hl]; exact he.tab, he.bd⟩
  obtain ⟨e1, e2⟩ := eff_num (C := C) (x := c.x) (y := c.y) (by omega) (by omega) hef
  rcases iteC hr with ⟨e, hr⟩ | ⟨n2, hr⟩
  · rcases iteC hr with ⟨_, hr⟩ | ⟨_, hr⟩
    · unfold trapX at hr; simp at hr
    · rw [if_pos e] at e1
      simp only [Except.ok.injEq] at hr; subst hr
      have := (hK.num.r c.op (s.ws.getD (s.ws.length - 2) 0) (Xs.topW { s with pc := s.pc + 1 })).1
      exact mkGd hc hch hd h2 (by simp; omega) ((he.set (by omega)).take _)
  · rcases iteC hr with ⟨_, hr⟩ | ⟨_, hr⟩
    · unfold trapX at hr; simp at hr
    · rw [if_neg n2] at e1
      simp only [Except.ok.injEq] at hr; subst hr
      have := (hK.num.r c.op (Xs.topW { s with pc := s.pc + 1 }) 0).1
      exact mkGd hc hch hd h2 (by simp; omega) (he.set (by omega))
end
end Go.Proofs.Qxb6500275aGreatDoor
