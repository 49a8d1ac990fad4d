import Derived.Test.Qxb6500275aGreatDoorXma
set_option linter.unusedVariables false
set_option linter.unusedSimpArgs false
set_option maxRecDepth 100000
namespace Go.Proofs.Qxb6500275aGreatDoor
open Go Go.RowKit
section
variable {C : XC} {t0 : Ty} {q : MQ} {p : Nat × Xs} {r : MF} {rest : List MF} {k : Nat} {fn : Fn} {t : Ty} {cells : List Ins} {below : List Nat} {aw : List Nat}
/- an instruction that costs, and goes on here; the next step of the real may belong to it -/
theorem RelX.cost2 (h : RelX C t0 q p r rest k fn t cells below) (ho : ¬ ((opAt fn r.pc).op = 2 ∨ (opAt fn r.pc).op = 3 ∨ (opAt fn r.pc).op = 5 ∨ (opAt fn r.pc).op = 11)) {c : Ins} (hc : cells[posF C.M fn t r.pc + 1]? = some c) (hf : free c.op = false)
    (hd : ∀ n, p.1 = n + 1 → ∃ m s', deedM C.num C.M fn ⟨{ r with pc := r.pc + 1 } :: rest, n, p.2.S, p.2.H⟩ (opAt fn r.pc) = some m ∧ coreX C { p.2 with pc := p.2.pc + 1 } c = .ok s' ∧ ((m.1 = 0 ∧ RelE C t0 m.2 (n, s')) ∨ PostN C t0 (stepX C (n, s')) m)) : Sim1 C t0 q p := by
  obtain ⟨hcell, hff⟩ := h.cell hc
  have hfn : C.M.funcs[r.f.toNat]? = some fn := h.fnM
  have hlt := h.at_.lt
  rcases Nat.eq_zero_or_pos p.1 with h0 | h0
  · exact h.cost ho hc hf (fun n hn => by omega)
  obtain ⟨n, hn⟩ : ∃ n, p.1 = n + 1 := ⟨p.1 - 1, by omega⟩
  obtain ⟨m, s', h1, h2, h3⟩ := hd n hn
  obtain ⟨n', s⟩ := p
  dsimp only at hn hcell hff h2
  subst hn
  have hqf : q.fuel = n + 1 := h.fuel
  have hsx : stepX C (n + 1, s) = .ok (n, s') := by
    unfold stepX
    dsimp only
    rw [hcell, hf]
    simp only [Bool.false_eq_true, if_false, Nat.add_sub_cancel]
    rw [if_neg (by omega), h2]
  have hsm : stepM C.num C.M q = some m := by
    unfold stepM
    rw [h.fr]
    dsimp only
    rw [hfn]
    dsimp only
    rw [if_neg (by omega), if_neg (by omega), if_neg (by omega), if_neg (by omega), if_neg (by omega), hqf]
    rw [← h1]
    unfold MQ.top
    rw [h.fr, show q.S = s.S from h.S, show q.H = s.H from h.H]
    rfl
  left
  rcases h3 with h3 | h3
  · exact ⟨.ok (n, s'), m, .inl hsx, .inl hsm, h3⟩
  · exact ⟨stepX C (n, s'), m, .inr ⟨_, hsx, rfl⟩, .inl hsm, h3⟩
/- the label's type is there, and is the value's -/
theorem lab_ok (hz : Fz C k fn t cells) {pc l : Nat} (hlt : pc < fn.body.length) {f : VF} (hf : (vsAt C.M fn t pc).ctl[l]? = some f) : labF f = 64 ∨ isVal (labF f) := by
  obtain ⟨hs, hJ⟩ := (hz.tw.at_ pc hlt).js
  have := hJ.vi.atL (l := l) (List.getElem?_eq_some_iff.1 hf).1
  rw [label_at hf] at this
  exact this
theorem RelX.br (h : RelX C t0 q p r rest k fn t cells below) (ho : (opAt fn r.pc).op = 12) : Sim1 C t0 q p := by
  have hT := h.fz.tw
  have hn := h.nlt (by omega)
  obtain ⟨f0, rr, hc, hf, hdd, hfl, hz, hops⟩ := h.vst
  have hst := (hT.at_ r.pc h.at_.lt).v hn
  have hx := h.opR.x
  unfold u32R at hx
  have hlen := (hT.op1 r.pc h.at_.lt).1
  unfold stepV at hst
  rw [if_neg (by omega), if_neg (by omega), if_neg (by omega), if_neg (by omega), if_neg (by omega), if_neg (by omega), if_pos ho] at hst
  rcases iteC hst with ⟨_, hst⟩ | ⟨hll, hst⟩
  · simp at hst
  obtain ⟨s, f, hL⟩ := hT.lab h.at_.lt (l := (opAt fn r.pc).x.toNat) (by omega)
  rw [label_at hL.fr] at hst
  by_cases c1 : ¬ ((carryV (vsAt C.M fn t r.pc) (labF f)).2 = true)
  · rw [if_neg c1] at hst; simp at hst
  replace c1 := Classical.not_not.1 c1
  refine h.cost2 (by omega) (hT.lay_br h.at_.lt h.at_.lv ho hL) rfl (fun n hn => ?_)
  have hol : f0.floor ≤ r.ops.length := by rw [hops] at hf; simpa using hf
  obtain ⟨m, h1, h2⟩ := branch_both (n := n) (r1 := { r with pc := r.pc + 1 }) (q1 := ⟨{ r with pc := r.pc + 1 } :: rest, n, p.2.S, p.2.H⟩) (s1 := { p.2 with pc := p.2.pc + 1 }) (c := ⟨12, (labT C.M fn t f s : Int), packP (gLen (labF f)) f.floor⟩) (rest := rest) h.fz h.at_.lt h.at_.lv hL hc rfl h.at_.f h.at_.labs (fun m hm => by dsimp only; rw [← hops]) (by exact hfl) hol (fun hne => by
    rcases lab_ok h.fz h.at_.lt hL.fr with e | e
    · exact absurd e hne
    · obtain ⟨rs, e1, e2, e4⟩ := carry_ty hc hf hdd e c1 hz
      obtain ⟨l0, v, hl, hv, hr, hrl, hvok, hal, hw⟩ := h.top1 e1
      exact ⟨l0, v, hl, hv, by rw [← hrl]; exact e4⟩) h.at_.loc h.at_.ok h.ws h.base h.fn_ h.stk rfl rfl rfl h.gl2 rfl rfl
  refine ⟨m, _, ?_, ?_, h2⟩
  · rw [← h1]
    unfold deedM
    dsimp only
    rw [if_neg (show ¬ (opAt fn r.pc).op = 0 by omega), if_neg (show ¬ (opAt fn r.pc).op = 1 by omega), if_neg (show ¬ (opAt fn r.pc).op = 4 by omega), if_pos ho]
  · unfold coreX
    simp
theorem RelX.brif (h : RelX C t0 q p r rest k fn t cells below) (ho : (opAt fn r.pc).op = 13) : Sim1 C t0 q p := by
  have hT := h.fz.tw
  have hn := h.nlt (by omega)
  obtain ⟨f0, rr, hc, hf, hdd, hfl, hz, hops⟩ := h.vst
  have hst := (hT.at_ r.pc h.at_.lt).v hn
  have hx := h.opR.x
  unfold u32R at hx
  have hlen := (hT.op1 r.pc h.at_.lt).1
  unfold stepV at hst
  rw [if_neg (by omega), if_neg (by omega), if_neg (by omega), if_neg (by omega), if_neg (by omega), if_neg (by omega), if_neg (by omega), if_pos ho] at hst
  by_cases c0 : ¬ ((carryV (vsAt C.M fn t r.pc) 127).2 = true)
  · rw [if_neg c0] at hst; simp at hst
  replace c0 := Classical.not_not.1 c0
  rw [if_pos c0] at hst
  obtain ⟨rs, e1, e2, e4⟩ := carry_ty hc hf hdd (by unfold isVal; omega) c0 hz
  rw [e2] at hst
  rcases iteC hst with ⟨_, hst⟩ | ⟨hll, hst⟩
  · simp at hst
  dsimp only at hll
  obtain ⟨s, f, hL⟩ := hT.lab h.at_.lt (l := (opAt fn r.pc).x.toNat) (by omega)
  have hlab : labelV ⟨rs, (vsAt C.M fn t r.pc).ctl⟩ (opAt fn r.pc).x.toNat = labF f := label_at (v := ⟨rs, (vsAt C.M fn t r.pc).ctl⟩) hL.fr
  rw [hlab] at hst
  by_cases c1 : ¬ ((carryV ⟨rs, (vsAt C.M fn t r.pc).ctl⟩ (labF f)).2 = true)
  · rw [if_neg c1] at hst; simp at hst
  replace c1 := Classical.not_not.1 c1
  rw [if_pos c1] at hst
  obtain ⟨g0, g1, g2, g3⟩ := give_ty hst
  dsimp only at g0 g1 g2 g3
  obtain ⟨l0, v, hl, hv, hr, hrl, hvok, hal, hw⟩ := h.top1 e1
  have hz1 : ∀ x, x ∈ rs → x ≠ 0 := fun x hx => hz x (by rw [e1]; exact List.mem_cons_of_mem _ hx)
  -- what falls through
  have hct2 : (vsAt C.M fn t (r.pc + 1)).ctl = (vsAt C.M fn t r.pc).ctl := by rw [g1, carryV_ctl]
  have hop2 : (vsAt C.M fn t (r.pc + 1)).ops = rs := by
    rcases lab_ok h.fz h.at_.lt hL.fr with e | e
    · rw [g2, if_pos e, e]
      unfold carryV
      rw [if_pos rfl]
      rfl
    · obtain ⟨rs2, d1, d2, d4⟩ := carry_ty (v := ⟨rs, (vsAt C.M fn t r.pc).ctl⟩) hc e4 hdd e c1 hz1
      dsimp only at d1
      rw [g2, if_neg (isVal_ne e), d2, d1]
      rfl
  obtain ⟨hcell, hpos⟩ := hT.lay_brif h.at_.lt h.at_.lv ho hL
  have hpop : popM { r with pc := r.pc + 1 } 127 = some (v, { r with pc := r.pc + 1, ops := l0 }) := popM_snoc hl (by show r.floor ≤ _; rw [hfl, ← hrl]; exact e4) (.inr hv)
  have hw1 := ws1 (s := { p.2 with pc := p.2.pc + 1 }) (by exact hw)
  have hos : osAt fn (r.pc + 1) = osAt fn r.pc := os_same (by omega)
  refine h.cost2 (by omega) hcell rfl (fun n hn' => ?_)
  have hco : coreX C { p.2 with pc := p.2.pc + 1 } ⟨13, (labT C.M fn t f s : Int), packP (gLen (labF f)) f.floor⟩ = .ok (if v.b = 0 then { p.2 with pc := p.2.pc + 1, ws := below ++ bitsM r.loc ++ bitsM l0 } else branchX C { p.2 with pc := p.2.pc + 1, ws := below ++ bitsM r.loc ++ bitsM l0 } ⟨13, (labT C.M fn t f s : Int), packP (gLen (labF f)) f.floor⟩) := by
    unfold coreX
    rw [if_neg (by dsimp only; omega), if_neg (by dsimp only; omega), if_neg (by dsimp only; omega), if_neg (by dsimp only; omega), if_pos rfl, hw1.1, hw1.2.1]
  have hde : deedM C.num C.M fn ⟨{ r with pc := r.pc + 1 } :: rest, n, p.2.S, p.2.H⟩ (opAt fn r.pc) = if v.b = 0 then some (0, ⟨{ r with pc := r.pc + 1, ops := l0 } :: rest, n, p.2.S, p.2.H⟩) else branchM C.M fn ⟨{ r with pc := r.pc + 1, ops := l0 } :: rest, n, p.2.S, p.2.H⟩ (opAt fn r.pc).x.toNat := by
    unfold deedM
    dsimp only
    rw [if_neg (show ¬ (opAt fn r.pc).op = 0 by omega), if_neg (show ¬ (opAt fn r.pc).op = 1 by omega), if_neg (show ¬ (opAt fn r.pc).op = 4 by omega), if_neg (show ¬ (opAt fn r.pc).op = 12 by omega), if_pos ho, hpop]
    rfl
  rw [hde]
  by_cases hv0 : v.b = 0
  · rw [if_pos hv0] at hco ⊢
    refine ⟨_, _, rfl, hco, .inl ⟨rfl, { r with pc := r.pc + 1, ops := l0 }, rest, k, fn, t, cells, below, h.fz, ⟨h.at_.f, hn, fun x hx => ?_, ?_, ?_, h.at_.loc, hal⟩, rfl, rfl, rfl, rfl, h.fn_, ?_, rfl, h.base, h.stk, h.gl2⟩⟩
    · dsimp only at hx
      rw [hct2] at hx
      exact h.at_.lv x hx
    · dsimp only
      rw [hop2, hr]
      rfl
    · dsimp only
      rw [h.at_.labs]
      exact labsF_same hos.symm
    · dsimp only
      rw [hpos, h.pc]
  · rw [if_neg hv0] at hco ⊢
    have hrt : (l0.map MV.t).reverse = rs := hr.symm
    obtain ⟨m, h1, h2⟩ := branch_both (n := n) (r1 := { r with pc := r.pc + 1, ops := l0 }) (q1 := ⟨{ r with pc := r.pc + 1, ops := l0 } :: rest, n, p.2.S, p.2.H⟩) (s1 := { p.2 with pc := p.2.pc + 1, ws := below ++ bitsM r.loc ++ bitsM l0 }) (c := ⟨13, (labT C.M fn t f s : Int), packP (gLen (labF f)) f.floor⟩) (rest := rest) h.fz h.at_.lt h.at_.lv hL hc rfl h.at_.f h.at_.labs (fun m hm => by dsimp only; rw [hrt, e1, bot_cons (by omega)]) (by exact hfl) (by dsimp only; omega) (fun hne => by
      rcases lab_ok h.fz h.at_.lt hL.fr with e | e
      · exact absurd e hne
      · obtain ⟨rs2, d1, d2, d4⟩ := carry_ty (v := ⟨rs, (vsAt C.M fn t r.pc).ctl⟩) hc e4 hdd e c1 hz1
        dsimp only at d1
        rw [← hrt] at d1
        obtain ⟨l1, v1, y1, y2, y3⟩ := snoc_of d1
        exact ⟨l1, v1, y1, y2, by rw [y3] at d4; simpa using d4⟩) h.at_.loc hal rfl h.base h.fn_ h.stk rfl rfl rfl h.gl2 rfl rfl
    exact ⟨m, _, h1, hco, h2⟩
theorem RelX.table (h : RelX C t0 q p r rest k fn t cells below) (ho : (opAt fn r.pc).op = 14) : Sim1 C t0 q p := by
  have hT := h.fz.tw
  have hn := h.nlt (by omega)
  obtain ⟨f0, rr, hc, hf, hdd, hfl, hz, hops⟩ := h.vst
  have hst := (hT.at_ r.pc h.at_.lt).v hn
  have hx := h.opR.x
  unfold u32R at hx
  have hy := h.opR.y
  unfold u64R at hy
  unfold stepV at hst
  rw [if_neg (by omega), if_neg (by omega), if_neg (by omega), if_neg (by omega), if_neg (by omega), if_neg (by omega), if_neg (by omega), if_neg (by omega), if_pos ho] at hst
  by_cases c0 : ¬ ((carryV (vsAt C.M fn t r.pc) 127).2 = true)
  · rw [if_neg c0] at hst; simp at hst
  replace c0 := Classical.not_not.1 c0
  rw [if_pos c0] at hst
  obtain ⟨rs, e1, e2, e4⟩ := carry_ty hc hf hdd (by unfold isVal; omega) c0 hz
  rw [e2] at hst
  rcases iteC hst with ⟨_, hst⟩ | ⟨hno, hst⟩
  · simp at hst
  rcases iteC hst with ⟨_, hst⟩ | ⟨_, hst⟩
  · simp at hst
  have hfit := tableV_fit _ _ hst
  obtain ⟨l0, v, hl, hv, hr, hrl, hvok, hal, hw⟩ := h.top1 e1
  have hz1 : ∀ x, x ∈ rs → x ≠ 0 := fun x hx => hz x (by rw [e1]; exact List.mem_cons_of_mem _ hx)
  obtain ⟨hcell, hy1, htl, hrows⟩ := hT.lay_table h.at_.lt h.at_.lv ho
  obtain ⟨i, hi⟩ : ∃ i, (if v.b < (opAt fn r.pc).y.toNat - 1 then v.b else (opAt fn r.pc).y.toNat - 1) = i := ⟨_, rfl⟩
  have hiy : i < (opAt fn r.pc).y.toNat := by rw [← hi]; split <;> omega
  obtain ⟨l, hlt, hll, hrow⟩ := hrows i hiy
  obtain ⟨s, f, hL⟩ := hT.lab h.at_.lt hll
  have hcr := hrow s f hL
  have hpop : popM { r with pc := r.pc + 1 } 127 = some (v, { r with pc := r.pc + 1, ops := l0 }) := popM_snoc hl (by show r.floor ≤ _; rw [hfl, ← hrl]; exact e4) (.inr hv)
  have hw1 := ws1 (s := { p.2 with pc := p.2.pc + 1 }) (by exact hw)
  have hrt : (l0.map MV.t).reverse = rs := hr.symm
  refine h.cost2 (by omega) hcell rfl (fun n hn' => ?_)
  have hff : ffX C { p.2 with pc := p.2.pc + 1 } = ⟨t.p.size, t.p.size + fn.locals.size, t.q.size, cells.tail⟩ := (h.cell hcell).2
  have hcg : cells.tail.getD (p.2.pc + 1 + i) Ins.zero = ⟨225, (labT C.M fn t f s : Int), packP (gLen (labF f)) f.floor⟩ := by
    refine getD_of ?_
    rw [List.getElem?_tail, h.pc, show posF C.M fn t r.pc + 1 + i + 1 = posF C.M fn t r.pc + 2 + i by omega]
    exact hcr
  have hco : coreX C { p.2 with pc := p.2.pc + 1 } ⟨14, (opAt fn r.pc).y, 0⟩ = .ok (branchX C { p.2 with pc := p.2.pc + 1, ws := below ++ bitsM r.loc ++ bitsM l0 } ⟨225, (labT C.M fn t f s : Int), packP (gLen (labF f)) f.floor⟩) := by
    unfold coreX
    rw [if_neg (by dsimp only; omega), if_neg (by dsimp only; omega), if_neg (by dsimp only; omega), if_neg (by dsimp only; omega), if_neg (by dsimp only; omega), if_neg (by dsimp only; omega), if_pos rfl, hw1.1, hw1.2.1, hff]
    dsimp only
    rw [hi, hcg]
  have hgt : fn.tabs.getD ((opAt fn r.pc).x.toNat + i) 0 = (l : Int) := getD_of hlt
  have hde : deedM C.num C.M fn ⟨{ r with pc := r.pc + 1 } :: rest, n, p.2.S, p.2.H⟩ (opAt fn r.pc) = branchM C.M fn ⟨{ r with pc := r.pc + 1, ops := l0 } :: rest, n, p.2.S, p.2.H⟩ l := by
    unfold deedM
    dsimp only
    rw [if_neg (show ¬ (opAt fn r.pc).op = 0 by omega), if_neg (show ¬ (opAt fn r.pc).op = 1 by omega), if_neg (show ¬ (opAt fn r.pc).op = 4 by omega), if_neg (show ¬ (opAt fn r.pc).op = 12 by omega), if_neg (show ¬ (opAt fn r.pc).op = 13 by omega), if_pos ho, hpop]
    dsimp only
    rw [if_neg (show ¬ ((opAt fn r.pc).y < 1 ∨ (fn.tabs.length : Int) < (opAt fn r.pc).x + (opAt fn r.pc).y) by omega), hi, hgt]
    rfl
  obtain ⟨m, h1, h2⟩ := branch_both (n := n) (r1 := { r with pc := r.pc + 1, ops := l0 }) (q1 := ⟨{ r with pc := r.pc + 1, ops := l0 } :: rest, n, p.2.S, p.2.H⟩) (s1 := { p.2 with pc := p.2.pc + 1, ws := below ++ bitsM r.loc ++ bitsM l0 }) (c := ⟨225, (labT C.M fn t f s : Int), packP (gLen (labF f)) f.floor⟩) (rest := rest) h.fz h.at_.lt h.at_.lv hL hc rfl h.at_.f h.at_.labs (fun m hm => by dsimp only; rw [hrt, e1, bot_cons (by omega)]) (by exact hfl) (by dsimp only; omega) (fun hne => by
    have hfi := hfit i hiy
    rw [hgt] at hfi
    have hlab : labelV ⟨rs, (vsAt C.M fn t r.pc).ctl⟩ ((l : Int).toNat) = labF f := label_at (v := ⟨rs, (vsAt C.M fn t r.pc).ctl⟩) hL.fr
    rw [hlab] at hfi
    unfold fitsV at hfi
    rw [if_neg hne, VS.top_of (v := ⟨rs, (vsAt C.M fn t r.pc).ctl⟩) hc] at hfi
    dsimp only at hfi
    by_cases hfe : rs.length = f0.floor
    · rw [if_pos hfe, hdd] at hfi; simp at hfi
    · rw [if_neg hfe] at hfi
      cases hrs : rs with
      | nil => rw [hrs] at hfe e4; simp at hfe e4; omega
      | cons a rs2 =>
        rw [hrs] at hfi hfe e4
        have ha := hz1 a (by rw [hrs]; simp)
        simp at hfi
        rcases hfi with hfi | hfi
        · exact absurd hfi ha
        · subst hfi
          rw [hrs] at hrt
          obtain ⟨l1, v1, y1, y2, y3⟩ := snoc_of hrt
          refine ⟨l1, v1, y1, y2, ?_⟩
          have : rs2.length = l1.length := by rw [y3]; simp
          simp at hfe e4
          omega) h.at_.loc hal rfl h.base h.fn_ h.stk rfl rfl rfl h.gl2 rfl rfl
  exact ⟨m, _, hde.trans h1, hco, h2⟩
end
end Go.Proofs.Qxb6500275aGreatDoor
