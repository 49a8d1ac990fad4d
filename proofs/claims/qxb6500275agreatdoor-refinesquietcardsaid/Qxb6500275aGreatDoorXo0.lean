import Derived.Test.Qxb6500275aGreatDoorXme
set_option linter.unusedVariables false
set_option linter.unusedSimpArgs false
set_option maxRecDepth 100000
namespace Go.Proofs.Qxb6500275aGreatDoor
open Go Go.RowKit
/- WHAT ONE STEP OF THE MODEL'S MACHINE MAY LEAN ON: a frame's measures -/
structure FB (r : MF) : Prop where
  pc : r.pc ≤ 96
  loc : r.loc.length ≤ 10
  ops : r.ops.length ≤ 10
  labs : r.labs.length ≤ 8
  ok : ∀ v, v ∈ r.loc ∨ v ∈ r.ops → v.t < 256 ∧ v.b < 18446744073709551616
  fl : r.floor ≤ r.ops.length
  lab : ∀ l, l ∈ r.labs → l.1 ≤ 96 ∧ l.2 ≤ r.floor
  f : -1 ≤ r.f ∧ r.f < 100
structure MB (M : Mod) (q : MQ) : Prop where
  top : ∃ r rest fn t, q.fr = r :: rest ∧ rest ≠ [] ∧ rest.length ≤ 6 ∧ FB r ∧ 0 ≤ r.f ∧ M.funcs[r.f.toNat]? = some fn ∧ M.typeOf ((M.imports.length : Int) + r.f) = some t ∧ ∀ l, l ∈ r.labs → l.1 < fn.body.length
  sm : SmOk q.S
  hm : HmOk q.H
  tab : ∀ x, x ∈ q.S.tab → x < ((M.imports.length + M.funcs.length : Nat) : Int)
  bd : q.H.bd.length = M.imports.length
  gl : GlOk M q.S
/- on and on, with these at every step -/
def itB (num : NumF0) (M : Mod) : Nat → Nat × MQ → Nat × MQ → Prop
  | 0, p, m => m = p ∧ (p.1 ≠ 0 ∨ p.2.fr.length ≤ 1)
  | n + 1, p, m => p.1 = 0 ∧ 1 < p.2.fr.length ∧ MB M p.2 ∧ ∃ p', stepM num M p.2 = some p' ∧ itB num M n p' m
section
variable {C : XC} {t0 : Ty} {q : MQ} {p : Nat × Xs} {r : MF} {rest : List MF} {k : Nat} {fn : Fn} {t : Ty} {cells : List Ins} {below : List Nat} {aw : List Nat}
theorem Fl.all : ∀ {h : Nat} {c : List VF}, Fl h c → ∀ f, f ∈ c → f.floor ≤ h
  | h, [], _, f, hf => by simp at hf
  | h, g :: r, hF, f, hf => by
    rcases List.mem_cons.1 hf with rfl | hf
    · exact hF.1
    · exact Nat.le_trans (Fl.all hF.2 f hf) hF.1
theorem Stk.len : ∀ {rest : List MF} {xs : List Fr} {ws : List Nat} {t : Ty}, Stk C t0 rest xs ws t → rest.length = xs.length + 1
  | [], _, _, _, h => by simp [Stk] at h
  | [root], [], _, _, h => rfl
  | [root], x :: xs, _, _, h => by
    obtain ⟨_, _, _, _, _, _, _, _, _, _, _, h⟩ := h
    simp [Stk] at h
  | a :: b :: rest, [], _, _, h => by simp [Stk] at h
  | a :: b :: rest, x :: xs, _, _, h => by
    obtain ⟨_, _, _, _, _, _, _, _, _, _, _, h⟩ := h
    have := Stk.len h
    simp at this ⊢
    exact this
theorem RelX.fb (h : RelX C t0 q p r rest k fn t cells below) : FB r ∧ ∀ l, l ∈ r.labs → l.1 < fn.body.length := by
  have hT := h.fz.tw
  have hlt := h.at_.lt
  have hnb := hT.hF.nb.2
  obtain ⟨hs, hj⟩ := (hT.at_ r.pc hlt).js
  obtain ⟨f, rr, hc, hf1, hf2⟩ := hT.parts hlt
  have hfl := h.at_.floor hT hc
  have hops := h.at_.ops
  have hol : r.ops.length = (vsAt C.M fn t r.pc).ops.length := by rw [hops]; simp
  have hlO := hj.vi.lO
  have hlC := hj.vi.lC
  have hloc : r.loc.length = t.p.size + fn.locals.size := by
    have := congrArg List.length h.at_.loc
    rw [List.length_append, tysB_len, tysB_len] at this
    simpa using this
  have hnp := hT.hT.np
  have hnl := hT.hF.nl
  obtain ⟨hlen, hO⟩ := hT.op1 r.pc hlt
  have hlabs : r.labs = labsF C.M fn t r.pc := h.at_.labs
  have hll : r.labs.length = (osAt fn r.pc).length - 1 := by rw [hlabs]; unfold labsF; simp
  have hlab : ∀ l, l ∈ r.labs → l.1 < fn.body.length ∧ l.2 ≤ r.floor := fun l hl => by
    rw [hlabs] at hl
    unfold labsF at hl
    rw [List.mem_reverse, List.mem_map] at hl
    obtain ⟨s, hs1, rfl⟩ := hl
    have hs2 := (List.dropLast_sublist _).subset hs1
    obtain ⟨i, hi, he⟩ := List.getElem_of_mem hs2
    have ho := hO i s (by rw [List.getElem?_eq_getElem hi, he])
    obtain ⟨g, f', r', g1, g2, g3, g4, g5, g6, g7, g8⟩ := ho.fr
    have hle := ho.le
    refine ⟨by dsimp only; omega, ?_⟩
    dsimp only
    rw [← g6, ← g3, hfl]
    have hm : f' ∈ (vsAt C.M fn t r.pc).ctl := List.mem_of_mem_drop (by rw [g2]; exact List.mem_cons_self)
    rw [hc] at hm
    rcases List.mem_cons.1 hm with rfl | hm
    · exact Nat.le_refl _
    · exact Fl.all hf2 f' hm
  have hk := h.fz.fnE
  have hk2 := (List.getElem?_eq_some_iff.1 hk).1
  have hnf := hT.hM.nf
  refine ⟨⟨by omega, by omega, by omega, by omega, fun v hv => ?_, by rw [hfl, hol]; exact hf1, fun l hl => ⟨by have := (hlab l hl).1; omega, (hlab l hl).2⟩, by rw [h.at_.f]; omega⟩, fun l hl => (hlab l hl).1⟩
  have hv2 := h.at_.ok v hv
  have hty := hv2.ty
  unfold isVal at hty
  exact ⟨by omega, hv2.b⟩
theorem RelE.mb (h : RelE C t0 q p) (hG : Gd C p.2) : MB C.M q := by
  obtain ⟨r, rest, k, fn, t, cells, below, h⟩ := h
  obtain ⟨h1, h2⟩ := h.fb
  have hE := hG.env
  have hlen := h.stk.len
  have hdp := hG.dp
  refine ⟨⟨r, rest, fn, t, h.fr, h.stk.ne.1, by omega, h1, by rw [h.at_.f]; omega, ?_, ?_, h2⟩, by rw [h.S]; exact hE.sm, by rw [h.H]; exact hE.hm, by rw [h.S]; exact hE.tab, by rw [h.H]; exact hE.bd, h.gl⟩
  · rw [h.at_.f, Int.toNat_natCast]; exact h.fz.fnE
  · rw [h.at_.f]
    have := h.fz.ty
    rw [Int.natCast_add] at this
    exact this
theorem MB.nr {M : Mod} {q q1 : MQ} (h : MB M q) (hlabs : ∀ r rest fn, q.fr = r :: rest → M.funcs[r.f.toNat]? = some fn → r.labs.length ≤ 7 ∧ r.pc < fn.body.length) (hr : Nr q q1) : MB M q1 := by
  obtain ⟨r, rest, fn, t, e1, e2, e3, hF, ef0, e4, e5, e6⟩ := h.top
  obtain ⟨r', r1, rest', a1, a2, a3, a4, ⟨l, a5⟩, a6, a8, a9, a10, a11⟩ := hr
  rw [e1] at a1
  simp at a1
  obtain ⟨rfl, rfl⟩ := a1
  have hl7 := (hlabs r rest fn e1 e4).1
  have hol : r1.ops.length ≤ 10 := by
    have := hF.ops
    rw [a5, List.length_append] at this
    omega
  have hok : ∀ v, v ∈ r1.loc ∨ v ∈ r1.ops → v.t < 256 ∧ v.b < 18446744073709551616 := fun v hv => by
    refine hF.ok v ?_
    rcases hv with hv | hv
    · rw [a4] at hv; exact .inl hv
    · exact .inr (by rw [a5]; exact List.mem_append.2 (.inl hv))
  rcases a6 with ⟨a6, a7⟩ | ⟨a6, a7⟩
  · have hfl1 : r1.floor = r1.ops.length := by unfold MF.floor; rw [a6]; simp
    refine ⟨⟨r1, rest, fn, t, a2, e2, e3, ⟨a8, by rw [a4]; exact hF.loc, hol, by rw [a6]; simp; omega, hok, by rw [hfl1]; exact Nat.le_refl _, fun l hl => ?_, by rw [a3]; exact hF.f⟩, by rw [a3]; exact ef0, by rw [a3]; exact e4, by rw [a3]; exact e5, fun l hl => ?_⟩, by rw [a9]; exact h.sm, by rw [a10]; exact h.hm, by rw [a9]; exact h.tab, by rw [a10]; exact h.bd, by rw [a9]; exact h.gl⟩
    · rw [a6] at hl
      rw [hfl1]
      rcases List.mem_append.1 hl with hl | hl
      · have := hF.lab l hl
        exact ⟨this.1, Nat.le_trans this.2 a7⟩
      · simp at hl
        subst hl
        exact ⟨hF.pc, Nat.le_refl _⟩
    · rw [a6] at hl
      rcases List.mem_append.1 hl with hl | hl
      · exact e6 l hl
      · simp at hl
        subst hl
        exact (hlabs r rest fn e1 e4).2
  · have hfl1 : r1.floor = r.floor := by unfold MF.floor; rw [a6]
    refine ⟨⟨r1, rest, fn, t, a2, e2, e3, ⟨a8, by rw [a4]; exact hF.loc, hol, by rw [a6]; exact hF.labs, hok, by rw [hfl1, a7]; exact hF.fl, fun l hl => ?_, by rw [a3]; exact hF.f⟩, by rw [a3]; exact ef0, by rw [a3]; exact e4, by rw [a3]; exact e5, fun l hl => ?_⟩, by rw [a9]; exact h.sm, by rw [a10]; exact h.hm, by rw [a9]; exact h.tab, by rw [a10]; exact h.bd, by rw [a9]; exact h.gl⟩
    · rw [a6] at hl
      rw [hfl1]
      exact hF.lab l hl
    · rw [a6] at hl
      exact e6 l hl
/- THE WHOLE RUN, for whatever is kept by a step -/
theorem sim_runK (hK : CodeOk C) (hA : AllF C) (hN : NumX C.num) (hL : LdOk) (hTy : ∀ j : Nat, j < C.M.imports.length + C.M.funcs.length → ∃ t, C.M.typeOf (j : Int) = some t) (R : Nat × Xe) (K : Nat × MQ → Prop) (hstop : ∀ m, RdX C t0 R m → K m) (hgo : ∀ q m, MB C.M q → 1 < q.fr.length → stepM C.num C.M q = some m → K m → K (0, q)) :
    ∀ (d n : Nat) (q : MQ) (p : Nat × Xs), muM C.M q ≤ d → RelE C t0 q p → Gd C p.2 → iterX C n p = some R → K (0, q) := by
  intro d n
  induction n using Nat.strongRecOn generalizing d with
  | ind n ihn =>
    induction d using Nat.strongRecOn with
    | ind d ihd =>
      intro q p hd hR hG hi
      have hlen := hR.len
      have hmb := hR.mb hG
      obtain ⟨r, rest, k, fn, t, cells, below, h⟩ := hR
      have hre : ∀ m, ReachM C q m → K m → K (0, q) := fun m hr hm => by
        rcases hr with hr | ⟨q1, h1, h2, h3, h4⟩
        · exact hgo q m hmb hlen hr hm
        · refine hgo q _ hmb hlen h1 (hgo q1 m (hmb.nr (fun r' rest' fn' e1 e2 => ?_) h4) h2 h3 hm)
          rw [h.fr] at e1
          simp at e1
          obtain ⟨rfl, rfl⟩ := e1
          rw [h.at_.f, Int.toNat_natCast, h.fz.fnE] at e2
          simp at e2
          subst e2
          refine ⟨?_, h.at_.lt⟩
          have hlabs : r.labs = labsF C.M fn t r.pc := h.at_.labs
          have hll : r.labs.length = (osAt fn r.pc).length - 1 := by rw [hlabs]; unfold labsF; simp
          obtain ⟨hlen, hO⟩ := h.fz.tw.op1 r.pc h.at_.lt
          obtain ⟨hs, hj⟩ := (h.fz.tw.at_ r.pc h.at_.lt).js
          have := hj.vi.lC
          omega
      rcases h.sim hA hN hL hTy hG.env with ⟨X, m, hX, hM, hP⟩ | ⟨q', hs, hR', hmu⟩
      · cases n with
        | zero => simp [iterX] at hi
        | succ n =>
          rw [iterX] at hi
          rcases hX with hX | ⟨p1, hX1, hX2⟩
          · rw [hX] at hi
            cases X with
            | error e =>
              simp at hi
              subst hi
              exact hre m hM (hstop m hP)
            | ok p' =>
              obtain ⟨m1, m2⟩ := m
              obtain ⟨e0, hR'⟩ := hP
              dsimp only at e0 hR' hi
              subst e0
              exact hre _ hM (ihn n (by omega) _ m2 p' (Nat.le_refl _) hR' (hG.step (s' := p'.2) (m := p'.1) (n := p.1) hK (by rw [← hX])) hi)
          · rw [hX1] at hi
            dsimp only at hi
            have hG1 : Gd C p1.2 := hG.step (s' := p1.2) (m := p1.1) (n := p.1) hK (by rw [← hX1])
            cases n with
            | zero => simp [iterX] at hi
            | succ n =>
              rw [iterX, hX2] at hi
              cases X with
              | error e =>
                simp at hi
                subst hi
                exact hre m hM (hstop m hP)
              | ok p' =>
                obtain ⟨m1, m2⟩ := m
                obtain ⟨e0, hR'⟩ := hP
                dsimp only at e0 hR' hi
                subst e0
                exact hre _ hM (ihn n (by omega) _ m2 p' (Nat.le_refl _) hR' (hG1.step (s' := p'.2) (m := p'.1) (n := p1.1) hK (by rw [← hX2])) hi)
      · exact hgo q _ hmb hlen hs (ihd (muM C.M q') (by omega) q' p (Nat.le_refl _) hR' hG hi)
theorem RdX.itB {R : Nat × Xe} {m : Nat × MQ} (h : RdX C t0 R m) : itB C.num C.M 0 m m := by
  refine ⟨rfl, ?_⟩
  by_cases e : m.1 ≠ 0
  · exact .inl e
  · right
    obtain ⟨root, h1, _⟩ := h.ok (by rw [← h.e]; omega)
    rw [h1]
    simp
theorem sim_runB (hK : CodeOk C) (hA : AllF C) (hN : NumX C.num) (hL : LdOk) (hTy : ∀ j : Nat, j < C.M.imports.length + C.M.funcs.length → ∃ t, C.M.typeOf (j : Int) = some t) (R : Nat × Xe) {n : Nat} (hR : RelE C t0 q p) (hG : Gd C p.2) (hi : iterX C n p = some R) : ∃ n' m, itB C.num C.M n' (0, q) m ∧ RdX C t0 R m :=
  sim_runK hK hA hN hL hTy R (fun p => ∃ n' m, itB C.num C.M n' p m ∧ RdX C t0 R m) (fun m hm => ⟨0, m, hm.itB, hm⟩) (fun q m hb hl hs ⟨n', m', h1, h2⟩ => ⟨n' + 1, m', ⟨rfl, hl, hb, m, hs, h1⟩, h2⟩) _ n q p (Nat.le_refl _) hR hG hi
end
section
variable {C : XC} {fuel f : Nat} {vs : List MV} {S : Sm} {H : Hm} {t : Ty} {R : Nat × Xe}
/- A WHOLE RUN OF THE MODEL, with what each step leans on -/
theorem run_bothB (hK : CodeOk C) (hA : AllF C) (hN : NumX C.num) (hL : LdOk) (hTy : ∀ j : Nat, j < C.M.imports.length + C.M.funcs.length → ∃ t, C.M.typeOf (j : Int) = some t) (hty : C.M.typeOf (f : Int) = some t) (hvt : vs.map MV.t = tysB t.p) (hvok : ∀ v, v ∈ vs → VOk v) (hE : Env C (bitsM vs) S H) (hgl : GlOk C.M S)
    (h : RunR C fuel f (bitsM vs) S H R) : ∃ p0 n m, callM C.M ⟨[rootM vs], fuel, S, H⟩ f = some p0 ∧ itB C.num C.M n p0 m ∧ RdX C t R m := by
  have hM := hK.mod
  have hT := typeOf_ok hM hty
  have hvl : vs.length = t.p.size := by
    have := congrArg List.length hvt
    rw [tysB_len] at this
    simpa using this
  by_cases hni : f < C.M.imports.length
  · obtain ⟨p0, n, m, h1, h2, h3⟩ := run_both hK hA hN hL hTy hty hvt hvok hE hgl h
    have hl : p0.1 ≠ 0 ∨ p0.2.fr.length ≤ 1 := by
      unfold callM at h1
      rw [hty] at h1
      dsimp only at h1
      have hpops : popsM (rootM vs) (argsV t.p) = some (vs, rootM []) := by
        rw [argsV_rev, ← hvt]
        exact popsM_app _ vs (r := rootM vs) (l0 := []) rfl rfl (Nat.zero_le _)
      rw [hpops] at h1
      dsimp only at h1
      rw [if_pos hni] at h1
      right
      rcases iteC h1 with ⟨_, h1⟩ | ⟨_, h1⟩
      · simp at h1; rw [← h1]; simp
      · rcases iteC h1 with ⟨_, h1⟩ | ⟨_, h1⟩
        · simp at h1; rw [← h1]; simp
        · unfold layM at h1
          split at h1
          · simp at h1
          · simp at h1; rw [← h1]; simp [MQ.top]
    have hm : m = p0 := by
      cases n with
      | zero => rw [iterM, if_pos hl] at h2; simpa using h2.symm
      | succ n => rw [iterM, if_pos hl] at h2; simpa using h2.symm
    exact ⟨p0, 0, m, h1, ⟨hm, hl⟩, h3⟩
  · obtain ⟨fn', h1, h2⟩ := own_both (t0 := t) (f := f) (n := fuel) (q1 := ⟨[rootM vs], fuel, S, H⟩) (cur := []) (S := S) (H := H) (A := []) (rest' := [rootM []]) hA hM hty hni hvt hvok ⟨rfl, rfl, rfl, rfl⟩ rfl rfl rfl hgl
    have hpops : popsM (rootM vs) (argsV t.p) = some (vs, rootM []) := by
      rw [argsV_rev, ← hvt]
      exact popsM_app _ vs (r := rootM vs) (l0 := []) rfl rfl (Nat.zero_le _)
    rw [if_neg (by simp), if_neg (by simp), List.nil_append] at h2
    have hcm : callM C.M ⟨[rootM vs], fuel, S, H⟩ f = some (0, ⟨⟨((f - C.M.imports.length : Nat) : Int), 0, vs ++ (tysB fn'.locals).map (fun t => ⟨t, 0⟩), [], []⟩ :: [rootM []], fuel, S, H⟩) := by
      unfold callM
      rw [hty]
      dsimp only
      rw [hpops]
      dsimp only
      rw [if_neg hni, if_neg (by simp), h1]
    obtain ⟨hr1, hr2⟩ := typeOf_range hty
    obtain ⟨fn2, t2, cells2, hz⟩ := hA (f - C.M.imports.length) (by omega)
    rw [hz.ff] at h2
    dsimp only at h2
    have hex : enterX C (bitsM vs) [] f S H = .ok ⟨bitsM vs ++ List.replicate (t2.p.size + fn2.locals.size - t2.p.size) 0, [], f - C.M.imports.length, 0, (bitsM vs).length - t2.p.size, S, H⟩ := by
      unfold enterX
      rw [if_neg hni, if_neg (by simp), hz.ff]
    unfold RunR at h
    rw [hex] at h
    obtain ⟨n, h⟩ := h
    obtain ⟨n', m, h3, h4⟩ := sim_runB hK hA hN hL hTy R h2.2 (enter_gd hK hty hE (by rw [bitsM_len]; exact hvl) hex) h
    exact ⟨_, n', m, hcm, h3, h4⟩
end
end Go.Proofs.Qxb6500275aGreatDoor
