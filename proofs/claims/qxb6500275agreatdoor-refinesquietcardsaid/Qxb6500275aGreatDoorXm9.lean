import Derived.Test.Qxb6500275aGreatDoorXm8
set_option linter.unusedVariables false
set_option linter.unusedSimpArgs false
set_option maxRecDepth 100000
namespace Go.Proofs.Qxb6500275aGreatDoor
open Go Go.RowKit
section
variable {C : XC} {t0 : Ty} {q : MQ} {p : Nat × Xs} {r : MF} {rest : List MF} {k : Nat} {fn : Fn} {t : Ty} {cells : List Ins} {below : List Nat} {aw : List Nat}
/- what is waited for comes -/
theorem FrAt.push {a : Nat} {v : MV} (h : FrAt C.M fn t r k [a]) (hz : Fz C k fn t cells) (hv : v.t = a) (hok : VOk v) : pushM r v = some { r with ops := r.ops ++ [v] } ∧ FrAt C.M fn t { r with ops := r.ops ++ [v] } k [] := by
  obtain ⟨hs, hJ⟩ := (hz.tw.at_ r.pc h.lt).js
  have h10 := hJ.vi.lO
  have hops := h.ops
  have hlen : r.ops.length < 10 := by rw [hops] at h10; simp at h10; omega
  refine ⟨pushM_ok hlen, h.f, h.lt, h.lv, ?_, h.labs, h.loc, fun u hu => ?_⟩
  · dsimp only
    rw [hops, ty_rev_app, hv]
    rfl
  · rcases hu with hu | hu
    · exact h.ok u (.inl hu)
    · rcases List.mem_append.1 hu with hu | hu
      · exact h.ok u (.inr hu)
      · simp at hu; subst hu; exact hok
/- A FUNCTION ENDS -/
theorem ret_sim {r1 : MF} {q1 : MQ} {s1 : Xs} {n : Nat} {W : List Nat} (hz : Fz C k fn t cells) (hT : TyOk t) (hq : q1.fr = r1 :: rest) (hf : r1.f = (k : Int)) (hstk : Stk C t0 rest s1.fr below t) (hws : s1.ws = below ++ W) (hbase : s1.base = below.length) (hff : (ffX C s1).results = t.q.size)
    (htop : t.q.size = 1 → ∃ l0 v, r1.ops = l0 ++ [v] ∧ v.t = bAt t.q 0 ∧ r1.floor ≤ l0.length ∧ VOk v ∧ s1.topW = v.b) (hS : q1.S = s1.S) (hH : q1.H = s1.H) (hn : q1.fuel = n) (hgl : GlOk C.M q1.S) : ∃ m, retM C.M q1 = some m ∧ Post C t0 n (leaveX C s1) m := by
  have hty : C.M.typeOf ((C.M.imports.length : Int) + r1.f) = some t := by rw [hf, ← hz.ty]; rfl
  have hq1 := hT.nq
  have htk : s1.ws.take s1.base = below := by rw [hws, hbase, List.take_left]
  obtain ⟨hne, _⟩ := hstk.ne
  cases rest with
  | nil => exact absurd rfl hne
  | cons b rest =>
  unfold retM
  rw [hq]
  dsimp only
  rw [hty]
  dsimp only
  unfold leaveX
  rw [htk, hff]
  dsimp only
  by_cases h1 : t.q.size = 1
  · obtain ⟨l0, v, hl, hv, hfl, hvok, htw⟩ := htop h1
    rw [if_pos h1, popM_snoc hl hfl (.inr hv), if_pos h1, htw]
    dsimp only
    have hres : resL t = [bAt t.q 0] := by unfold resL; rw [if_neg (by omega)]
    cases hfr : s1.fr with
    | nil =>
      rw [hfr] at hstk
      cases rest with
      | cons a c => exact hstk.elim
      | nil =>
        obtain ⟨e1, e2, e3, e4⟩ := hstk
        rw [pushM_ok (by rw [e2]; simp)]
        refine ⟨_, rfl, rfl, hn, hS, hH, hgl, fun _ => ⟨_, rfl, ?_, ?_, fun u hu => ?_⟩⟩
        · dsimp only
          rw [e2, ← e1, hres, ← hv]
          rfl
        · dsimp only
          rw [e2, e4]
          rfl
        · dsimp only at hu
          rw [e2] at hu
          simp at hu
          subst hu
          exact hvok
    | cons x xs =>
      rw [hfr] at hstk
      obtain ⟨k2, fn2, t2, cells2, ws2, y1, y2, y3, y4, y5, y6, y7⟩ : ∃ k fn t' cells ws', Fz C k fn t' cells ∧ FrAt C.M fn t' b k (resL t) ∧ x.fn = k ∧ x.pc = posF C.M fn t' b.pc ∧ x.base = ws'.length ∧ below = ws' ++ bitsM b.loc ++ bitsM b.ops ∧ Stk C t0 rest xs ws' t' := by
        cases rest with
        | nil => exact hstk
        | cons a c => exact hstk
      rw [hres] at y2
      obtain ⟨u1, u2⟩ := y2.push y1 hv hvok
      rw [u1]
      refine ⟨_, rfl, rfl, { b with ops := b.ops ++ [v] }, rest, k2, fn2, t2, cells2, ws2, y1, u2, rfl, hn, hS, hH, y3, y4, ?_, y5, y7, hgl⟩
      dsimp only
      rw [y6, bits_snoc]
  · have h0 : t.q.size = 0 := by omega
    rw [if_neg h1, if_neg h1]
    have hres : resL t = [] := by unfold resL; rw [if_pos h0]
    cases hfr : s1.fr with
    | nil =>
      rw [hfr] at hstk
      cases rest with
      | cons a c => exact hstk.elim
      | nil =>
        obtain ⟨e1, e2, e3, e4⟩ := hstk
        refine ⟨_, rfl, rfl, hn, hS, hH, hgl, fun _ => ⟨_, rfl, ?_, ?_, fun u hu => ?_⟩⟩
        · rw [e2, ← e1, hres]
          rfl
        · rw [e2, e4]
          rfl
        · rw [e2] at hu
          simp at hu
    | cons x xs =>
      rw [hfr] at hstk
      obtain ⟨k2, fn2, t2, cells2, ws2, y1, y2, y3, y4, y5, y6, y7⟩ : ∃ k fn t' cells ws', Fz C k fn t' cells ∧ FrAt C.M fn t' b k (resL t) ∧ x.fn = k ∧ x.pc = posF C.M fn t' b.pc ∧ x.base = ws'.length ∧ below = ws' ++ bitsM b.loc ++ bitsM b.ops ∧ Stk C t0 rest xs ws' t' := by
        cases rest with
        | nil => exact hstk
        | cons a c => exact hstk
      rw [hres] at y2
      refine ⟨_, rfl, rfl, b, rest, k2, fn2, t2, cells2, ws2, y1, y2, rfl, hn, hS, hH, y3, y4, ?_, y5, y7, hgl⟩
      dsimp only
      rw [List.append_nil]
      exact y6
/- the function's own block -/
theorem Tw.bottom {M : Mod} {fn : Fn} {t : Ty} {cells : List Ins} (h : Tw M fn t cells) {pc : Nat} (hp : pc < fn.body.length) {f : VF} (hL : ∃ s, Lab M fn t pc ((osAt fn pc).length - 1) s f) : (∃ r0, (osAt fn pc).drop ((osAt fn pc).length - 1) = 0 :: r0 ∧ r0 = []) ∧ f.res = firstV t.q ∧ f.floor = 0 ∧ f.op = 2 ∧ (vsAt M fn t pc).ctl.getLastD VF.zero = f := by
  obtain ⟨s, hL⟩ := hL
  have hpos := h.os_pos hp
  obtain ⟨rr, h1, h2⟩ := hL.hd
  have hrr : rr = [] := List.length_eq_zero_iff.1 (by omega)
  subst hrr
  have hs0 : s = 0 := by
    rcases osAt_head h1 with ⟨e, _⟩ | ⟨p, e1, e2, _⟩
    · exact e
    · have := h.os_pos (pc := p) (by have := hL.lt; omega)
      rw [← e2] at this
      simp at this
  subst hs0
  obtain ⟨hlen, hO⟩ := h.op1 pc hp
  obtain ⟨_, _, g, f', r, g1, g2, g3, g4, g5, g6, _⟩ := hO _ 0 hL.os
  have hf' : f' = f := by
    have : ((vsAt M fn t pc).ctl.drop ((osAt fn pc).length - 1))[0]? = some f' := by rw [g2]; rfl
    rw [List.getElem?_drop] at this
    have h2 := hL.fr
    simp at this
    rw [this] at h2
    simpa using h2
  subst hf'
  simp [vsAt] at g1
  obtain ⟨rfl, rfl⟩ := g1
  refine ⟨⟨[], by rw [hL.drop, h1], rfl⟩, g4, g3, ?_, ?_⟩
  · rcases g5 with g5 | ⟨g5, _⟩
    · exact g5
    · simp at g5
  · have hd : (vsAt M fn t pc).ctl = (vsAt M fn t pc).ctl.take ((osAt fn pc).length - 1) ++ [f'] := by rw [← g2, List.take_append_drop]
    rw [hd]
    simp
theorem firstV_ty {t : Ty} (hT : TyOk t) (h : t.q.size = 1) : firstV t.q = bAt t.q 0 ∧ isVal (bAt t.q 0) := by
  refine ⟨by unfold firstV; rw [if_neg (by omega)], hT.q 0 (by omega)⟩
/- return -/
theorem RelX.ret (h : RelX C t0 q p r rest k fn t cells below) (ho : (opAt fn r.pc).op = 15) : Sim1 C t0 q p := by
  have hT := h.fz.tw
  have hn := h.nlt (by omega)
  obtain ⟨f, rr, hc, hf, hdd, hfl, hz, hops⟩ := h.vst
  have hst := (hT.at_ r.pc h.at_.lt).v hn
  have hpos := hT.os_pos h.at_.lt
  obtain ⟨sb, fb, hLb⟩ := hT.lab h.at_.lt (l := (osAt fn r.pc).length - 1) (by omega)
  obtain ⟨_, b2, b3, b4, b5⟩ := hT.bottom h.at_.lt ⟨sb, hLb⟩
  unfold stepV at hst
  rw [if_neg (by omega), if_neg (by omega), if_neg (by omega), if_neg (by omega), if_neg (by omega), if_neg (by omega), if_neg (by omega), if_neg (by omega), if_neg (by omega), if_pos ho, b5, b2] at hst
  by_cases c1 : ¬ ((carryV (vsAt C.M fn t r.pc) (firstV t.q)).2 = true)
  · rw [if_neg c1] at hst; simp at hst
  replace c1 := Classical.not_not.1 c1
  refine h.cost (by omega) (hT.lay_ret h.at_.lt h.at_.lv ho) rfl (fun n hn => ?_)
  have hd : deedM C.num C.M fn { q.top { r with pc := r.pc + 1 } with fuel := n } (opAt fn r.pc) = retM C.M { q.top { r with pc := r.pc + 1 } with fuel := n } := by
    unfold deedM MQ.top
    rw [h.fr]
    dsimp only
    rw [if_neg (show ¬ (opAt fn r.pc).op = 0 by omega), if_neg (show ¬ (opAt fn r.pc).op = 1 by omega), if_neg (show ¬ (opAt fn r.pc).op = 4 by omega), if_neg (show ¬ (opAt fn r.pc).op = 12 by omega), if_neg (show ¬ (opAt fn r.pc).op = 13 by omega), if_neg (show ¬ (opAt fn r.pc).op = 14 by omega), if_pos ho]
  have hcx : coreX C { p.2 with pc := p.2.pc + 1 } ⟨15, 0, 0⟩ = leaveX C { p.2 with pc := p.2.pc + 1 } := by unfold coreX; simp
  rw [hd, hcx]
  have hff : ffX C { p.2 with pc := p.2.pc + 1 } = ⟨t.p.size, t.p.size + fn.locals.size, t.q.size, cells.tail⟩ := by
    unfold ffX
    show C.fs.getD p.2.fn _ = _
    rw [h.fn_]
    exact getD_of h.fz.ff
  refine ret_sim (W := bitsM r.loc ++ bitsM r.ops) (r1 := { r with pc := r.pc + 1 }) (rest := rest) h.fz hT.hT (by unfold MQ.top; rw [h.fr]; rfl) h.at_.f h.stk (by show p.2.ws = _; rw [h.ws, List.append_assoc]) h.base (by rw [hff]) (fun h1 => ?_) h.S h.H rfl h.gl
  obtain ⟨v1, v2⟩ := firstV_ty hT.hT h1
  rw [v1] at c1
  obtain ⟨rs, e1, e2, e4⟩ := carry_ty hc hf hdd v2 c1 hz
  obtain ⟨l0, v, hl, hv, hr, hrl, hvok, hal, hw⟩ := h.top1 e1
  exact ⟨l0, v, hl, hv, by show r.floor ≤ _; rw [hfl, ← hrl]; exact e4, hvok, (ws1 (s := { p.2 with pc := p.2.pc + 1 }) (by exact hw)).1⟩
/- the function's own end -/
theorem Tw.end0 {M : Mod} {fn : Fn} {t : Ty} {cells : List Ins} (h : Tw M fn t cells) : endF fn 0 + 1 = fn.body.length := by
  have hb := h.hF.nb
  obtain ⟨h1, h2⟩ := h.last (pc := fn.body.length - 1) (by omega)
  have hos : osAt fn (fn.body.length - 1) = [0] := by
    obtain ⟨x, hx⟩ : ∃ x, osAt fn (fn.body.length - 1) = [x] := by
      cases hq : osAt fn (fn.body.length - 1) with
      | nil => rw [hq] at h2; simp at h2
      | cons a l => rw [hq] at h2; simp at h2; subst h2; exact ⟨a, rfl⟩
    obtain ⟨_, hO⟩ := h.op1 (fn.body.length - 1) (by omega)
    have h3 := (hO 0 x (by rw [hx]; rfl)).os
    have hle := (hO 0 x (by rw [hx]; rfl)).le
    rw [List.drop_zero, hx] at h3
    rcases osAt_head h3.symm with ⟨e, _⟩ | ⟨p, e1, e2, _⟩
    · rw [hx, e]
    · have := h.os_pos (pc := p) (by omega)
      rw [← e2] at this
      simp at this
  have := h.end_only (s := 0) (r := []) rfl (by omega) hos h1
  omega
theorem RelX.last_ (h : RelX C t0 q p r rest k fn t cells below) (ho : (opAt fn r.pc).op = 11) (h1l : (osAt fn r.pc).length = 1) : Sim1 C t0 q p := by
  have hT := h.fz.tw
  have hlt := h.at_.lt
  obtain ⟨s, r0, g, f, rr, I⟩ := h.inn
  have hr0 : r0 = [] := by rw [I.os] at h1l; simp at h1l; exact h1l
  subst hr0
  have hs0 : s = 0 := by
    rcases osAt_head I.ss with ⟨e, _⟩ | ⟨p, e1, e2, _⟩
    · exact e
    · have := hT.os_pos (pc := p) (by have := I.sn; omega)
      rw [← e2] at this
      simp at this
  subst hs0
  have hpe := hT.end_only I.ss I.sn I.os ho
  have hend := hT.end0
  have hlast : r.pc + 1 = fn.body.length := by omega
  obtain ⟨f2, rr2, hc, hf, hdd, hfl, hz, hops⟩ := h.vst
  rw [I.ctl] at hc
  simp at hc
  obtain ⟨rfl, rfl⟩ := hc
  obtain ⟨v', a, hv⟩ := (hT.at_ r.pc hlt).vl hlast
  obtain ⟨_, hset, _, _, _⟩ := stepV_yes hv
  have hsl := settled_live I.ctl I.flo hdd hz I.rv hset
  obtain ⟨w1, w2, w3⟩ := I.hd.fun_ rfl
  have hfl0 : f.floor = 0 := by rw [I.fl, I.hd.fl]; rfl
  have hres : f.res = firstV t.q := by rw [I.res, w2]
  have hb0 : bot f.floor (vsAt C.M fn t r.pc).ops = [] := List.length_eq_zero_iff.1 (by rw [bot_len I.flo]; exact hfl0)
  rw [hb0, List.append_nil, hres] at hsl
  have hol : r.ops.length = t.q.size := by
    have := congrArg List.length (hops.symm.trans hsl)
    rw [resV_len, firstV_len hT.hT] at this
    simpa using this
  have hlabs : r.labs = [] := by
    rw [h.at_.labs]
    refine List.length_eq_zero_iff.1 ?_
    rw [labsF_len, I.os]
    rfl
  have hcell := hT.lay_last hlast
  obtain ⟨hce, hff⟩ := h.cell hcell
  have hret : ∃ m, retM C.M q = some m ∧ Post C t0 p.1 (leaveX C { p.2 with pc := p.2.pc + 1 }) m := by
    have hff2 : ffX C { p.2 with pc := p.2.pc + 1 } = ⟨t.p.size, t.p.size + fn.locals.size, t.q.size, cells.tail⟩ := hff
    refine ret_sim (W := bitsM r.loc ++ bitsM r.ops) (r1 := r) (rest := rest) h.fz hT.hT h.fr h.at_.f h.stk (by show p.2.ws = _; rw [h.ws, List.append_assoc]) h.base (by rw [hff2]) (fun h1 => ?_) h.S h.H h.fuel h.gl
    obtain ⟨v1, v2⟩ := firstV_ty hT.hT h1
    have e1 : (vsAt C.M fn t r.pc).ops = bAt t.q 0 :: [] := by rw [hsl, v1]; unfold resV; rw [if_neg (isVal_ne v2)]
    obtain ⟨l0, v, hl, hv, hr, hrl, hvok, hal, hw⟩ := h.top1 e1
    exact ⟨l0, v, hl, hv, by rw [hfl, hfl0]; exact Nat.zero_le _, hvok, (ws1 (s := { p.2 with pc := p.2.pc + 1 }) (by exact hw)).1⟩
  obtain ⟨m, hm1, hm2⟩ := hret
  obtain ⟨n, sx⟩ := p
  dsimp only at hce hff hm2
  left
  refine ⟨match leaveX C { sx with pc := sx.pc + 1 } with | .ok s' => .ok (n, s') | .error e => .error (n, e), m, .inl ?_, .inl ?_, ?_⟩
  · unfold stepX
    dsimp only
    rw [hce]
    have : free 11 = true := rfl
    rw [if_pos this]
    have hcx : coreX C { sx with pc := sx.pc + 1 } ⟨11, 0, 0⟩ = leaveX C { sx with pc := sx.pc + 1 } := by unfold coreX; simp
    rw [hcx]
    generalize leaveX C { sx with pc := sx.pc + 1 } = Z
    cases Z <;> rfl
  · unfold stepM
    rw [h.fr]
    dsimp only
    rw [h.fnM]
    dsimp only
    have hty : C.M.typeOf ((C.M.imports.length : Int) + r.f) = some t := by rw [h.at_.f, ← h.fz.ty]; rfl
    rw [if_neg (show ¬ fn.body.length ≤ r.pc by omega), if_neg (show ¬ ((opAt fn r.pc).op = 2 ∨ (opAt fn r.pc).op = 3) by omega), if_neg (show ¬ (opAt fn r.pc).op = 5 by omega), if_pos ho, hlabs]
    dsimp only [List.getLast?_nil]
    rw [hty]
    dsimp only
    rw [if_neg (by rw [hol]; simp)]
    exact hm1
  · unfold Post at hm2
    unfold PostN
    cases hX : leaveX C { sx with pc := sx.pc + 1 } with
    | ok s' => rw [hX] at hm2; exact hm2
    | error e => rw [hX] at hm2; exact hm2
end
end Go.Proofs.Qxb6500275aGreatDoor
