import Derived.Test.Qxb6500275aGreatDoorXm7
set_option linter.unusedVariables false
set_option linter.unusedSimpArgs false
set_option maxRecDepth 100000
namespace Go.Proofs.Qxb6500275aGreatDoor
open Go Go.RowKit
section
variable {C : XC} {t0 : Ty} {q : MQ} {p : Nat × Xs} {r : MF} {rest : List MF} {k : Nat} {fn : Fn} {t : Ty} {cells : List Ins} {below : List Nat} {aw : List Nat}
/- the innermost block at the frame's place -/
structure Inn (C : XC) (fn : Fn) (t : Ty) (r : MF) (s : Nat) (r0 : List Nat) (g f : VF) (rr : List VF) : Prop where
  os : osAt fn r.pc = s :: r0
  ss : osAt fn s = s :: r0
  sn : s < fn.body.length
  le : s ≤ r.pc
  hd : Hd0 C.M fn t s g rr
  ctl : (vsAt C.M fn t r.pc).ctl = f :: rr
  fl : f.floor = g.floor
  res : f.res = g.res
  op : f.op = g.op ∨ g.op = 4 ∧ f.op = 5
  ops : (vsAt C.M fn t s).ops = bot g.floor (vsAt C.M fn t r.pc).ops
  flo : f.floor ≤ (vsAt C.M fn t r.pc).ops.length
  rv : f.res = 64 ∨ isVal f.res
theorem RelX.inn (h : RelX C t0 q p r rest k fn t cells below) : ∃ s r0 g f rr, Inn C fn t r s r0 g f rr := by
  have hT := h.fz.tw
  obtain ⟨s, r0, hos⟩ : ∃ s r0, osAt fn r.pc = s :: r0 := by
    cases hq : osAt fn r.pc with
    | nil => exact absurd hq h.osne
    | cons s l => exact ⟨s, l, rfl⟩
  obtain ⟨hlen, hO⟩ := hT.op1 r.pc h.at_.lt
  obtain ⟨q1, q2, g, f, rr, g1, g2, g3, g4, g5, g6, g7, g8⟩ := hO 0 s (by rw [hos]; rfl)
  rw [List.drop_zero] at q2 g2
  have hss : osAt fn s = s :: r0 := by rw [← q2]; exact hos
  have hsn : s < fn.body.length := by have := h.at_.lt; omega
  obtain ⟨g', rr', hd⟩ := hT.hd0 hss hsn
  have hgg : g' = g ∧ rr' = rr := by
    have := hd.ctl
    rw [g1] at this
    simp at this
    exact ⟨this.1.symm, this.2.symm⟩
  obtain ⟨rfl, rfl⟩ := hgg
  refine ⟨s, r0, g', f, rr', hos, hss, hsn, q1, hd, g2, g3, g4, g5, g8, by rw [g3]; exact g7, ?_⟩
  obtain ⟨hs', hJ⟩ := (hT.at_ r.pc h.at_.lt).js
  have := (hJ.vi.ctl f (by rw [g2]; simp)).2
  exact this
/- an else, reached: to the end, and beyond it -/
theorem RelX.else_ (h : RelX C t0 q p r rest k fn t cells below) (ho : (opAt fn r.pc).op = 5) : Sim1 C t0 q p := by
  have hT := h.fz.tw
  have hn := h.nlt (by omega)
  obtain ⟨s, r0, g, f, rr, I⟩ := h.inn
  obtain ⟨f2, rr2, hc, hf, hdd, hfl, hz, hops⟩ := h.vst
  rw [I.ctl] at hc
  simp at hc
  obtain ⟨rfl, rfl⟩ := hc
  have hst := (hT.at_ r.pc h.at_.lt).v hn
  have hS := hT.fine hn I.ctl I.flo
  obtain ⟨t1, t2, t3, t4⟩ := hS.tu ho
  have hr0 : r0 ≠ [] := fun e => by
    have h1 := (hT.op1 r.pc h.at_.lt).1
    rw [I.os, I.ctl, e] at h1
    simp at h1
    exact t2 h1
  unfold stepV at hst
  rw [if_neg (by omega), if_neg (by omega), if_neg (by omega), if_neg (by omega), if_pos ho] at hst
  by_cases hset : ¬ ((settledV (vsAt C.M fn t r.pc)).2 = true)
  · rw [if_neg hset] at hst; simp at hst
  replace hset := Classical.not_not.1 hset
  have hsl := settled_live I.ctl I.flo hdd hz I.rv hset
  have hlast := (labsF_tail (M := C.M) (t := t) (b := endF fn s + 1) I.ss (by
    have hm := hT.match_ I.sn
    have := hm.op
    rw [osAt, if_neg (by omega), if_pos hm.op, hT.os_end I.sn, I.ss]
    rfl) hr0).2
  have hlabs : r.labs = labsF C.M fn t s := by rw [h.at_.labs]; exact labsF_same (by rw [I.os, I.ss])
  have hs0 : s ≠ 0 := fun e => by
    subst e
    have := I.ss
    simp [osAt] at this
    exact hr0 this
  have hs1 : s - 1 + 1 = s := by omega
  obtain ⟨k1, k2, k3⟩ := end_step (q1 := q.top { r with pc := endF fn s }) (r1 := { r with pc := endF fn s }) (rest := rest) h.fz I.ss hr0 I.sn I.hd (fun x hx => h.at_.lv x (by rw [I.ctl]; exact List.mem_cons_of_mem _ hx)) (by unfold MQ.top; rw [h.fr]; rfl) h.at_.f rfl hlabs (by dsimp only; rw [← hops, hsl, I.res, I.fl, ← I.ops]) h.at_.loc h.at_.ok
  have hcell := hT.lay_else hn h.at_.lv ho I.os
  obtain ⟨hce, hff⟩ := h.cell hcell
  obtain ⟨n, sx⟩ := p
  dsimp only at hce hff
  left
  refine ⟨.ok (n, { sx with pc := tgtF C.M fn t s }), _, .inl ?_, .inr ⟨q.top { r with pc := endF fn s }, ?_, ?_, k1, ⟨r, { r with pc := endF fn s }, rest, h.fr, by unfold MQ.top; rw [h.fr]; rfl, rfl, rfl, ⟨[], by simp⟩, .inr ⟨rfl, rfl⟩, by have := (hT.match_ I.sn).lt; have := hT.hF.nb.2; dsimp only; omega, rfl, rfl, Nat.le_refl _⟩⟩, rfl, ?_⟩
  · unfold stepX
    dsimp only
    rw [hce]
    have : free 224 = true := rfl
    rw [if_pos this]
    unfold coreX
    simp
  · have := h.at_.lt
    unfold stepM
    rw [h.fr]
    dsimp only
    rw [h.fnM]
    dsimp only
    rw [if_neg (show ¬ fn.body.length ≤ r.pc by omega), if_neg (show ¬ ((opAt fn r.pc).op = 2 ∨ (opAt fn r.pc).op = 3) by omega), if_pos ho, hlabs, hlast]
    dsimp only
    rw [hs1]
  · have := h.stk.ne.1
    unfold MQ.top
    rw [h.fr]
    cases rest with
    | nil => exact absurd rfl this
    | cons a b => simp
  · exact ⟨_, rest, k, fn, t, cells, below, h.fz, k2, by unfold MQ.top; rw [h.fr]; rfl, h.fuel, h.S, h.H, h.fn_, k3.symm, h.ws, h.base, h.stk, h.gl⟩
/- an if -/
theorem RelX.if_ (h : RelX C t0 q p r rest k fn t cells below) (ho : (opAt fn r.pc).op = 4) : Sim1 C t0 q p := by
  have hT := h.fz.tw
  have hn := h.nlt (by omega)
  have hlt := h.at_.lt
  obtain ⟨f, rr, hc, hf, hdd, hfl, hz, hops⟩ := h.vst
  have hst := (hT.at_ r.pc h.at_.lt).v hn
  have hos : osAt fn (r.pc + 1) = (r.pc + 1) :: osAt fn r.pc := by rw [osAt, if_pos (by omega)]
  unfold stepV at hst
  rw [if_neg (by omega), if_neg (by omega), if_neg (by omega), if_pos ho] at hst
  by_cases c1 : ¬ ((carryV (vsAt C.M fn t r.pc) 127).2 = true)
  · rw [if_neg c1] at hst; simp at hst
  replace c1 := Classical.not_not.1 c1
  rw [if_pos c1] at hst
  obtain ⟨rs, e1, e2, e4⟩ := carry_ty hc hf hdd (by unfold isVal; omega) c1 hz
  rw [e2] at hst
  rcases iteC hst with ⟨_, hst⟩ | ⟨_, hst⟩
  · simp at hst
  simp at hst
  obtain ⟨l0, v, hl, hv, hr, hrl, hvok, hal, hw⟩ := h.top1 e1
  have hv1o : (vsAt C.M fn t (r.pc + 1)).ops = rs := by rw [← hst]
  have hv1c : (vsAt C.M fn t (r.pc + 1)).ctl = ⟨4, (opAt fn r.pc).x.toNat % 256, rs.length, false⟩ :: (vsAt C.M fn t r.pc).ctl := by rw [← hst]
  have hpop : popM { r with pc := r.pc + 1 } 127 = some (v, { r with pc := r.pc + 1, ops := l0 }) := popM_snoc hl (by show r.floor ≤ _; rw [hfl, ← hrl]; exact e4) (.inr hv)
  obtain ⟨hcell, hpos⟩ := hT.lay_if hn h.at_.lv ho
  have hlabs1 : r.labs ++ [(r.pc, l0.length)] = labsF C.M fn t (r.pc + 1) := by rw [labsF_push hos h.osne, h.at_.labs, hv1o, hrl]
  have hlv1 : Lv C.M fn t (r.pc + 1) := fun x hx => by
    rw [hv1c] at hx
    rcases List.mem_cons.1 hx with rfl | hx
    · rfl
    · exact h.at_.lv x hx
  obtain ⟨g, rr1, hd⟩ := hT.hd0 hos hn
  have hgg := hd.ctl
  rw [hv1c] at hgg
  simp at hgg
  obtain ⟨rfl, rfl⟩ := hgg
  have hw1 := ws1 (s := { p.2 with pc := p.2.pc + 1 }) (by exact hw)
  have hm := hT.match_ hn
  obtain ⟨g', f', rr', d1, d2, d3, d4, d5, d6, d7, d8⟩ := hT.fr_ends hos hn
  rw [hv1c] at d1
  simp at d1
  obtain ⟨rfl, rfl⟩ := d1
  obtain ⟨hce, hff⟩ := h.cell hcell
  have hfr4 : free 4 = false := rfl
  obtain ⟨n, sx⟩ := p
  dsimp only at hce hff hw hw1
  have hqf : q.fuel = n := h.fuel
  -- no fuel
  cases n with
  | zero =>
    refine h.cost (by omega) hcell rfl (fun n hn => by simp at hn)
  | succ n =>
    have hstepX : ∀ X, (coreX C { sx with pc := sx.pc + 1 } ⟨4, (altF C.M fn t (r.pc + 1) : Int), 0⟩) = .ok X → stepX C (n + 1, sx) = .ok (n, X) := fun X hX => by
      unfold stepX
      dsimp only
      rw [hce, hfr4]
      simp only [Bool.false_eq_true, if_false, Nat.add_eq_zero_iff, Nat.add_sub_cancel]
      rw [if_neg (by omega), hX]
    have hdm : ∀ X, deedM C.num C.M fn { q.top { r with pc := r.pc + 1 } with fuel := n } (opAt fn r.pc) = some X → stepM C.num C.M q = some X := fun X hX => by
      unfold stepM
      rw [h.fr]
      dsimp only
      rw [h.fnM]
      dsimp only
      rw [if_neg (show ¬ fn.body.length ≤ r.pc by omega), if_neg (show ¬ ((opAt fn r.pc).op = 2 ∨ (opAt fn r.pc).op = 3) by omega), if_neg (show ¬ (opAt fn r.pc).op = 5 by omega), if_neg (show ¬ (opAt fn r.pc).op = 11 by omega), if_neg (by omega), hqf]
      exact hX
    have hq1 : ({ q.top { r with pc := r.pc + 1 } with fuel := n } : MQ) = ⟨{ r with pc := r.pc + 1 } :: rest, n, sx.S, sx.H⟩ := by
      unfold MQ.top
      rw [h.fr, show q.S = sx.S from h.S, show q.H = sx.H from h.H]
      rfl
    have hdeed : deedM C.num C.M fn ⟨{ r with pc := r.pc + 1 } :: rest, n, sx.S, sx.H⟩ (opAt fn r.pc) = some (0, ⟨{ r with ops := l0, labs := r.labs ++ [(r.pc, l0.length)], pc := if v.b = 0 then (if 0 ≤ elsF fn (r.pc + 1) then (elsF fn (r.pc + 1)).toNat + 1 else endF fn (r.pc + 1)) else r.pc + 1 } :: rest, n, sx.S, sx.H⟩) := by
      unfold deedM
      dsimp only
      rw [if_neg (show ¬ (opAt fn r.pc).op = 0 by omega), if_neg (show ¬ (opAt fn r.pc).op = 1 by omega), if_pos ho, hpop]
      rfl
    have hgl : GlOk C.M sx.S := h.gl2
    have hco : coreX C { sx with pc := sx.pc + 1 } ⟨4, (altF C.M fn t (r.pc + 1) : Int), 0⟩ = .ok { sx with ws := below ++ bitsM r.loc ++ bitsM l0, pc := if v.b = 0 then altF C.M fn t (r.pc + 1) else sx.pc + 1 } := by
      unfold coreX
      rw [if_neg (by dsimp only; omega), if_neg (by dsimp only; omega), if_pos rfl]
      rw [hw1.1, hw1.2.1]
      rfl
    left
    by_cases hv0 : v.b = 0
    · rw [if_pos hv0] at hdeed hco
      rcases d8 with ⟨d8, d9⟩ | ⟨kk, k1, k2, k3, k4, k5, k6, k7⟩
      · -- no else: to the end, and beyond it
        rw [d9, if_neg (by omega)] at hdeed
        have hres : (opAt fn r.pc).x.toNat % 256 = 64 := by
          have hne : endF fn (r.pc + 1) + 1 < fn.body.length := by
            rcases Nat.lt_or_ge (endF fn (r.pc + 1) + 1) fn.body.length with h1 | h1
            · exact h1
            · have h2 := (hT.last (pc := endF fn (r.pc + 1)) (by have := hm.lt; omega)).2
              rw [hT.os_end hn, hos] at h2
              simp at h2
              exact absurd h2 h.osne
          have hS := hT.fine hne d2 (by rw [d3]; exact d6)
          obtain ⟨_, _, e3, _⟩ := hS.en hm.op
          by_cases e : (opAt fn r.pc).x.toNat % 256 = 64
          · exact e
          · exact absurd ⟨d8, by rw [d4]; exact e⟩ e3
        obtain ⟨k1, k2, k3⟩ := end_step (q1 := ⟨{ r with ops := l0, labs := r.labs ++ [(r.pc, l0.length)], pc := endF fn (r.pc + 1) } :: rest, n, sx.S, sx.H⟩) (r1 := { r with ops := l0, labs := r.labs ++ [(r.pc, l0.length)], pc := endF fn (r.pc + 1) }) (rest := rest) h.fz hos h.osne hn hd h.at_.lv rfl h.at_.f rfl hlabs1 (by dsimp only; rw [← hr, hv1o]; unfold resV; rw [if_pos hres]; rfl) h.at_.loc (fun u hu => hal u hu)
        refine ⟨.ok (n, { sx with ws := below ++ bitsM r.loc ++ bitsM l0, pc := altF C.M fn t (r.pc + 1) }), _, .inl (hstepX _ hco), .inr ⟨_, hdm _ (by rw [hq1]; exact hdeed), ?_, k1, ⟨r, _, rest, h.fr, rfl, rfl, rfl, ⟨[v], hl⟩, .inl ⟨rfl, by show r.floor ≤ l0.length; rw [hfl, ← hrl]; exact e4⟩, by have := hm.lt; have := hT.hF.nb.2; dsimp only; omega, (show q.S = sx.S from h.S).symm, (show q.H = sx.H from h.H).symm, by rw [hqf]; dsimp only; omega⟩⟩, rfl, ?_⟩
        · have := h.stk.ne.1
          cases rest with
          | nil => exact absurd rfl this
          | cons a b => simp
        · refine ⟨_, rest, k, fn, t, cells, below, h.fz, k2, rfl, rfl, rfl, rfl, h.fn_, ?_, rfl, h.base, h.stk, hgl⟩
          dsimp only
          rw [k3]
          unfold altF
          rw [if_pos d9]
      · -- an else: behind it
        rw [k5, if_pos (by omega)] at hdeed
        have hk1 : kk + 1 < fn.body.length := by have := hm.lt; omega
        obtain ⟨fk, rk, hck, hfk, _⟩ := hT.parts (pc := kk) (by omega)
        obtain ⟨_, hOk⟩ := hT.op1 kk (by omega)
        obtain ⟨a1, a2, ga, fa, ra, b1, b2, b3, b4, b5, b6, b7, b8⟩ := hOk 0 (r.pc + 1) (by rw [k4]; rfl)
        rw [List.drop_zero] at b2
        rw [hv1c] at b1
        simp at b1
        obtain ⟨rfl, rfl⟩ := b1
        have hS := hT.fine hk1 b2 (by rw [b3]; exact b7)
        obtain ⟨u1, u2, u3, u4⟩ := hS.tu k3
        have hosk : osAt fn (kk + 1) = osAt fn (r.pc + 1) := by
          rw [osAt, if_neg (by omega), if_neg (by omega), k4, hos]
        refine ⟨.ok (n, { sx with ws := below ++ bitsM r.loc ++ bitsM l0, pc := altF C.M fn t (r.pc + 1) }), _, .inl (hstepX _ hco), .inl (hdm _ (by rw [hq1]; exact hdeed)), rfl, ?_⟩
        refine ⟨{ r with ops := l0, labs := r.labs ++ [(r.pc, l0.length)], pc := kk + 1 }, rest, k, fn, t, cells, below, h.fz, ⟨h.at_.f, hk1, fun x hx => ?_, ?_, ?_, h.at_.loc, hal⟩, rfl, rfl, rfl, rfl, h.fn_, ?_, rfl, h.base, h.stk, hgl⟩
        · dsimp only at hx
          rw [u3] at hx
          rcases List.mem_cons.1 hx with rfl | hx
          · rfl
          · exact h.at_.lv x hx
        · dsimp only
          rw [u4, b3, ← b8, hv1o, hr]
          rfl
        · dsimp only
          rw [hlabs1]
          exact labsF_same hosk.symm
        · dsimp only
          unfold altF
          rw [k5, if_neg (by omega)]
          rfl
    · rw [if_neg hv0] at hdeed hco
      refine ⟨.ok (n, { sx with ws := below ++ bitsM r.loc ++ bitsM l0, pc := sx.pc + 1 }), _, .inl (hstepX _ hco), .inl (hdm _ (by rw [hq1]; exact hdeed)), rfl, ?_⟩
      refine ⟨{ r with ops := l0, labs := r.labs ++ [(r.pc, l0.length)], pc := r.pc + 1 }, rest, k, fn, t, cells, below, h.fz, ⟨h.at_.f, hn, hlv1, ?_, hlabs1, h.at_.loc, hal⟩, rfl, rfl, rfl, rfl, h.fn_, ?_, rfl, h.base, h.stk, hgl⟩
      · dsimp only
        rw [hv1o, hr]
        rfl
      · dsimp only
        rw [hpos]
        exact congrArg (· + 1) h.pc
end
end Go.Proofs.Qxb6500275aGreatDoor
