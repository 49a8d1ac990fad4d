import Derived.Test.Qxb6500275aGreatDoorXm6
set_option linter.unusedVariables false
set_option linter.unusedSimpArgs false
set_option maxRecDepth 100000
namespace Go.Proofs.Qxb6500275aGreatDoor
open Go Go.RowKit
/- a block's result, as types -/
def resV (res : Nat) : List Nat := if res = 64 then [] else [res]
theorem resV_len (res : Nat) : (resV res).length = gLen res := by unfold resV gLen; split <;> rfl
section
variable {M : Mod} {fn : Fn} {t : Ty} {cells : List Ins}
/- a block's row where its body begins -/
structure Hd0 (M : Mod) (fn : Fn) (t : Ty) (s : Nat) (g : VF) (rr : List VF) : Prop where
  ctl : (vsAt M fn t s).ctl = g :: rr
  fl : g.floor = (vsAt M fn t s).ops.length
  dead : g.dead = false
  blk : s ≠ 0 → ∃ p, s = p + 1 ∧ osAt fn s = s :: osAt fn p ∧ (opAt fn p).op = g.op ∧ (g.op = 2 ∨ g.op = 3 ∨ g.op = 4) ∧ g.res = (opAt fn p).x.toNat % 256 ∧ ((opAt fn p).x = 64 ↔ g.res = 64) ∧ (g.res ≠ 64 → isVal g.res)
  fun_ : s = 0 → g.op = 2 ∧ g.res = firstV t.q ∧ rr = []
theorem Tw.hd0 (h : Tw M fn t cells) {s : Nat} {r : List Nat} (hs : osAt fn s = s :: r) (hsn : s < fn.body.length) : ∃ g rr, Hd0 M fn t s g rr := by
  rcases osAt_head hs with ⟨e1, e2⟩ | ⟨p, e1, e2, e3⟩
  · subst e1
    exact ⟨_, _, rfl, rfl, rfl, fun h => absurd rfl h, fun _ => ⟨rfl, rfl, rfl⟩⟩
  · subst e1
    obtain ⟨f, r0, hc, hf, _⟩ := h.parts (pc := p) (by omega)
    have hS := h.fine hsn hc hf
    have h1 := hS.opn e3
    have hok := (h.at_ p (by omega)).ok
    refine ⟨_, _, h1, rfl, rfl, fun _ => ⟨p, rfl, by rw [hs, e2], rfl, e3, rfl, ?_, ?_⟩, fun h => absurd h (by omega)⟩
    · rcases hok.blk e3 with h2 | ⟨ty, h2, h3⟩
      · rw [h2]; simp
      · unfold isVal at h3
        dsimp only
        rw [h2]
        constructor
        · intro e; omega
        · intro e; omega
    · intro hne
      rcases hok.blk e3 with h2 | ⟨ty, h2, h3⟩
      · rw [h2] at hne; simp at hne
      · dsimp only
        rw [h2]
        have : (ty : Int).toNat % 256 = ty := by unfold isVal at h3; omega
        rw [this]
        exact h3
/- labels -/
theorem labsF_same {a b : Nat} (h : osAt fn a = osAt fn b) : labsF M fn t a = labsF M fn t b := by unfold labsF; rw [h]
theorem labsF_len (pc : Nat) : (labsF M fn t pc).length = (osAt fn pc).length - 1 := by unfold labsF; simp
theorem labsF_cons {pc s : Nat} {r : List Nat} (h : osAt fn pc = s :: r) (hr : r ≠ []) : labsF M fn t pc = ((r.dropLast).map (fun s => (s - 1, (vsAt M fn t s).ops.length))).reverse ++ [(s - 1, (vsAt M fn t s).ops.length)] := by
  unfold labsF
  rw [h, List.dropLast_cons_of_ne_nil hr, List.map_cons, List.reverse_cons]
theorem labsF_tail {a b s : Nat} {r : List Nat} (h : osAt fn a = s :: r) (hb : osAt fn b = r) (hr : r ≠ []) : (labsF M fn t a).dropLast = labsF M fn t b ∧ (labsF M fn t a).getLast? = some (s - 1, (vsAt M fn t s).ops.length) := by
  rw [labsF_cons h hr]
  refine ⟨?_, by simp⟩
  rw [List.dropLast_concat]
  unfold labsF
  rw [hb]
theorem labsF_push {pc : Nat} (h : osAt fn (pc + 1) = (pc + 1) :: osAt fn pc) (hne : osAt fn pc ≠ []) : labsF M fn t (pc + 1) = labsF M fn t pc ++ [(pc, (vsAt M fn t (pc + 1)).ops.length)] := by
  rw [labsF_cons h hne]
  rfl
end
section
variable {C : XC} {t0 : Ty} {q : MQ} {p : Nat × Xs} {r : MF} {rest : List MF} {k : Nat} {fn : Fn} {t : Ty} {cells : List Ins} {below : List Nat} {aw : List Nat}
theorem RelX.osne (h : RelX C t0 q p r rest k fn t cells below) : osAt fn r.pc ≠ [] := fun e => by
  have := h.fz.tw.os_pos h.at_.lt
  rw [e] at this
  simp at this
theorem RelX.fnM (h : RelX C t0 q p r rest k fn t cells below) : C.M.funcs[r.f.toNat]? = some fn := by rw [h.at_.f]; exact h.fz.fnE
theorem Stk.ne {C : XC} {t0 : Ty} {rest : List MF} {fr : List Fr} {ws : List Nat} {t : Ty} (h : Stk C t0 rest fr ws t) : rest ≠ [] ∧ rest.length = fr.length + 1 := by
  induction rest generalizing fr ws t with
  | nil => cases fr <;> exact h.elim
  | cons r rest ih =>
    refine ⟨by simp, ?_⟩
    cases fr with
    | nil =>
      cases rest with
      | nil => rfl
      | cons a b => exact h.elim
    | cons x xs =>
      have h2 : ∃ ws' t', Stk C t0 rest xs ws' t' := by
        cases rest with
        | nil =>
          obtain ⟨k, fn, t', cells, ws', _, _, _, _, _, _, h3⟩ := h
          exact ⟨_, _, h3⟩
        | cons a b =>
          obtain ⟨k, fn, t', cells, ws', _, _, _, _, _, _, h3⟩ := h
          exact ⟨_, _, h3⟩
      obtain ⟨ws', t', h3⟩ := h2
      have := (ih h3).2
      simp [this]
/- a block, a loop -/
theorem RelX.open_ (h : RelX C t0 q p r rest k fn t cells below) (ho : (opAt fn r.pc).op = 2 ∨ (opAt fn r.pc).op = 3) : Sim1 C t0 q p := by
  have hn := h.nlt (by omega)
  have hs := (h.fz.tw.at_ r.pc h.at_.lt).v hn
  have hlt := h.at_.lt
  have hos : osAt fn (r.pc + 1) = (r.pc + 1) :: osAt fn r.pc := by rw [osAt, if_pos (by omega)]
  unfold stepV at hs
  rw [if_neg (by omega), if_neg (by omega), if_pos ho] at hs
  rcases iteC hs with ⟨_, hs⟩ | ⟨_, hs⟩
  · simp at hs
  simp at hs
  have hops : (vsAt C.M fn t (r.pc + 1)).ops = (vsAt C.M fn t r.pc).ops := by rw [← hs]
  have hol : r.ops.length = (vsAt C.M fn t (r.pc + 1)).ops.length := by rw [hops, h.at_.ops]; simp
  right
  refine ⟨q.top { r with labs := r.labs ++ [(r.pc, r.ops.length)], pc := r.pc + 1 }, ?_, ?_, ?_⟩
  · unfold stepM
    rw [h.fr]
    dsimp only
    rw [h.fnM]
    dsimp only
    rw [if_neg (show ¬ fn.body.length ≤ r.pc by omega), if_pos ho]
  · refine ⟨{ r with labs := r.labs ++ [(r.pc, r.ops.length)], pc := r.pc + 1 }, rest, k, fn, t, cells, below, h.fz, ⟨h.at_.f, hn, fun f hf => ?_, ?_, ?_, h.at_.loc, h.at_.ok⟩, by unfold MQ.top; rw [h.fr]; rfl, h.fuel, h.S, h.H, h.fn_, ?_, h.ws, h.base, h.stk, h.gl⟩
    · dsimp only at hf
      rw [← hs] at hf
      dsimp only at hf
      rcases List.mem_cons.1 hf with rfl | hf
      · rfl
      · exact h.at_.lv f hf
    · dsimp only
      rw [hops]
      exact h.at_.ops
    · dsimp only
      rw [labsF_push hos h.osne, h.at_.labs, hol]
    · dsimp only
      rw [h.fz.tw.lay_open h.at_.lt h.at_.lv ho]
      exact h.pc
  · unfold muM MQ.top
    rw [h.fr]
    dsimp only
    rw [h.fnM]
    dsimp only
    omega
/- AT A BLOCK'S END: the block whose body begins at s -/
theorem end_step {s : Nat} {r0 : List Nat} {g : VF} {rr : List VF} {r1 : MF} {q1 : MQ} (hz : Fz C k fn t cells) (hs : osAt fn s = s :: r0) (hr0 : r0 ≠ []) (hsn : s < fn.body.length) (hd : Hd0 C.M fn t s g rr) (hlv : ∀ f, f ∈ rr → f.dead = false)
    (hq : q1.fr = r1 :: rest) (hf : r1.f = (k : Int)) (hpc : r1.pc = endF fn s) (hlabs : r1.labs = labsF C.M fn t s) (hops : (r1.ops.map MV.t).reverse = resV g.res ++ (vsAt C.M fn t s).ops) (hloc : r1.loc.map MV.t = tysB t.p ++ tysB fn.locals) (hok : ∀ v, v ∈ r1.loc ∨ v ∈ r1.ops → VOk v) :
    stepM C.num C.M q1 = some (0, q1.top { r1 with labs := r1.labs.dropLast, pc := endF fn s + 1 }) ∧ FrAt C.M fn t { r1 with labs := r1.labs.dropLast, pc := endF fn s + 1 } k [] ∧ posF C.M fn t (endF fn s + 1) = tgtF C.M fn t s := by
  have hT := hz.tw
  have hm := hT.match_ hsn
  have hen := hT.os_end hsn
  have hos2 : 2 ≤ (osAt fn (endF fn s)).length := by
    rw [hen, hs]
    have : 0 < r0.length := by cases r0 with | nil => exact absurd rfl hr0 | cons a b => simp
    simp
    omega
  have hne : endF fn s + 1 < fn.body.length := by
    rcases Nat.lt_or_ge (endF fn s + 1) fn.body.length with h1 | h1
    · exact h1
    · have := (hT.last (pc := endF fn s) (by have := hm.lt; omega)).2
      omega
  have hosn : osAt fn (endF fn s + 1) = r0 := by
    have := hm.op
    rw [osAt, if_neg (by omega), if_pos hm.op, hen, hs]
    rfl
  obtain ⟨hl1, hl2⟩ := labsF_tail (M := C.M) (t := t) (b := endF fn s + 1) hs hosn hr0
  obtain ⟨g', f', rr', c1, c2, c3, c4, c5, c6, c7, c8⟩ := hT.fr_ends hs hsn
  rw [hd.ctl] at c1
  simp at c1
  obtain ⟨rfl, rfl⟩ := c1
  have hS := hT.fine hne c2 (by rw [c3]; exact c6)
  obtain ⟨e1, e2, e3, e4⟩ := hS.en hm.op
  have hs0 : s ≠ 0 := fun e => by
    subst e
    simp [osAt] at hs
    exact hr0 hs
  obtain ⟨pp, p1, p2, p3, p4, p5, p6, p7⟩ := hd.blk hs0
  have hlen : r1.ops.length = (vsAt C.M fn t s).ops.length + gLen g.res := by
    have := congrArg List.length hops
    rw [List.length_append, resV_len] at this
    simp at this
    omega
  have hgl : gLen g.res = if (opAt fn (s - 1)).x = 64 then 0 else 1 := by
    unfold gLen
    rw [p1, Nat.add_sub_cancel]
    by_cases e : g.res = 64
    · rw [if_pos e, if_pos (p6.2 e)]
    · rw [if_neg e, if_neg (fun e2 => e (p6.1 e2))]
  refine ⟨?_, ⟨hf, hne, fun f hf => ?_, ?_, ?_, hloc, hok⟩, ?_⟩
  · unfold stepM
    rw [hq]
    dsimp only
    rw [hf]
    rw [show ((k : Int)).toNat = k from rfl, hz.fnE]
    dsimp only
    have hmo := hm.op
    have hml := hm.lt
    rw [hpc, if_neg (show ¬ fn.body.length ≤ endF fn s by omega), if_neg (show ¬ ((opAt fn (endF fn s)).op = 2 ∨ (opAt fn (endF fn s)).op = 3) by omega), if_neg (show ¬ (opAt fn (endF fn s)).op = 5 by omega), if_pos hmo, hlabs, hl2]
    dsimp only
    rw [if_neg (by rw [hlen, hgl]; simp), if_neg]
    · rintro ⟨h1, h2⟩
      have hne64 : g.res ≠ 64 := fun e => h1 (by rw [p1, Nat.add_sub_cancel]; exact p6.2 e)
      unfold resV at hops
      rw [if_neg hne64] at hops
      obtain ⟨l0, v, hl, hv, _⟩ := snoc_of hops
      rw [hl] at h2
      simp at h2
      rw [hv, p5, p1, Nat.add_sub_cancel] at h2
      exact h2 rfl
  · dsimp only at hf
    rw [e2] at hf
    exact hlv f hf
  · show (vsAt C.M fn t (endF fn s + 1)).ops = _
    dsimp only
    rw [e4, List.nil_append, hops, c4, c3, ← c7]
    rfl
  · show r1.labs.dropLast = _
    rw [hlabs, hl1]
  · unfold tgtF
    exact hT.lay_end hm.lt hm.op hos2
/- what is settled, reached -/
theorem settled_live {v : VS} {f : VF} {rr : List VF} (hc : v.ctl = f :: rr) (hf : f.floor ≤ v.ops.length) (hd : f.dead = false) (hz : ∀ x, x ∈ v.ops → x ≠ 0) (hr : f.res = 64 ∨ isVal f.res) (h : (settledV v).2 = true) : v.ops = resV f.res ++ bot f.floor v.ops := by
  have ht := VS.top_of hc
  unfold settledV at h
  rw [ht] at h
  unfold resV
  rcases hr with hr | hr
  · rw [if_pos hr]
    rw [hr] at h
    have e : carryV v 64 = (v, true) := by unfold carryV; rw [if_pos rfl]
    rw [e] at h
    simp at h
    rw [List.nil_append, ← h, bot_self]
  · rw [if_neg (isVal_ne hr)]
    by_cases hcy : (carryV v f.res).2 = true
    · obtain ⟨rs, e1, e2, e4⟩ := carry_ty hc hf hd hr hcy hz
      rw [if_pos hcy, e2] at h
      simp at h
      rw [e1, bot_cons (by omega), ← h, bot_self]
      rfl
    · rw [if_neg hcy] at h
      simp at h
/- an inner end, reached -/
theorem RelX.end_ (h : RelX C t0 q p r rest k fn t cells below) (ho : (opAt fn r.pc).op = 11) (hin : 2 ≤ (osAt fn r.pc).length) : Sim1 C t0 q p := by
  have hT := h.fz.tw
  obtain ⟨s, r0, hos⟩ : ∃ s r0, osAt fn r.pc = s :: r0 := by
    cases hq : osAt fn r.pc with
    | nil => exact absurd hq h.osne
    | cons s l => exact ⟨s, l, rfl⟩
  obtain ⟨hlen, hO⟩ := hT.op1 r.pc h.at_.lt
  obtain ⟨q1, q2, g, f, rr, g1, g2, g3, g4, g5, g6, g7, g8⟩ := hO 0 s (by rw [hos]; rfl)
  rw [List.drop_zero] at q2 g2
  have hss : osAt fn s = s :: r0 := by rw [← q2]; exact hos
  have hsn : s < fn.body.length := by have := h.at_.lt; omega
  have hr0 : r0 ≠ [] := fun e => by rw [hos, e] at hin; simp at hin
  obtain ⟨g', rr', hd⟩ := hT.hd0 hss hsn
  have hgg : g' = g ∧ rr' = rr := by
    have := hd.ctl
    rw [g1] at this
    simp at this
    exact ⟨this.1.symm, this.2.symm⟩
  obtain ⟨rfl, rfl⟩ := hgg
  have hpe := hT.end_only hss hsn hos ho
  obtain ⟨f2, rr2, hc, hf, hdd, hfl, hz, hops⟩ := h.vst
  rw [g2] at hc
  simp at hc
  obtain ⟨rfl, rfl⟩ := hc
  have hs0 : s ≠ 0 := fun e => by
    subst e
    simp [osAt] at hss
    exact hr0 hss
  obtain ⟨pp, p1, p2, p3, p4, p5, p6, p7⟩ := hd.blk hs0
  have hne : r.pc + 1 < fn.body.length := by
    rcases Nat.lt_or_ge (r.pc + 1) fn.body.length with h1 | h1
    · exact h1
    · have := (hT.last (pc := r.pc) (by have := h.at_.lt; omega)).2
      omega
  have hst := (hT.at_ r.pc h.at_.lt).v hne
  unfold stepV at hst
  rw [if_neg (by omega), if_neg (by omega), if_neg (by omega), if_neg (by omega), if_neg (by omega), if_pos ho] at hst
  by_cases hset : ¬ ((settledV (vsAt C.M fn t r.pc)).2 = true)
  · rw [if_neg hset] at hst; simp at hst
  replace hset := Classical.not_not.1 hset
  have hsl := settled_live g2 hf hdd hz (by rw [g4]; by_cases e : g'.res = 64; exact .inl e; exact .inr (p7 e)) hset
  obtain ⟨k1, k2, k3⟩ := end_step (q1 := q) (r1 := r) h.fz hss hr0 hsn hd (fun x hx => h.at_.lv x (by rw [g2]; exact List.mem_cons_of_mem _ hx)) h.fr h.at_.f hpe (by rw [h.at_.labs]; exact labsF_same (by rw [hos, hss])) (by rw [← hops, hsl, g4, g3, ← g8]) h.at_.loc h.at_.ok
  right
  refine ⟨_, k1, ⟨{ r with labs := r.labs.dropLast, pc := endF fn s + 1 }, rest, k, fn, t, cells, below, h.fz, k2, by unfold MQ.top; rw [h.fr]; rfl, h.fuel, h.S, h.H, h.fn_, ?_, h.ws, h.base, h.stk, h.gl⟩, ?_⟩
  · rw [h.pc, hpe]
    exact k3.symm
  · have := h.at_.lt
    unfold muM MQ.top
    rw [h.fr]
    dsimp only
    rw [h.fnM]
    dsimp only
    omega
end
end Go.Proofs.Qxb6500275aGreatDoor
