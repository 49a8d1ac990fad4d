import Derived.Test.Qxb6500275aGreatDoorXm1
set_option linter.unusedVariables false
set_option linter.unusedSimpArgs false
set_option maxRecDepth 100000
namespace Go.Proofs.Qxb6500275aGreatDoor
open Go Go.RowKit
/- THE TWO MACHINES SIDE BY SIDE -/
structure VOk (v : MV) : Prop where
  ty : isVal v.t
  b : v.b < 18446744073709551616
  i32 : v.t = 127 → v.b < 4294967296
/- a function of the module, validated and compiled -/
structure Fz (C : XC) (k : Nat) (fn : Fn) (t : Ty) (cells : List Ins) : Prop where
  fnE : C.M.funcs[k]? = some fn
  ty : C.M.typeOf ((C.M.imports.length + k : Nat) : Int) = some t
  tw : Tw C.M fn t cells
  ff : C.fs[k]? = some ⟨t.p.size, t.p.size + fn.locals.size, t.q.size, cells.tail⟩
  y65 : ∀ i, i ∈ fn.body → i.op = 65 → i.y < 4294967296
def bitsM (l : List MV) : List Nat := l.map MV.b
def labsF (M : Mod) (fn : Fn) (t : Ty) (pc : Nat) : List (Nat × Nat) := ((osAt fn pc).dropLast.map (fun s => (s - 1, (vsAt M fn t s).ops.length))).reverse
/- a frame at its place; aw: the types that it waits for -/
structure FrAt (M : Mod) (fn : Fn) (t : Ty) (r : MF) (k : Nat) (aw : List Nat) : Prop where
  f : r.f = (k : Int)
  lt : r.pc < fn.body.length
  lv : Lv M fn t r.pc
  ops : (vsAt M fn t r.pc).ops = aw ++ (r.ops.map MV.t).reverse
  labs : r.labs = labsF M fn t r.pc
  loc : r.loc.map MV.t = tysB t.p ++ tysB fn.locals
  ok : ∀ v, v ∈ r.loc ∨ v ∈ r.ops → VOk v
def resL (t : Ty) : List Nat := if t.q.size = 0 then [] else [bAt t.q 0]
/- the frames below; t: the type of the function above; t0: the lowest -/
def Stk (C : XC) (t0 : Ty) : List MF → List Fr → List Nat → Ty → Prop
  | [root], [], ws, t => t = t0 ∧ root.ops = [] ∧ root.labs = [] ∧ ws = []
  | r :: rest, x :: xs, ws, t => ∃ k fn t' cells ws', Fz C k fn t' cells ∧ FrAt C.M fn t' r k (resL t) ∧ x.fn = k ∧ x.pc = posF C.M fn t' r.pc ∧ x.base = ws'.length ∧ ws = ws' ++ bitsM r.loc ++ bitsM r.ops ∧ Stk C t0 rest xs ws' t'
  | _, _, _, _ => False
/- the globals' widths -/
def GlOk (M : Mod) (S : Sm) : Prop := S.gl.length = M.globals.length ∧ ∀ (i : Nat) (g : Glob) (x : Int), M.globals[i]? = some g → S.gl[i]? = some x → g.ty = 127 → x < 4294967296
structure RelX (C : XC) (t0 : Ty) (q : MQ) (p : Nat × Xs) (r : MF) (rest : List MF) (k : Nat) (fn : Fn) (t : Ty) (cells : List Ins) (below : List Nat) : Prop where
  fz : Fz C k fn t cells
  at_ : FrAt C.M fn t r k []
  fr : q.fr = r :: rest
  fuel : q.fuel = p.1
  S : q.S = p.2.S
  H : q.H = p.2.H
  fn_ : p.2.fn = k
  pc : p.2.pc = posF C.M fn t r.pc
  ws : p.2.ws = below ++ bitsM r.loc ++ bitsM r.ops
  base : p.2.base = below.length
  stk : Stk C t0 rest p.2.fr below t
  gl : GlOk C.M q.S
def RelE (C : XC) (t0 : Ty) (q : MQ) (p : Nat × Xs) : Prop := ∃ r rest k fn t cells below, RelX C t0 q p r rest k fn t cells below
/- how both end -/
structure RdX (C : XC) (t0 : Ty) (p : Nat × Xe) (m : Nat × MQ) : Prop where
  e : m.1 = p.2.e
  fuel : m.2.fuel = p.1
  S : m.2.S = p.2.S
  H : m.2.H = p.2.H
  gl : GlOk C.M m.2.S
  ok : p.2.e = 0 → ∃ root, m.2.fr = [root] ∧ root.ops.map MV.t = resL t0 ∧ bitsM root.ops = p.2.out ∧ ∀ v, v ∈ root.ops → VOk v
def Post (C : XC) (t0 : Ty) (n : Nat) (X : XR) (m : Nat × MQ) : Prop := match X with
  | .ok s' => m.1 = 0 ∧ RelE C t0 m.2 (n, s')
  | .error e => RdX C t0 (n, e) m
def PostN (C : XC) (t0 : Ty) (X : Except (Nat × Xe) (Nat × Xs)) (m : Nat × MQ) : Prop := match X with
  | .ok p' => m.1 = 0 ∧ RelE C t0 m.2 p'
  | .error e => RdX C t0 e m
def ReachX (C : XC) (p : Nat × Xs) (X : Except (Nat × Xe) (Nat × Xs)) : Prop := stepX C p = X ∨ ∃ p1, stepX C p = .ok p1 ∧ stepX C p1 = X
/- between two steps: the top frame with one label more -/
def Nr (q q1 : MQ) : Prop := ∃ r r1 rest, q.fr = r :: rest ∧ q1.fr = r1 :: rest ∧ r1.f = r.f ∧ r1.loc = r.loc ∧ (∃ l, r.ops = r1.ops ++ l) ∧ ((r1.labs = r.labs ++ [(r.pc, r1.ops.length)] ∧ r.floor ≤ r1.ops.length) ∨ (r1.labs = r.labs ∧ r1.ops = r.ops)) ∧ r1.pc ≤ 96 ∧ q1.S = q.S ∧ q1.H = q.H ∧ q1.fuel ≤ q.fuel
def ReachM (C : XC) (q : MQ) (m : Nat × MQ) : Prop := stepM C.num C.M q = some m ∨ ∃ q1, stepM C.num C.M q = some (0, q1) ∧ 1 < q1.fr.length ∧ stepM C.num C.M q1 = some m ∧ Nr q q1
def muM (M : Mod) (q : MQ) : Nat := match q.fr with
  | [] => 0
  | r :: _ => match M.funcs[r.f.toNat]? with
    | none => 0
    | some fn => fn.body.length - r.pc
def Sim1 (C : XC) (t0 : Ty) (q : MQ) (p : Nat × Xs) : Prop := (∃ X m, ReachX C p X ∧ ReachM C q m ∧ PostN C t0 X m) ∨ (∃ q', stepM C.num C.M q = some (0, q') ∧ RelE C t0 q' p ∧ muM C.M q' < muM C.M q)
/- lists -/
theorem bitsM_app (a b : List MV) : bitsM (a ++ b) = bitsM a ++ bitsM b := by unfold bitsM; rw [List.map_append]
theorem bitsM_len (a : List MV) : (bitsM a).length = a.length := by unfold bitsM; rw [List.length_map]
theorem snoc_of {l : List MV} {a : Nat} {rest : List Nat} (h : (l.map MV.t).reverse = a :: rest) : ∃ l0 v, l = l0 ++ [v] ∧ v.t = a ∧ rest = (l0.map MV.t).reverse := by
  rcases List.eq_nil_or_concat l with e | ⟨l0, v, e⟩
  · subst e; simp at h
  · rw [List.concat_eq_append] at e
    subst e
    simp at h
    exact ⟨l0, v, rfl, h.1, h.2.symm.trans (by simp)⟩
theorem ty_rev_app (l : List MV) (v : MV) : ((l ++ [v]).map MV.t).reverse = v.t :: (l.map MV.t).reverse := by simp
theorem popM_snoc {r : MF} {l0 : List MV} {v : MV} {want : Nat} (h : r.ops = l0 ++ [v]) (hf : r.floor ≤ l0.length) (hw : want = 0 ∨ v.t = want) : popM r want = some (v, { r with ops := l0 }) := by
  unfold popM
  rw [if_neg (by rw [h]; simp; omega), h]
  simp only [List.getLast?_append, List.getLast?_singleton, Option.some_or, List.dropLast_concat]
  rw [if_pos hw]
theorem pushM_ok {r : MF} {v : MV} (h : r.ops.length < 10) : pushM r v = some { r with ops := r.ops ++ [v] } := by unfold pushM; rw [if_neg (by omega)]
section
variable {C : XC} {t0 : Ty} {q : MQ} {p : Nat × Xs} {r : MF} {rest : List MF} {k : Nat} {fn : Fn} {t : Ty} {cells : List Ins} {below : List Nat} {aw : List Nat}
/- the floor is the validator's -/
theorem FrAt.floor (h : FrAt C.M fn t r k aw) (hT : Tw C.M fn t cells) {f : VF} {rr : List VF} (hc : (vsAt C.M fn t r.pc).ctl = f :: rr) : r.floor = f.floor := by
  obtain ⟨hlen, hO⟩ := hT.op1 r.pc h.lt
  have hpos := hT.os_pos h.lt
  obtain ⟨s, l, hos⟩ : ∃ s l, osAt fn r.pc = s :: l := by
    cases hq : osAt fn r.pc with
    | nil => rw [hq] at hpos; simp at hpos
    | cons s l => exact ⟨s, l, rfl⟩
  obtain ⟨h1, h2, g, f', r', g1, g2, g3, g4, g5, g6, g7, g8⟩ := hO 0 s (by rw [hos]; rfl)
  rw [List.drop_zero, hc] at g2
  simp at g2
  obtain ⟨rfl, _⟩ := g2
  have hff : f.floor = (vsAt C.M fn t s).ops.length := g3.trans g6
  unfold MF.floor
  rw [h.labs]
  unfold labsF
  rw [hos]
  cases l with
  | nil =>
    rw [List.drop_zero, hos] at h2
    have hs0 : s = 0 := by
      rcases osAt_head h2.symm with ⟨e, _⟩ | ⟨p, _, e, _⟩
      · exact e
      · have hl0 := h.lt
        have := hT.os_pos (pc := p) (by omega)
        rw [← e] at this
        simp at this
    subst hs0
    rw [hff]
    rfl
  | cons b l =>
    rw [List.dropLast_cons_of_ne_nil (by simp), List.map_cons, List.reverse_cons, List.getLast?_append]
    simp
    exact hff.symm
theorem getD_of {α : Type} {l : List α} {i : Nat} {x d : α} (h : l[i]? = some x) : l.getD i d = x := by rw [List.getD_eq_getElem?_getD, h]; rfl
/- the cell at hand -/
theorem RelX.cell (h : RelX C t0 q p r rest k fn t cells below) {c : Ins} (hc : cells[posF C.M fn t r.pc + 1]? = some c) : cellX C p.2 = c ∧ ffX C p.2 = ⟨t.p.size, t.p.size + fn.locals.size, t.q.size, cells.tail⟩ := by
  have hff : ffX C p.2 = ⟨t.p.size, t.p.size + fn.locals.size, t.q.size, cells.tail⟩ := by unfold ffX; rw [h.fn_]; exact getD_of h.fz.ff
  refine ⟨?_, hff⟩
  unfold cellX
  rw [hff, h.pc]
  refine getD_of ?_
  show cells.tail[posF C.M fn t r.pc]? = some c
  rw [List.getElem?_tail]
  exact hc
theorem RelX.opR (h : RelX C t0 q p r rest k fn t cells below) : InsOk (opAt fn r.pc) := (h.fz.tw.at_ r.pc h.at_.lt).ok
/- an instruction that costs -/
theorem RelX.cost (h : RelX C t0 q p r rest k fn t cells below) (ho : ¬ ((opAt fn r.pc).op = 2 ∨ (opAt fn r.pc).op = 3 ∨ (opAt fn r.pc).op = 5 ∨ (opAt fn r.pc).op = 11)) {c : Ins} (hc : cells[posF C.M fn t r.pc + 1]? = some c) (hf : free c.op = false)
    (hd : ∀ n, p.1 = n + 1 → ∃ m, deedM C.num C.M fn { q.top { r with pc := r.pc + 1 } with fuel := n } (opAt fn r.pc) = some m ∧ Post C t0 n (coreX C { p.2 with pc := p.2.pc + 1 } c) m) : Sim1 C t0 q p := by
  obtain ⟨hcell, hff⟩ := h.cell hc
  obtain ⟨n, s⟩ := p
  dsimp only at hcell hff hd
  have hfn : C.M.funcs[r.f.toNat]? = some fn := by rw [h.at_.f]; exact h.fz.fnE
  have hlt := h.at_.lt
  have hqf : q.fuel = n := h.fuel
  left
  cases n with
  | zero =>
    refine ⟨.error (0, ⟨46, [], s.S, s.H⟩), (46, q), .inl ?_, .inl ?_, ⟨rfl, h.fuel, h.S, h.H, h.gl, fun e => by simp at e⟩⟩
    · unfold stepX
      dsimp only
      rw [hcell, hf]
      simp
    · unfold stepM
      rw [h.fr]
      dsimp only
      rw [hfn]
      dsimp only
      rw [if_neg (by omega), if_neg (by omega), if_neg (by omega), if_neg (by omega), if_pos hqf]
  | succ n =>
    obtain ⟨m, hm, hP⟩ := hd n rfl
    refine ⟨match coreX C { s with pc := s.pc + 1 } c with | .ok s' => .ok (n, s') | .error e => .error (n, e), m, .inl ?_, .inl ?_, ?_⟩
    · unfold stepX
      dsimp only
      rw [hcell, hf]
      simp
      generalize coreX C { s with pc := s.pc + 1 } c = Z
      cases Z <;> rfl
    · unfold stepM
      rw [h.fr]
      dsimp only
      rw [hfn]
      dsimp only
      rw [if_neg (by omega), if_neg (by omega), if_neg (by omega), if_neg (by omega), if_neg (by omega), hqf]
      exact hm
    · unfold Post at hP
      unfold PostN
      cases hX : coreX C { s with pc := s.pc + 1 } c with
      | ok s' => rw [hX] at hP; exact hP
      | error e => rw [hX] at hP; exact hP
/- what the validator says of a plain instruction -/
theorem give_ty {x : VR} {pc : Nat} {v' : VS} (h : giveV pc x = (v', none)) : x.2.2 = 0 ∧ v'.ctl = x.1.ctl ∧ v'.ops = (if x.2.1 = 64 then [] else [x.2.1]) ++ x.1.ops ∧ (x.2.1 ≠ 64 → x.1.ops.length < 10) := by
  unfold giveV at h
  rcases iteC h with ⟨_, h⟩ | ⟨h0, h⟩
  · simp at h
  rcases iteC h with ⟨h1, h⟩ | ⟨h1, h⟩
  · simp at h
    subst h
    exact ⟨by omega, rfl, by rw [if_pos h1]; rfl, fun e => absurd h1 e⟩
  rcases iteC h with ⟨h2, h⟩ | ⟨h2, h⟩
  · simp at h
    subst h
    unfold pushV at h2 ⊢
    by_cases e : 10 ≤ x.1.ops.length
    · rw [if_pos e] at h2; simp at h2
    · rw [if_neg e]
      exact ⟨by omega, rfl, by rw [if_neg h1]; rfl, fun _ => by omega⟩
  · simp at h
theorem pop_ty {v : VS} {f : VF} {rr : List VF} (hc : v.ctl = f :: rr) (hf : f.floor ≤ v.ops.length) (hd : f.dead = false) {w : Nat} (h : (popV v w).2.2 = true) (hz : ∀ x, x ∈ v.ops → x ≠ 0) : ∃ a rest, v.ops = a :: rest ∧ (popV v w).1 = ⟨rest, v.ctl⟩ ∧ (w = 0 ∨ a = w) ∧ f.floor ≤ rest.length ∧ (popV v w).2.1 = a := by
  have ht := VS.top_of hc
  unfold popV at h ⊢
  rw [ht] at h ⊢
  by_cases e : v.ops.length = f.floor
  · rw [if_pos e] at h
    dsimp only at h
    rw [hd] at h
    simp at h
  · rw [if_neg e] at h ⊢
    cases ho : v.ops with
    | nil => rw [ho] at hf e; simp at hf e; omega
    | cons a rest =>
      rw [ho] at h hf e
      have ha := hz a (by rw [ho]; simp)
      simp at h hf e
      refine ⟨a, rest, rfl, rfl, ?_, by omega, by simp [ha]⟩
      rcases h with h | h | h
      · exact absurd h ha
      · exact .inl h
      · exact .inr h
theorem carry_ty {v : VS} {f : VF} {rr : List VF} (hc : v.ctl = f :: rr) (hf : f.floor ≤ v.ops.length) (hd : f.dead = false) {w : Nat} (hw : isVal w) (h : (carryV v w).2 = true) (hz : ∀ x, x ∈ v.ops → x ≠ 0) : ∃ rest, v.ops = w :: rest ∧ (carryV v w).1 = ⟨rest, v.ctl⟩ ∧ f.floor ≤ rest.length := by
  have hw64 := isVal_ne hw
  unfold carryV at h ⊢
  rw [if_neg hw64] at h ⊢
  obtain ⟨a, rest, h1, h2, h3, h4, _⟩ := pop_ty hc hf hd h hz
  have hw0 : w ≠ 0 := by unfold isVal at hw; omega
  rcases h3 with h3 | h3
  · exact absurd h3 hw0
  · subst h3; exact ⟨rest, h1, h2, h4⟩
/- the validator's state at the frame's place -/
theorem RelX.vst (h : RelX C t0 q p r rest k fn t cells below) : ∃ f rr, (vsAt C.M fn t r.pc).ctl = f :: rr ∧ f.floor ≤ (vsAt C.M fn t r.pc).ops.length ∧ f.dead = false ∧ r.floor = f.floor ∧ (∀ x, x ∈ (vsAt C.M fn t r.pc).ops → x ≠ 0) ∧ (vsAt C.M fn t r.pc).ops = (r.ops.map MV.t).reverse := by
  obtain ⟨f, rr, hc, hf, _⟩ := h.fz.tw.parts h.at_.lt
  have hops := h.at_.ops
  rw [List.nil_append] at hops
  refine ⟨f, rr, hc, hf, h.at_.lv f (by rw [hc]; simp), h.at_.floor h.fz.tw hc, fun x hx => ?_, hops⟩
  rw [hops] at hx
  simp at hx
  obtain ⟨v, hv, rfl⟩ := hx
  have := (h.at_.ok v (.inr hv)).ty
  unfold isVal at this
  omega
/- a plain instruction's next place -/
theorem RelX.nlt (h : RelX C t0 q p r rest k fn t cells below) (ho : (opAt fn r.pc).op ≠ 11) : r.pc + 1 < fn.body.length := by
  have hlt := h.at_.lt
  rcases Nat.lt_or_ge (r.pc + 1) fn.body.length with h1 | h1
  · exact h1
  · exact absurd (h.fz.tw.last (pc := r.pc) (by omega)).1 ho
theorem RelX.next (h : RelX C t0 q p r rest k fn t cells below) (ho : ¬ (2 ≤ (opAt fn r.pc).op ∧ (opAt fn r.pc).op ≤ 5 ∨ 11 ≤ (opAt fn r.pc).op ∧ (opAt fn r.pc).op ≤ 15)) {n : Nat} {loc' ops' : List MV} {S' : Sm} {H' : Hm}
    (hct : (vsAt C.M fn t (r.pc + 1)).ctl = (vsAt C.M fn t r.pc).ctl) (hty : (vsAt C.M fn t (r.pc + 1)).ops = (ops'.map MV.t).reverse) (hloc : loc'.map MV.t = r.loc.map MV.t) (hok : ∀ v, v ∈ loc' ∨ v ∈ ops' → VOk v) (hg : GlOk C.M S') :
    RelE C t0 ⟨{ r with pc := r.pc + 1, loc := loc', ops := ops' } :: rest, n, S', H'⟩ (n, { p.2 with ws := below ++ bitsM loc' ++ bitsM ops', pc := p.2.pc + 1, S := S', H := H' }) := by
  have hlay := h.fz.tw.lay_plain h.at_.lt h.at_.lv ho
  have hos : osAt fn (r.pc + 1) = osAt fn r.pc := os_same (by omega)
  refine ⟨{ r with pc := r.pc + 1, loc := loc', ops := ops' }, rest, k, fn, t, cells, below, h.fz, ⟨h.at_.f, h.nlt (by omega), fun f hf => ?_, by rw [List.nil_append]; exact hty, ?_, by rw [← h.at_.loc]; exact hloc, hok⟩, rfl, rfl, rfl, rfl, h.fn_, ?_, rfl, h.base, h.stk, hg⟩
  · dsimp only at hf
    rw [hct] at hf
    exact h.at_.lv f hf
  · show r.labs = labsF C.M fn t (r.pc + 1)
    rw [h.at_.labs]
    unfold labsF
    rw [hos]
  · show p.2.pc + 1 = _
    rw [h.pc]
    exact hlay.2.symm
theorem RelX.stepv (h : RelX C t0 q p r rest k fn t cells below) (ho : ¬ ((opAt fn r.pc).op ≤ 5 ∨ 11 ≤ (opAt fn r.pc).op ∧ (opAt fn r.pc).op ≤ 15)) : giveV r.pc (plainV C.M t.p fn.locals (vsAt C.M fn t r.pc) (opAt fn r.pc)) = (vsAt C.M fn t (r.pc + 1), none) := by
  have hs := (h.fz.tw.at_ r.pc h.at_.lt).v (h.nlt (by omega))
  unfold stepV at hs
  rw [if_neg (by omega), if_neg (by omega), if_neg (by omega), if_neg (by omega), if_neg (by omega), if_neg (by omega), if_neg (by omega), if_neg (by omega), if_neg (by omega), if_neg (by omega)] at hs
  exact hs
end
end Go.Proofs.Qxb6500275aGreatDoor
