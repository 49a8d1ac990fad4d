import Derived.Test.Qxb6500275aGreatDoorLw6
set_option linter.unusedVariables false
set_option linter.unusedSimpArgs false
set_option maxRecDepth 100000
namespace Go.Proofs.Qxb6500275aGreatDoor
open Go Go.RowKit
theorem SimP.pend {n K i m : Nat} {p q : PS} (h : SimP n p.ctl q.ctl) (hi : i < n) (hp : Pend K i m p) : Pend K i m q := by
  obtain ⟨⟨g0, e1, e2⟩, e3⟩ := hp
  obtain ⟨g', hg'⟩ := h.back e1
  obtain ⟨g1, d1, d2, d3, d4, _⟩ := h.2 m g' hg'
  rw [e1] at d1
  simp at d1
  subst d1
  refine ⟨⟨g', hg', (sim_has d2 d3 d4 hi).2 e2⟩, fun m' g' hg' hh => ?_⟩
  obtain ⟨g0, e1, e2, e4, e5, _⟩ := h.2 m' g' hg'
  exact e3 m' g0 e1 ((sim_has e2 e4 e5 hi).1 hh)
theorem SimP.free {n K i : Nat} {p q : PS} (h : SimP n p.ctl q.ctl) (hi : i < n) (hp : Free K i p) : Free K i q := fun m' g' hg' hh => by
  obtain ⟨g0, e1, e2, e4, e5, _⟩ := h.2 m' g' hg'
  exact hp m' g0 e1 ((sim_has e2 e4 e5 hi).1 hh)
/- a branch's cell is born -/
theorem branch_born {p : PS} {op l : Nat} {g : PF} (hp : ∀ g, g ∈ p.ctl → GI p.cells g) (hl : p.ctl[l]? = some g) :
    (g.op = 3 → (branchP p op l).cells = p.cells ++ [⟨op, ((g.start : Nat) : Int) - 1, packP 0 g.floor⟩] ∧ Free 0 p.cells.length (branchP p op l)) ∧
    (g.op ≠ 3 → (∃ x, (branchP p op l).cells = p.cells ++ [⟨op, x, packP g.arity g.floor⟩]) ∧ Pend 0 p.cells.length (p.ctl.length - 1 - l) (branchP p op l)) := by
  have hgd : p.ctl.getD l PF.zero = g := by rw [List.getD_eq_getElem?_getD, hl]; rfl
  have hnl : ∀ (g : PF), g ∈ p.ctl → p.cells.length ∉ g.chain := fun g hg hi => by
    obtain ⟨_, x, hx, _⟩ := (hp g hg).ch.mem _ hi
    have := (List.getElem?_eq_some_iff.1 hx).1
    omega
  have hll := (List.getElem?_eq_some_iff.1 hl).1
  constructor
  · intro h3
    have hb : branchP p op l = ⟨p.cells ++ [⟨op, ((g.start : Nat) : Int) - 1, packP 0 g.floor⟩], p.ctl, p.h, p.dead⟩ := by
      unfold branchP
      rw [hgd]
      dsimp only
      rw [if_pos h3]
    rw [hb]
    exact ⟨rfl, fun m' g' hg' hh => hnl g' (rev_mem hg') hh⟩
  · intro h3
    have hb : branchP p op l = ⟨p.cells ++ [⟨op, ((g.chain.headD 0 : Nat) : Int), packP g.arity g.floor⟩], p.ctl.modify l (fun f => { f with chain := p.cells.length :: f.chain }), p.h, p.dead⟩ := by
      unfold branchP
      rw [hgd]
      dsimp only
      rw [if_neg h3]
    rw [hb]
    refine ⟨⟨_, rfl⟩, ⟨⟨{ g with chain := p.cells.length :: g.chain }, ?_, ?_⟩, fun m' g' hg' hh => ?_⟩⟩
    · dsimp only
      rw [List.getElem?_reverse (by rw [List.length_modify]; omega), List.length_modify, List.getElem?_modify, show p.ctl.length - 1 - (p.ctl.length - 1 - l) = l by omega, hl]
      simp
    · unfold hasK
      simp
    · dsimp only at hg'
      have hm := (List.getElem?_eq_some_iff.1 hg').1
      simp at hm
      rw [List.getElem?_reverse (by rw [List.length_modify]; exact hm), List.length_modify, List.getElem?_modify] at hg'
      by_cases e : l = p.ctl.length - 1 - m'
      · omega
      · exfalso
        cases hq : p.ctl[p.ctl.length - 1 - m']? with
        | none => rw [hq] at hg'; simp at hg'
        | some b =>
          rw [hq] at hg'
          simp [e] at hg'
          subst hg'
          exact hnl b (List.mem_of_getElem? hq) hh
section
variable {M : Mod} {fn : Fn} {t : Ty} {cells : List Ins}
/- a place that is reached -/
def Lv (M : Mod) (fn : Fn) (t : Ty) (pc : Nat) : Prop := ∀ f, f ∈ (vsAt M fn t pc).ctl → f.dead = false
theorem Tw.live (h : Tw M fn t cells) {pc : Nat} (hp : pc < fn.body.length) (hl : Lv M fn t pc) : RL (vsAt M fn t pc) (psAt M fn t pc) := by
  obtain ⟨hs, hJ⟩ := (h.at_ pc hp).js
  rcases hJ.rel with hR | hR
  · exact hR
  · obtain ⟨n, ex, f, r, h1, h2, h3, h4, h5, h6⟩ := hR.is
    have := hl f (by rw [h2]; simp)
    rw [h4] at this
    exact absurd this (by decide)
theorem Tw.pos1 (h : Tw M fn t cells) {pc : Nat} (hp : pc < fn.body.length) : posF M fn t pc + 1 = (psAt M fn t pc).cells.length := by
  have := (h.ppi hp).pos
  unfold posF
  omega
theorem skip_live {p : PS} {op : Nat} (h : p.dead = 0) : skipP p op = none := by unfold skipP; rw [if_pos h]
theorem Tw.lay_plain (h : Tw M fn t cells) {pc : Nat} (hp : pc < fn.body.length) (hl : Lv M fn t pc) (ho : ¬ (2 ≤ (opAt fn pc).op ∧ (opAt fn pc).op ≤ 5 ∨ 11 ≤ (opAt fn pc).op ∧ (opAt fn pc).op ≤ 15)) :
    cells[posF M fn t pc + 1]? = some (opAt fn pc) ∧ posF M fn t (pc + 1) = posF M fn t pc + 1 := by
  have hd := (h.live hp hl).dead
  have hs := (h.at_ pc hp).p
  have hop := (h.at_ pc hp).ok.op
  unfold opOk at hop
  unfold stepP at hs
  rw [skip_live hd] at hs
  dsimp only at hs
  rw [if_neg (by omega), if_neg (by omega), if_neg (by omega), if_neg (by omega), if_neg (by omega), if_neg (by omega)] at hs
  unfold plainP at hs
  split at hs
  · simp at hs
  · rcases iteC hs with ⟨_, hs⟩ | ⟨_, hs⟩
    · simp at hs
    · simp at hs
      have hc : (psAt M fn t (pc + 1)).cells = (psAt M fn t pc).cells ++ [opAt fn pc] := by rw [← hs]
      have h1 := h.pos1 hp
      refine ⟨?_, by unfold posF at h1 ⊢; rw [hc]; simp; omega⟩
      rw [h1]
      exact h.plainc (c := opAt fn pc) (by unfold isBr; omega) fn.body.length (pc + 1) (by omega) (by omega) (by rw [hc]; simp)
theorem Tw.lay_ret (h : Tw M fn t cells) {pc : Nat} (hp : pc < fn.body.length) (hl : Lv M fn t pc) (ho : (opAt fn pc).op = 15) : cells[posF M fn t pc + 1]? = some ⟨15, 0, 0⟩ := by
  have hd := (h.live hp hl).dead
  have hs := (h.at_ pc hp).p
  unfold stepP at hs
  rw [skip_live hd] at hs
  dsimp only at hs
  rw [if_neg (by omega), if_neg (by omega), if_neg (by omega), if_neg (by omega), if_neg (by omega), if_pos ho] at hs
  simp at hs
  have hc : (psAt M fn t (pc + 1)).cells = (psAt M fn t pc).cells ++ [⟨15, 0, 0⟩] := by rw [← hs]
  rw [h.pos1 hp]
  exact h.plainc (c := ⟨15, 0, 0⟩) (by unfold isBr; dsimp only; omega) fn.body.length (pc + 1) (by omega) (by omega) (by rw [hc]; simp)
/- a block, a loop, an if -/
theorem Tw.lay_open (h : Tw M fn t cells) {pc : Nat} (hp : pc < fn.body.length) (hl : Lv M fn t pc) (ho : (opAt fn pc).op = 2 ∨ (opAt fn pc).op = 3) : posF M fn t (pc + 1) = posF M fn t pc := by
  have hd := (h.live hp hl).dead
  have hs := (h.at_ pc hp).p
  unfold stepP at hs
  rw [skip_live hd] at hs
  dsimp only at hs
  rw [if_pos (by omega)] at hs
  unfold openP at hs
  rcases iteC hs with ⟨_, hs⟩ | ⟨_, hs⟩
  · simp at hs
  rw [if_neg (by omega)] at hs
  simp at hs
  unfold posF
  rw [← hs]
theorem Tw.lay_if (h : Tw M fn t cells) {pc : Nat} (hp : pc + 1 < fn.body.length) (hl : Lv M fn t pc) (ho : (opAt fn pc).op = 4) :
    cells[posF M fn t pc + 1]? = some ⟨4, (altF M fn t (pc + 1) : Int), 0⟩ ∧ posF M fn t (pc + 1) = posF M fn t pc + 1 := by
  have hp0 : pc < fn.body.length := by omega
  have hR := h.live hp0 hl
  have hd := hR.dead
  have hs := (h.at_ pc hp0).p
  have hplen := h.plen hp0
  rw [hd] at hplen
  unfold stepP at hs
  rw [skip_live hd] at hs
  dsimp only at hs
  rw [if_pos (by omega)] at hs
  unfold openP at hs
  rcases iteC hs with ⟨_, hs⟩ | ⟨_, hs⟩
  · simp at hs
  rw [if_pos ho] at hs
  rcases iteC hs with ⟨_, hs⟩ | ⟨_, hs⟩
  · simp at hs
  simp at hs
  have h1 := h.pos1 hp0
  obtain ⟨g, hg⟩ : ∃ g : PF, (psAt M fn t (pc + 1)).ctl = g :: (psAt M fn t pc).ctl ∧ g.cond = (psAt M fn t pc).cells.length := ⟨_, by rw [← hs], rfl⟩
  have hc : (psAt M fn t (pc + 1)).cells = (psAt M fn t pc).cells ++ [⟨4, 0, 0⟩] := by rw [← hs]
  have hos : osAt fn (pc + 1) = (pc + 1) :: osAt fn pc := by rw [osAt, if_pos (by omega)]
  have hol : (osAt fn pc).length = (psAt M fn t pc).ctl.length := by omega
  refine ⟨?_, by unfold posF at h1 ⊢; rw [hc]; simp; omega⟩
  rw [h1]
  have := h.prom (K := 1) (i := (psAt M fn t pc).cells.length) (c := ⟨4, 0, 0⟩) (by omega) hos hp (by omega) (by unfold opK; simp) fn.body.length (pc + 1) (by omega) (by omega) ?_ (by rw [hc]; simp) (fun _ => by rw [hos]; exact bot_self ((pc + 1) :: osAt fn pc))
  · exact this
  · refine ⟨⟨g, by rw [hg.1, hol]; exact rev_top _ _, by unfold hasK; simp; exact hg.2⟩, fun m' g' hg' hh => ?_⟩
    rw [hg.1] at hg'
    rcases rev_cons hg' with ⟨_, e⟩ | ⟨e, _⟩
    · exfalso
      unfold hasK at hh
      rw [if_neg (by omega), if_pos rfl] at hh
      have hG := (h.ppi hp0).g g' (rev_mem e)
      obtain ⟨x, hx, _⟩ := hG.co (by omega)
      have := (List.getElem?_eq_some_iff.1 hx).1
      omega
    · omega
/- an else, reached -/
theorem Tw.lay_else (h : Tw M fn t cells) {pc : Nat} (hp : pc + 1 < fn.body.length) (hl : Lv M fn t pc) (ho : (opAt fn pc).op = 5) {s : Nat} {r : List Nat} (hos : osAt fn pc = s :: r) :
    cells[posF M fn t pc + 1]? = some ⟨224, (tgtF M fn t s : Int), 0⟩ := by
  have hp0 : pc < fn.body.length := by omega
  have hR := h.live hp0 hl
  have hd := hR.dead
  have hs := (h.at_ pc hp0).p
  have hplen := h.plen hp0
  rw [hd] at hplen
  obtain ⟨g, rr, hctl⟩ := h.pctl hp0
  have htop : (psAt M fn t pc).top = g := by unfold PS.top; rw [hctl]; rfl
  unfold stepP at hs
  rw [skip_live hd] at hs
  dsimp only at hs
  rw [if_neg (by omega), if_pos ho] at hs
  unfold turnP at hs
  rw [htop] at hs
  rcases iteC hs with ⟨_, hs⟩ | ⟨_, hs⟩
  · simp at hs
  rcases iteC hs with ⟨_, hs⟩ | ⟨hcd, hs⟩
  · simp at hs
  rw [if_pos hd] at hs
  simp at hs
  have h1 := h.pos1 hp0
  obtain ⟨gx, hx4, _⟩ := ((h.ppi hp0).g g (by rw [hctl]; simp)).co hcd
  have hcl := (List.getElem?_eq_some_iff.1 hx4).1
  have hc : (psAt M fn t (pc + 1)).cells[(psAt M fn t pc).cells.length]? = some ⟨224, 0, 0⟩ := by
    rw [← hs]
    dsimp only
    rw [setX_ne (by omega)]
    simp
  have hq : (psAt M fn t (pc + 1)).ctl = { g with cond := 0, jump := (psAt M fn t pc).cells.length } :: rr := by rw [← hs, hctl]; rfl
  obtain ⟨_, hO⟩ := h.op1 pc hp0
  have hss : osAt fn s = s :: r := by
    have := (hO 0 s (by rw [hos]; rfl)).os
    rw [List.drop_zero, hos] at this
    exact this.symm
  have hsn : s < fn.body.length := by
    have := (hO 0 s (by rw [hos]; rfl)).le
    omega
  have hrl : r.length = rr.length := by
    rw [hos, hctl] at hplen
    simp at hplen
    exact hplen
  rw [h1]
  have := h.prom (K := 2) (i := (psAt M fn t pc).cells.length) (c := ⟨224, 0, 0⟩) (by omega) hss hsn (by omega) (by unfold opK; simp) fn.body.length (pc + 1) (by omega) (by omega) ?_ hc (fun _ => ?_)
  · exact this
  · refine ⟨⟨_, by rw [hq, hrl]; exact rev_top _ _, by unfold hasK; simp⟩, fun m' g' hg' hh => ?_⟩
    rw [hq] at hg'
    rcases rev_cons hg' with ⟨e0, e⟩ | ⟨e, _⟩
    · exfalso
      unfold hasK at hh
      rw [if_neg (by omega), if_neg (by omega)] at hh
      have hG := (h.ppi hp0).g g' (by rw [hctl]; exact List.mem_cons_of_mem _ (rev_mem e))
      obtain ⟨x, hx, _⟩ := hG.ju (by omega)
      have := (List.getElem?_eq_some_iff.1 hx).1
      omega
    · omega
  · rw [osAt, if_neg (by omega), if_neg (by omega), hos]
    exact bot_self (s :: r)
/- an inner end lays nothing -/
theorem Tw.lay_end (h : Tw M fn t cells) {pc : Nat} (hp : pc < fn.body.length) (ho : (opAt fn pc).op = 11) (hin : 2 ≤ (osAt fn pc).length) : posF M fn t (pc + 1) = posF M fn t pc := by
  have hs := (h.at_ pc hp).p
  have hplen := h.plen hp
  obtain ⟨g, rr, hctl⟩ := h.pctl hp
  have htop : (psAt M fn t pc).top = g := by unfold PS.top; rw [hctl]; rfl
  unfold stepP at hs
  cases hk : skipP (psAt M fn t pc) (opAt fn pc).op with
  | some q' =>
    rw [hk] at hs
    simp at hs
    unfold skipP at hk
    rcases iteC hk with ⟨_, hk⟩ | ⟨_, hk⟩
    · simp at hk
    rw [if_neg (by omega), if_neg (by omega), if_pos ho] at hk
    rcases iteC hk with ⟨_, hk⟩ | ⟨_, hk⟩
    · simp at hk
    simp at hk
    unfold posF
    rw [← hs, ← hk]
  | none =>
    rw [hk] at hs
    dsimp only at hs
    have hsk := skip_none hk
    rw [if_neg (by omega), if_neg (by omega), if_pos ho] at hs
    cases hq : shutP (psAt M fn t pc) with
    | none => rw [hq] at hs; simp at hs
    | some q' =>
      rw [hq] at hs
      dsimp only at hs
      rcases iteC hs with ⟨_, hs⟩ | ⟨_, hs⟩
      · simp at hs
      simp at hs
      unfold shutP at hq
      rw [htop] at hq
      rcases iteC hq with ⟨_, hq⟩ | ⟨_, hq⟩
      · simp at hq
      rcases iteC hq with ⟨_, hq⟩ | ⟨_, hq⟩
      · simp at hq
      simp at hq
      have hne : ¬ (psAt M fn t pc).ctl.tail.length = 0 := by rw [List.length_tail]; omega
      unfold posF
      rw [← hs, ← hq]
      dsimp only
      have hne2 : ¬ (psAt M fn t pc).ctl.length - 1 = 0 := by rw [List.length_tail] at hne; exact hne
      rw [if_neg hne2, setX0_len, setX0_len, patchP_len]
theorem Tw.lay_last (h : Tw M fn t cells) {pc : Nat} (hp : pc + 1 = fn.body.length) : cells[posF M fn t pc + 1]? = some ⟨11, 0, 0⟩ := by
  obtain ⟨ho, hin⟩ := h.last hp
  have hp0 : pc < fn.body.length := by omega
  have hs := (h.at_ pc hp0).p
  have hplen := h.plen hp0
  obtain ⟨g, rr, hctl⟩ := h.pctl hp0
  have htop : (psAt M fn t pc).top = g := by unfold PS.top; rw [hctl]; rfl
  have hl1 : (psAt M fn t pc).ctl.length = rr.length + 1 := by rw [hctl]; rfl
  unfold stepP at hs
  have hk : skipP (psAt M fn t pc) (opAt fn pc).op = none := by
    unfold skipP
    split
    · rfl
    · rw [if_neg (by omega), if_neg (by omega), if_pos (by omega)]
  rw [hk] at hs
  dsimp only at hs
  rw [if_neg (by omega), if_neg (by omega), if_pos ho] at hs
  cases hq : shutP (psAt M fn t pc) with
  | none => rw [hq] at hs; simp at hs
  | some q' =>
    rw [hq] at hs
    dsimp only at hs
    rcases iteC hs with ⟨_, hs⟩ | ⟨_, hs⟩
    · simp at hs
    simp at hs
    unfold shutP at hq
    rw [htop] at hq
    rcases iteC hq with ⟨_, hq⟩ | ⟨_, hq⟩
    · simp at hq
    rcases iteC hq with ⟨_, hq⟩ | ⟨_, hq⟩
    · simp at hq
    simp at hq
    have hne2 : (psAt M fn t pc).ctl.length - 1 = 0 := by omega
    have hc : cells = (psAt M fn t (pc + 1)).cells := by rw [hp]; exact h.fin.symm
    rw [h.pos1 hp0, hc, ← hs, ← hq]
    dsimp only
    rw [if_pos hne2]
    have hlen : (setX0 (setX0 (patchP (psAt M fn t pc).cells ((psAt M fn t pc).cells.length - 1) g.chain) g.cond ((psAt M fn t pc).cells.length - 1)) g.jump ((psAt M fn t pc).cells.length - 1)).length = (psAt M fn t pc).cells.length := by rw [setX0_len, setX0_len, patchP_len]
    rw [List.getElem?_append_right (by omega), hlen]
    simp
end
end Go.Proofs.Qxb6500275aGreatDoor
