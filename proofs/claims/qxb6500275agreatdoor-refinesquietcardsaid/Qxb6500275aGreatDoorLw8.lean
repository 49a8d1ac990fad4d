import Derived.Test.Qxb6500275aGreatDoorLw7
set_option linter.unusedVariables false
set_option linter.unusedSimpArgs false
set_option maxRecDepth 100000
namespace Go.Proofs.Qxb6500275aGreatDoor
open Go Go.RowKit
section
variable {M : Mod} {fn : Fn} {t : Ty} {cells : List Ins}
/- where a branch to a block goes -/
def labT (M : Mod) (fn : Fn) (t : Ty) (f : VF) (s : Nat) : Nat := if f.op = 3 then posF M fn t s else tgtF M fn t s
/- label l at pc: the block whose body begins at s, its row f -/
structure Lab (M : Mod) (fn : Fn) (t : Ty) (pc l s : Nat) (f : VF) : Prop where
  os : (osAt fn pc)[l]? = some s
  drop : (osAt fn pc).drop l = osAt fn s
  hd : ∃ r, osAt fn s = s :: r ∧ r.length + 1 + l = (osAt fn pc).length
  lt : s < fn.body.length
  le : s ≤ pc
  fr : (vsAt M fn t pc).ctl[l]? = some f
theorem Tw.lab (h : Tw M fn t cells) {pc l : Nat} (hp : pc < fn.body.length) (hl : l < (osAt fn pc).length) : ∃ s f, Lab M fn t pc l s f := by
  obtain ⟨s, hs⟩ : ∃ s, (osAt fn pc)[l]? = some s := ⟨_, List.getElem?_eq_getElem hl⟩
  obtain ⟨hlen, hO⟩ := h.op1 pc hp
  have h1 := hO l s hs
  obtain ⟨f, hf⟩ : ∃ f, (vsAt M fn t pc).ctl[l]? = some f := ⟨_, List.getElem?_eq_getElem (by omega)⟩
  have hd : (osAt fn pc).drop l = s :: (osAt fn pc).drop (l + 1) := by
    rw [List.drop_eq_getElem_cons hl]
    have := List.getElem?_eq_some_iff.1 hs
    rw [this.2]
  refine ⟨s, f, hs, h1.os, ⟨(osAt fn pc).drop (l + 1), by rw [← h1.os]; exact hd, by rw [List.length_drop]; omega⟩, ?_, h1.le, hf⟩
  have := h1.le
  omega
theorem Lab.not0 (h : Tw M fn t cells) {pc l s : Nat} {f : VF} (hL : Lab M fn t pc l s f) (hp : pc < fn.body.length) (h3 : f.op = 3) : s ≠ 0 := fun e => by
  subst e
  obtain ⟨_, hO⟩ := h.op1 pc hp
  obtain ⟨_, _, g, f', r, g1, g2, _, _, g5, _⟩ := hO l 0 hL.os
  have hf' : f' = f := by
    have : ((vsAt M fn t pc).ctl.drop l)[0]? = some f' := by rw [g2]; rfl
    rw [List.getElem?_drop] at this
    have h2 := hL.fr
    simp at this
    rw [this] at h2
    simpa using h2
  subst hf'
  have : g.op = 2 := by
    simp [vsAt] at g1
    rw [← g1.1]
  omega
/- a branch's cell, wherever it is laid at place pc -/
theorem Tw.born (h : Tw M fn t cells) {pc l s op : Nat} {f : VF} {P1 : PS} {k : Nat} (hp : pc < fn.body.length) (hL : Lab M fn t pc l s f) (hos : pc + 1 < fn.body.length → osAt fn (pc + 1) = osAt fn pc) (hop : isBr op)
    (hP : PI P1) (hF : F2 (vsAt M fn t pc).ctl P1.ctl) (hS : SimP k (psAt M fn t pc).ctl P1.ctl) (hd : (psAt M fn t pc).dead = 0) (hz : SimP (branchP P1 op l).cells.length (branchP P1 op l).ctl (psAt M fn t (pc + 1)).ctl) (hc : ∃ new : List Ins, (psAt M fn t (pc + 1)).cells = (branchP P1 op l).cells ++ new) :
    cells[P1.cells.length]? = some ⟨op, (labT M fn t f s : Int), packP (gLen (labF f)) f.floor⟩ := by
  have hlen := (h.op1 pc hp).1
  have hvl := hF.len
  have hll := (List.getElem?_eq_some_iff.1 hL.fr).1
  obtain ⟨g, hg⟩ : ∃ g, P1.ctl[l]? = some g := ⟨_, List.getElem?_eq_getElem (by omega)⟩
  have hFM := hF.at_ hL.fr hg
  obtain ⟨b1, b2⟩ := branch_born (op := op) hP.g hg
  obtain ⟨new, hnew⟩ := hc
  have hpos := hP.pos
  have hpl := h.plen hp
  rw [hd] at hpl
  obtain ⟨r, hr1, hr2⟩ := hL.hd
  have hko := hFM.keep
  by_cases h3 : f.op = 3
  · have g3 := hFM.lp.1 h3
    obtain ⟨c1, c2⟩ := b1 g3
    have hs0 := Lab.not0 h hL hp h3
    have hst : g.start = (psAt M fn t s).cells.length := by
      have hrv : P1.ctl.reverse[P1.ctl.length - 1 - l]? = some g := by
        rw [List.getElem?_reverse (by omega), show P1.ctl.length - 1 - (P1.ctl.length - 1 - l) = l by omega]
        exact hg
      obtain ⟨g0, e1, _, _, _, e5⟩ := hS.2 _ g hrv
      obtain ⟨s', e6, e7⟩ := h.pst pc hp _ g0 e1
      have : s' = s := by
        rw [List.getElem?_reverse (by omega), show (osAt fn pc).length - 1 - (P1.ctl.length - 1 - l) = l by omega, hL.os] at e6
        simpa using e6.symm
      subst this
      rw [e5, e7 hs0]
    have hsp := (h.ppi hL.lt).pos
    have hcell : (psAt M fn t (pc + 1)).cells[P1.cells.length]? = some ⟨op, ((g.start : Nat) : Int) - 1, packP 0 g.floor⟩ := by
      rw [hnew, c1, List.append_assoc, List.getElem?_append_right (Nat.le_refl _)]
      simp
    have hfin := h.free (K := 0) (i := P1.cells.length) (c := ⟨op, ((g.start : Nat) : Int) - 1, packP 0 g.floor⟩) (by omega) (by omega) (by unfold opK; simp; exact hop) fn.body.length (pc + 1) (by omega) (by omega) (hz.free (by rw [c1]; simp) c2) hcell
    rw [hfin]
    have e1 : ((g.start : Nat) : Int) - 1 = (labT M fn t f s : Int) := by
      unfold labT posF
      rw [if_pos h3, hst]
      omega
    have e2 : gLen (labF f) = 0 := by rw [← hko]; unfold keepF; rw [if_pos g3]
    rw [e1, e2, hFM.fl]
  · have g3 : g.op ≠ 3 := fun e => h3 (hFM.lp.2 e)
    obtain ⟨⟨x, c1⟩, c2⟩ := b2 g3
    have hcell : (psAt M fn t (pc + 1)).cells[P1.cells.length]? = some ⟨op, x, packP g.arity g.floor⟩ := by
      rw [hnew, c1, List.append_assoc, List.getElem?_append_right (Nat.le_refl _)]
      simp
    have hlev : P1.ctl.length - 1 - l = r.length := by omega
    rw [hlev] at c2
    have hfin := h.prom (K := 0) (i := P1.cells.length) (c := ⟨op, x, packP g.arity g.floor⟩) (by omega) hr1 hL.lt (by omega) (by unfold opK; simp; exact hop) fn.body.length (pc + 1) (by omega) (by omega) (hz.pend (by rw [c1]; simp) c2) hcell (fun hn => by
      rw [hos hn]
      unfold bot
      rw [show (osAt fn pc).length - (r.length + 1) = l by omega, hL.drop, hr1])
    rw [hfin]
    have e1 : (tgtK M fn t 0 s : Int) = (labT M fn t f s : Int) := by
      unfold tgtK labT
      rw [if_neg (by omega), if_neg h3]
    have e2 : gLen (labF f) = g.arity := by rw [← hko]; unfold keepF; rw [if_neg g3]
    dsimp only
    rw [e1, e2, hFM.fl]
theorem os_same {pc : Nat} (ho : ¬ ((opAt fn pc).op = 2 ∨ (opAt fn pc).op = 3 ∨ (opAt fn pc).op = 4 ∨ (opAt fn pc).op = 11)) : osAt fn (pc + 1) = osAt fn pc := by
  rw [osAt, if_neg (by omega), if_neg (by omega)]
theorem Tw.lay_br (h : Tw M fn t cells) {pc s : Nat} {f : VF} (hp : pc < fn.body.length) (hl : Lv M fn t pc) (ho : (opAt fn pc).op = 12) (hL : Lab M fn t pc (opAt fn pc).x.toNat s f) :
    cells[posF M fn t pc + 1]? = some ⟨12, (labT M fn t f s : Int), packP (gLen (labF f)) f.floor⟩ := by
  have hR := h.live hp hl
  have hd := hR.dead
  have hs := (h.at_ pc hp).p
  unfold stepP at hs
  rw [skip_live hd] at hs
  dsimp only at hs
  rw [if_neg (by omega), if_neg (by omega), if_neg (by omega), if_pos (by omega)] at hs
  unfold brP at hs
  rw [if_neg (by omega)] at hs
  rcases iteC hs with ⟨_, hs⟩ | ⟨_, hs⟩
  · simp at hs
  simp at hs
  rw [h.pos1 hp]
  refine h.born (P1 := psAt M fn t pc) (k := 0) hp hL (fun _ => os_same (by omega)) (by unfold isBr; omega) (h.ppi hp) hR.f2 (SimP.refl _ _) hd ?_ ⟨[], ?_⟩
  · rw [← hs]; exact SimP.refl _ _
  · rw [← hs]; simp
theorem Tw.lay_brif (h : Tw M fn t cells) {pc s : Nat} {f : VF} (hp : pc < fn.body.length) (hl : Lv M fn t pc) (ho : (opAt fn pc).op = 13) (hL : Lab M fn t pc (opAt fn pc).x.toNat s f) :
    cells[posF M fn t pc + 1]? = some ⟨13, (labT M fn t f s : Int), packP (gLen (labF f)) f.floor⟩ ∧ posF M fn t (pc + 1) = posF M fn t pc + 1 := by
  have hR := h.live hp hl
  have hd := hR.dead
  have hs := (h.at_ pc hp).p
  have hP := h.ppi hp
  unfold stepP at hs
  rw [skip_live hd] at hs
  dsimp only at hs
  rw [if_neg (by omega), if_neg (by omega), if_neg (by omega), if_pos (by omega)] at hs
  unfold brP at hs
  rw [if_pos ho] at hs
  rcases iteC hs with ⟨_, hs⟩ | ⟨_, hs⟩
  · simp at hs
  simp at hs
  have h1 := h.pos1 hp
  constructor
  · rw [h1]
    refine h.born (P1 := { psAt M fn t pc with h := (psAt M fn t pc).h - 1 }) (k := 0) hp hL (fun _ => os_same (by omega)) (by unfold isBr; omega) ⟨hP.g, hP.dj, hP.z, by have := hP.h; dsimp only; omega, hP.lC⟩ hR.f2 (SimP.refl _ _) hd ?_ ⟨[], ?_⟩
    · rw [← hs]; exact SimP.refl _ _
    · rw [← hs]; simp
  · obtain ⟨c, _, hc⟩ := branch_sh { psAt M fn t pc with h := (psAt M fn t pc).h - 1 } 13 (opAt fn pc).x.toNat
    unfold posF at h1 ⊢
    rw [← hs, hc]
    simp
    omega
theorem Tw.lay_rows (h : Tw M fn t cells) {pc k : Nat} (hp : pc < fn.body.length) (hos : pc + 1 < fn.body.length → osAt fn (pc + 1) = osAt fn pc) (hd : (psAt M fn t pc).dead = 0) : ∀ (ls : List Int) {P1 q : PS}, (∀ l, l ∈ ls → 0 ≤ l) → rowsP P1 ls = some q → PI P1 → F2 (vsAt M fn t pc).ctl P1.ctl → SimP k (psAt M fn t pc).ctl P1.ctl → q.ctl = (psAt M fn t (pc + 1)).ctl → q.cells = (psAt M fn t (pc + 1)).cells →
    ∀ (i : Nat) (l : Int), ls[i]? = some l → l < (osAt fn pc).length ∧ ∀ s f, Lab M fn t pc l.toNat s f → cells[P1.cells.length + i]? = some ⟨225, (labT M fn t f s : Int), packP (gLen (labF f)) f.floor⟩
  | [], P1, q, hpos, hs, hP, hF, hS, h1, h2, i, l, hl => by simp at hl
  | l0 :: ls, P1, q, hpos, hs, hP, hF, hS, h1, h2, i, l, hl => by
    rw [rowsP] at hs
    rcases iteC hs with ⟨_, hs⟩ | ⟨hlt, hs⟩
    · simp at hs
    have h0 := hpos l0 (by simp)
    have hvl := hF.len
    have hlen := (h.op1 pc hp).1
    have hPb := hP.branch (op := 225) (l := l0.toNat) (by unfold isBr; omega) (by omega)
    obtain ⟨c, hc1, hc2⟩ := branch_sim P1 225 l0.toNat
    obtain ⟨new, hn1, hn2⟩ := rows_sim ls hs
    cases i with
    | zero =>
      simp at hl
      subst hl
      refine ⟨by omega, fun s f hL => ?_⟩
      rw [Nat.add_zero]
      refine h.born (P1 := P1) hp hL hos (by unfold isBr; omega) hP hF hS hd ?_ ⟨new, ?_⟩
      · rw [← h1]; exact hn2
      · rw [← h2, hn1]
    | succ i =>
      have := h.lay_rows (k := min k P1.cells.length) hp hos hd ls (fun l hl => hpos l (by simp [hl])) hs hPb.1 (hF.branch 225 l0.toNat) (SimP.trans (n := min k P1.cells.length) (k := P1.cells.length) ⟨hS.1, fun m g' hg' => by
        obtain ⟨g, e1, e2, e3, e4, e5⟩ := hS.2 m g' hg'
        exact ⟨g, e1, e2, e3, fun i hi => e4 i (by omega), e5⟩⟩ hc2 (by omega)) h1 h2 i l (by simpa using hl)
      rw [hPb.2.2.1] at this
      rw [show P1.cells.length + (i + 1) = P1.cells.length + 1 + i by omega]
      exact this
theorem Tw.lay_table (h : Tw M fn t cells) {pc : Nat} (hp : pc < fn.body.length) (hl : Lv M fn t pc) (ho : (opAt fn pc).op = 14) :
    cells[posF M fn t pc + 1]? = some ⟨14, (opAt fn pc).y, 0⟩ ∧ 1 ≤ (opAt fn pc).y ∧ (opAt fn pc).x.toNat + (opAt fn pc).y.toNat ≤ fn.tabs.length ∧ ∀ (i : Nat), i < (opAt fn pc).y.toNat → ∃ l : Nat, fn.tabs[(opAt fn pc).x.toNat + i]? = some (l : Int) ∧ l < (osAt fn pc).length ∧ ∀ s f, Lab M fn t pc l s f → cells[posF M fn t pc + 2 + i]? = some ⟨225, (labT M fn t f s : Int), packP (gLen (labF f)) f.floor⟩ := by
  have hR := h.live hp hl
  have hd := hR.dead
  have hs := (h.at_ pc hp).p
  have hP := h.ppi hp
  have hok := (h.at_ pc hp).ok
  have hx0 := hok.x
  unfold u32R at hx0
  unfold stepP at hs
  rw [skip_live hd] at hs
  dsimp only at hs
  rw [if_neg (by omega), if_neg (by omega), if_neg (by omega), if_neg (by omega), if_pos ho] at hs
  unfold tableP at hs
  rcases iteC hs with ⟨_, hs⟩ | ⟨hno, hs⟩
  · simp at hs
  split at hs
  · simp at hs
  rename_i q hr
  simp at hs
  have h1 := h.pos1 hp
  obtain ⟨new, hn1, hn2⟩ := rows_sim _ hr
  have hqc : q.cells = (psAt M fn t (pc + 1)).cells := by rw [← hs]
  have hqt : q.ctl = (psAt M fn t (pc + 1)).ctl := by rw [← hs]
  have hP1 : PI ⟨(psAt M fn t pc).cells ++ [⟨14, (opAt fn pc).y, 0⟩], (psAt M fn t pc).ctl, (psAt M fn t pc).h - 1, (psAt M fn t pc).dead⟩ := hP.lay _ _ _ (by have := hP.h; omega)
  refine ⟨?_, by omega, by omega, fun i hi => ?_⟩
  · rw [h1]
    refine h.plainc (c := ⟨14, (opAt fn pc).y, 0⟩) (by unfold isBr; dsimp only; omega) fn.body.length (pc + 1) (by omega) (by omega) ?_
    rw [← hqc, hn1]
    dsimp only
    rw [List.append_assoc, List.getElem?_append_right (Nat.le_refl _)]
    simp
  · obtain ⟨l, hlt⟩ : ∃ l, fn.tabs[(opAt fn pc).x.toNat + i]? = some l := ⟨_, List.getElem?_eq_getElem (by omega)⟩
    have hl0 := (h.hF.tabs l (List.mem_of_getElem? hlt)).1
    have hrow : ((fn.tabs.drop (opAt fn pc).x.toNat).take (opAt fn pc).y.toNat)[i]? = some l := by
      rw [List.getElem?_take, if_pos hi, List.getElem?_drop]
      exact hlt
    obtain ⟨k1, k2⟩ := h.lay_rows (k := 0) hp (fun _ => os_same (by omega)) hd _ (fun l hl => by
      have := List.mem_of_mem_drop (List.mem_of_mem_take hl)
      exact (h.hF.tabs l this).1) hr hP1 hR.f2 (SimP.refl _ _) hqt hqc i l hrow
    refine ⟨l.toNat, by rw [hlt]; congr 1; omega, by omega, fun s f hL => ?_⟩
    have := k2 s f hL
    dsimp only at this
    rw [List.length_append, ← h1] at this
    rw [← this]
    congr 1
end
end Go.Proofs.Qxb6500275aGreatDoor
