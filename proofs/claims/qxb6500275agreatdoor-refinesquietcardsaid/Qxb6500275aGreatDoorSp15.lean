import Derived.Test.Qxb6500275aGreatDoorSp14
set_option linter.unusedVariables false
set_option linter.unusedSimpArgs false
set_option maxRecDepth 100000
namespace Go.Proofs.Qxb6500275aGreatDoor
open Go Go.RowKit
section
variable {M : Mod} {nl rs : Nat} {p q : PS} {hs ks : List Nat} {e : Nat}
/- A CELL IS LAID -/
theorem JQ.lay {c : Ins} {ctl' : List PF} {h' dd n : Nat} (hq : JQ M nl rs p hs e)
    (hx : Ext p hs ⟨p.cells ++ [c], ctl', h', dd⟩ (hs ++ [n]))
    (hg : ∀ g, g ∈ p.ctl → ∃ g', g' ∈ ctl' ∧ g'.cond = g.cond ∧ (g.jump ≠ 0 → g'.jump = g.jump) ∧ ∀ k, k ∈ g.chain → k ∈ g'.chain)
    (hf : ∀ g, g ∈ ctl' → FJ (p.cells ++ [c]) (hs ++ [n]) (Att ⟨p.cells ++ [c], ctl', h', dd⟩ (hs ++ [n])) g ∧ (g.cond ≠ 0 → g.jump = 0))
    (hn : p.cells.length ≠ e → CJ M nl rs (Att ⟨p.cells ++ [c], ctl', h', dd⟩ (hs ++ [n])) (Ent (p.cells ++ [c]) (hs ++ [n])) ctl' p.cells.length c n) :
    JQ M nl rs ⟨p.cells ++ [c], ctl', h', dd⟩ (hs ++ [n]) e := by
  have hl := hq.len
  refine ⟨by simp [hl], ?_, hf, hx.att hq.first⟩
  refine CellsJ.next (q := ⟨p.cells ++ [c], ctl', h', dd⟩) hq.cell hl hx (fun t n => hx.att) (fun i c0 d n0 hi h1 h2 h3 => ?_) (fun i d hi he hd => ?_)
  · have hlt := (List.getElem?_eq_some_iff.1 h1).1
    dsimp only at h2
    rw [List.getElem?_append_left hlt, h1] at h2
    simp at h2
    subst h2
    exact Mv.same (fun t n => hx.att) hg (by omega)
  · obtain ⟨h1, h2⟩ := lay_new hi hd
    subst h1 h2
    exact ⟨n, by rw [← hl]; simp, hn he⟩
theorem same_fr : ∀ g, g ∈ p.ctl → ∃ g', g' ∈ p.ctl ∧ g'.cond = g.cond ∧ (g.jump ≠ 0 → g'.jump = g.jump) ∧ ∀ k, k ∈ g.chain → k ∈ g'.chain := fun g hg => ⟨g, hg, rfl, fun _ => rfl, fun _ h => h⟩
/- .. and the blocks stay -/
theorem JQ.lay0 {c : Ins} {h' dd n : Nat} (hq : JQ M nl rs p hs e) (hp : PI p)
    (hx : Ext p hs ⟨p.cells ++ [c], p.ctl, h', dd⟩ (hs ++ [n]))
    (hn : p.cells.length ≠ e → CJ M nl rs (Att ⟨p.cells ++ [c], p.ctl, h', dd⟩ (hs ++ [n])) (Ent (p.cells ++ [c]) (hs ++ [n])) p.ctl p.cells.length c n) :
    JQ M nl rs ⟨p.cells ++ [c], p.ctl, h', dd⟩ (hs ++ [n]) e :=
  hq.lay hx same_fr (fun g hg => ⟨(hq.fr g hg).1.next hx (hp.g g hg) lay_y, (hq.fr g hg).2⟩) hn
/- a branch is laid: the cell, the blocks -/
theorem branch_with (a b op l : Nat) : branchP { p with h := a, dead := b } op l = { branchP p op l with h := a, dead := b } := by
  unfold branchP
  dsimp only
  split <;> rfl
theorem branch_sh (p : PS) (op l : Nat) : ∃ c : Ins, c.op = op ∧ (branchP p op l).cells = p.cells ++ [c] := by
  unfold branchP
  dsimp only
  split
  · exact ⟨_, rfl, rfl⟩
  · exact ⟨_, rfl, rfl⟩
/- what the cell keeps -/
def keepF (g : PF) : Nat := if g.op = 3 then 0 else g.arity
theorem JQ.branch {op l h' dd n nb : Nat} (hq : JQ M nl rs p hs e) (hp : PI p) {g : PF} (hl : p.ctl[l]? = some g) (ho : isBr op)
    (hx : Ext p hs ⟨(branchP p op l).cells, (branchP p op l).ctl, h', dd⟩ (hs ++ [n]))
    (hnb : g.floor + keepF g ≤ nb)
    (hn : p.cells.length ≠ e → ∀ c : Ins, c.op = op → (branchP p op l).cells = p.cells ++ [c] → BrJ (Att ⟨(branchP p op l).cells, (branchP p op l).ctl, h', dd⟩ (hs ++ [n])) (branchP p op l).ctl p.cells.length c nb → CJ M nl rs (Att ⟨(branchP p op l).cells, (branchP p op l).ctl, h', dd⟩ (hs ++ [n])) (Ent (branchP p op l).cells (hs ++ [n])) (branchP p op l).ctl p.cells.length c n) :
    JQ M nl rs ⟨(branchP p op l).cells, (branchP p op l).ctl, h', dd⟩ (hs ++ [n]) e := by
  have hgm := List.mem_of_getElem? hl
  have hgI := hp.g g hgm
  have hgJ := hq.fr g hgm
  have hgd : p.ctl.getD l PF.zero = g := by rw [List.getD_eq_getElem?_getD, hl]; rfl
  unfold keepF at hnb
  by_cases h3 : g.op = 3
  · have hb : branchP p op l = ⟨p.cells ++ [⟨op, ((g.start : Nat) : Int) - 1, packP 0 g.floor⟩], p.ctl, p.h, p.dead⟩ := by
      unfold branchP
      rw [hgd]
      dsimp only
      rw [if_pos h3]
    rw [if_pos h3] at hnb
    rw [hb] at hx hn ⊢
    refine hq.lay0 hp hx (fun he => hn he _ rfl rfl ⟨0, g.floor, rfl, by omega, hgI.fl, by omega, .inl ?_⟩)
    have hs1 := (hgI.lp h3).1
    refine ⟨g.start - 1, by dsimp only; omega, ?_⟩
    have : g.start - 1 + 1 = g.start := by omega
    rw [this]
    exact hx.att (hgJ.1.lp h3)
  · have hb : branchP p op l = ⟨p.cells ++ [⟨op, ((g.chain.headD 0 : Nat) : Int), packP g.arity g.floor⟩], p.ctl.modify l (fun f => { f with chain := p.cells.length :: f.chain }), p.h, p.dead⟩ := by
      unfold branchP
      rw [hgd]
      dsimp only
      rw [if_neg h3]
    rw [if_neg h3] at hnb
    rw [hb] at hx hn ⊢
    have hin : ({ g with chain := p.cells.length :: g.chain } : PF) ∈ p.ctl.modify l (fun f => { f with chain := p.cells.length :: f.chain }) := by
      refine List.mem_of_getElem? (i := l) ?_
      rw [List.getElem?_modify, hl]
      simp
    refine hq.lay hx (fun a ha => ?_) (fun a ha => ?_) (fun he => hn he _ rfl rfl ⟨g.arity, g.floor, rfl, hgI.ar, hgI.fl, by omega, .inr ⟨_, hin, by simp⟩⟩)
    · obtain ⟨j, hj⟩ := List.getElem?_of_mem ha
      by_cases e : l = j
      · subst e
        rw [hl] at hj
        simp at hj
        subst hj
        exact ⟨_, hin, rfl, fun _ => rfl, fun k hk => by simp [hk]⟩
      · refine ⟨a, List.mem_of_getElem? (i := j) ?_, rfl, fun _ => rfl, fun k hk => hk⟩
        rw [List.getElem?_modify, hj]
        simp [e]
    · obtain ⟨j, hj⟩ := List.getElem?_of_mem ha
      rw [List.getElem?_modify] at hj
      cases hk : p.ctl[j]? with
      | none => rw [hk] at hj; simp at hj
      | some b =>
        rw [hk] at hj
        have hbm := List.mem_of_getElem? hk
        have hN := (hq.fr b hbm).1.next hx (hp.g b hbm) lay_y
        by_cases e : l = j
        · subst e
          simp at hj
          subst hj
          rw [hl] at hk
          simp at hk
          subst hk
          refine ⟨⟨hN.co, hN.ju, fun i hi => ?_, hN.lp⟩, (hq.fr g hbm).2⟩
          rcases List.mem_cons.1 hi with rfl | hi
          · exact ⟨⟨op, ((g.chain.headD 0 : Nat) : Int), packP g.arity g.floor⟩, List.getElem?_concat_length, rfl⟩
          · exact hN.ch i hi
        · simp [e] at hj
          subst hj
          exact ⟨hN, (hq.fr b hbm).2⟩
/- A BLOCK IS OPENED -/
theorem JQ.opened {x : Ins} (hq : JQ M nl rs p hs 0) (hp : PI p) (hd : p.dead = 0) (ho : x.op = 2 ∨ x.op = 3) {ar : Nat} : JQ M nl rs ⟨p.cells, ⟨x.op, p.h, ar, p.cells.length, [], 0, 0⟩ :: p.ctl, p.h, p.dead⟩ hs 0 := by
  have hx : Ext p hs ⟨p.cells, ⟨x.op, p.h, ar, p.cells.length, [], 0, 0⟩ :: p.ctl, p.h, p.dead⟩ hs := ⟨fun t c hc => ⟨c, hc, rfl, rfl⟩, fun _ => .inl ⟨rfl, hd, rfl⟩⟩
  refine ⟨hq.len, ?_, fun g hg => ?_, hx.att hq.first⟩
  · refine CellsJ.next hq.cell hq.len hx (fun t n => hx.att) (fun i c0 d n0 hi h1 h2 h3 => ?_) (fun i d hi he hd => ?_)
    · dsimp only at h2
      rw [h1] at h2
      simp at h2
      subst h2
      exact Mv.same (fun t n => hx.att) (fun g hg => ⟨g, by simp [hg], rfl, fun _ => rfl, fun _ h => h⟩) (by omega)
    · have := (List.getElem?_eq_some_iff.1 hd).1
      dsimp only at this
      omega
  · rcases List.mem_cons.1 hg with rfl | hg
    · exact ⟨⟨fun e => absurd rfl e, fun e => absurd rfl e, fun i hi => by simp at hi, fun _ => .inr ⟨rfl, hd, rfl⟩⟩, fun _ => rfl⟩
    · exact ⟨(hq.fr g hg).1.next hx (hp.g g hg) (fun i c hc => ⟨c, hc, rfl⟩), (hq.fr g hg).2⟩
/- AN IF -/
theorem JQ.iffed (hq : JQ M nl rs p hs 0) (hp : PI p) (hd : p.dead = 0) (hh : 1 ≤ p.h) {ar : Nat} : JQ M nl rs ⟨p.cells ++ [⟨4, 0, 0⟩], ⟨4, p.h - 1, ar, p.cells.length + 1, [], p.cells.length, 0⟩ :: p.ctl, p.h - 1, p.dead⟩ (hs ++ [p.h]) 0 := by
  have hx : Ext p hs ⟨p.cells ++ [⟨4, 0, 0⟩], ⟨4, p.h - 1, ar, p.cells.length + 1, [], p.cells.length, 0⟩ :: p.ctl, p.h - 1, p.dead⟩ (hs ++ [p.h]) := ext_lay hq.len (by simp) (fun _ => rfl)
  have h10 := hp.h
  have hl := hq.len
  refine hq.lay hx (fun g hg => ⟨g, by simp [hg], rfl, fun _ => rfl, fun _ h => h⟩) (fun g hg => ?_) (fun _ => ?_)
  · rcases List.mem_cons.1 hg with rfl | hg
    · refine ⟨⟨fun e => ?_, fun e => absurd rfl e, fun i hi => by simp at hi, fun e => by simp at e⟩, fun _ => rfl⟩
      dsimp only
      rw [← hl]
      simp
      omega
    · exact ⟨(hq.fr g hg).1.next hx (hp.g g hg) lay_y, (hq.fr g hg).2⟩
  · refine ⟨h10, fun _ => ⟨hh, .inr ⟨by simp, hd, rfl⟩, .inr ⟨_, List.mem_cons_self, rfl⟩⟩, fun e => by simp at e, fun e => by simp at e, fun e => by simp at e, fun e => by simp at e, fun e => by simp at e, fun e => by simp at e, fun e => by simp at e⟩
end
end Go.Proofs.Qxb6500275aGreatDoor
