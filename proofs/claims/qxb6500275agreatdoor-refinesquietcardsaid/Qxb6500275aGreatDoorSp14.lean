import Derived.Test.Qxb6500275aGreatDoorSp13
set_option linter.unusedVariables false
set_option linter.unusedSimpArgs false
set_option maxRecDepth 100000
namespace Go.Proofs.Qxb6500275aGreatDoor
open Go Go.RowKit
theorem get_snoc3 {α : Type} {l : List α} {x y : α} {i : Nat} (h : (l ++ [x])[i]? = some y) : (i < l.length ∧ l[i]? = some y) ∨ (i = l.length ∧ y = x) := by
  by_cases e : i < l.length
  · rw [List.getElem?_append_left e] at h
    exact .inl ⟨e, h⟩
  · have hl := (List.getElem?_eq_some_iff.1 h).1
    simp at hl
    have hi : i = l.length := by omega
    subst hi
    simp at h
    exact .inr ⟨rfl, h.symm⟩
/- all cells but cell e -/
def CellsJ (M : Mod) (nl rs : Nat) (A : Nat → Nat → Prop) (cells : List Ins) (hs : List Nat) (ctl : List PF) (e : Nat) : Prop :=
  ∀ (i : Nat) (c : Ins), 1 ≤ i → i ≠ e → cells[i]? = some c → ∃ h, hs[i]? = some h ∧ CJ M nl rs A (Ent cells hs) ctl i c h
/- the compiler's half -/
structure JQ (M : Mod) (nl rs : Nat) (p : PS) (hs : List Nat) (e : Nat) : Prop where
  len : hs.length = p.cells.length
  cell : CellsJ M nl rs (Att p hs) p.cells hs p.ctl e
  fr : ∀ g, g ∈ p.ctl → FJ p.cells hs (Att p hs) g ∧ (g.cond ≠ 0 → g.jump = 0)
  first : Att p hs 1 0
section
variable {M : Mod} {nl rs : Nat} {p q : PS} {hs ks : List Nat} {e : Nat}
/- the cells of the next state -/
theorem CellsJ.next {B : Nat → Nat → Prop} (h : CellsJ M nl rs (Att p hs) p.cells hs p.ctl e) (hl : hs.length = p.cells.length) (hx : Ext p hs q ks) (hm : ∀ t n, Att p hs t n → B t n)
    (hc : ∀ (i : Nat) (c d : Ins) (n : Nat), 1 ≤ i → p.cells[i]? = some c → q.cells[i]? = some d → hs[i]? = some n → Mv (Att p hs) B p.ctl q.ctl i c d n)
    (hn : ∀ (i : Nat) (d : Ins), p.cells.length ≤ i → i ≠ e → q.cells[i]? = some d → ∃ n, ks[i]? = some n ∧ CJ M nl rs B (Ent q.cells ks) q.ctl i d n) : CellsJ M nl rs B q.cells ks q.ctl e := by
  intro i d hi he hd
  by_cases hlt : i < p.cells.length
  · obtain ⟨c, hc0⟩ : ∃ c, p.cells[i]? = some c := ⟨_, List.getElem?_eq_getElem hlt⟩
    obtain ⟨n, hn0, hcj⟩ := h i c hi he hc0
    obtain ⟨d', h1, h2, h3⟩ := hx.old i c hc0
    exact ⟨n, by rw [h3]; exact hn0, hcj.mv hm (fun t k => hx.ent) (hc i c d n hi hc0 hd hn0)⟩
  · exact hn i d (by omega) he hd
theorem FJ.next {g : PF} (h : FJ p.cells hs (Att p hs) g) (hx : Ext p hs q ks) (hg : GI p.cells g) (hy : ∀ (i : Nat) (c : Ins), p.cells[i]? = some c → ∃ d : Ins, q.cells[i]? = some d ∧ d.y = c.y) : FJ q.cells ks (Att q ks) g := by
  refine ⟨fun e => ?_, fun e => ?_, fun i hi => ?_, fun e => hx.att (h.lp e)⟩
  · obtain ⟨x, h1, _⟩ := hg.co e
    obtain ⟨d, _, _, h2⟩ := hx.old _ x h1
    rw [h2]; exact h.co e
  · obtain ⟨x, h1, _⟩ := hg.ju e
    obtain ⟨d, _, _, h2⟩ := hx.old _ x h1
    rw [h2]; exact h.ju e
  · obtain ⟨c, h1, h2⟩ := h.ch i hi
    obtain ⟨d, h3, h4⟩ := hy i c h1
    exact ⟨d, h3, h4.trans h2⟩
/- a cell more: c, at height n; the blocks stay or are added to -/
theorem ext_lay {c : Ins} {ctl : List PF} {h' dd n : Nat} (hl : hs.length = p.cells.length) (hc : c.op ≠ 225) (hn : p.dead = 0 → n = p.h) : Ext p hs ⟨p.cells ++ [c], ctl, h', dd⟩ (hs ++ [n]) := by
  refine ⟨fun t x hx => ?_, fun h0 => .inr ⟨c, by simp, hc, by rw [← hl]; simp [hn h0]⟩⟩
  have ht := (List.getElem?_eq_some_iff.1 hx).1
  exact ⟨x, by dsimp only; rw [List.getElem?_append_left ht]; exact hx, rfl, by rw [List.getElem?_append_left (by omega)]⟩
theorem lay_y {c : Ins} : ∀ (i : Nat) (x : Ins), p.cells[i]? = some x → ∃ d : Ins, (p.cells ++ [c])[i]? = some d ∧ d.y = x.y := fun i x hx =>
  ⟨x, by rw [List.getElem?_append_left (List.getElem?_eq_some_iff.1 hx).1]; exact hx, rfl⟩
theorem lay_new {c d : Ins} {i : Nat} {l : List Ins} (hi : l.length ≤ i) (h : (l ++ [c])[i]? = some d) : i = l.length ∧ d = c := by
  rcases get_snoc3 h with ⟨h1, _⟩ | h1
  · omega
  · exact h1
end
end Go.Proofs.Qxb6500275aGreatDoor
