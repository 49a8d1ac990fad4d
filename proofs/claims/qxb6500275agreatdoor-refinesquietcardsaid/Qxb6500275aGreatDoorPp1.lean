import Derived.Test.Qxb6500275aGreatDoorVc1
import Derived.Test.Qxb6500275aGreatDoorSp10
set_option maxRecDepth 100000
set_option linter.unusedVariables false
set_option linter.unusedSimpArgs false
namespace Go.Proofs.Qxb6500275aGreatDoor
open Go Go.RowKit
/- THE COMPILER IN MEMORY: block pb: the struct (54 cells), block cb: the scratch (121 rows of 3 cells); x: the mark -/
structure PL (cb : Nat) (F G : Nat → Value) (cells : List Ins) (x : Nat) : Prop where
  sl : F 0 = .slice (some ⟨cb, 0, none⟩) cells.length 121
  hi : F 1 = .int .i64 x ∧ 1 ≤ x ∧ x ≤ 121
  zr : ∀ i, x ≤ i → cells.length ≤ i → i < 121 → insP Ins.zero (fun k => G (i * 3 + k))
  cl : ∀ i c, cells[i]? = some c → insP c (fun k => G (i * 3 + k))
  z : cells[0]? = some Ins.zero
  n : cells.length ≤ 121
structure PC (F : Nat → Value) (p : PS) : Prop where
  ctl : ∀ (j : Nat) (g : PF), p.ctl.reverse[j]? = some g → F (2 + j * 7) = .int .u8 g.op ∧ F (2 + j * 7 + 1) = .int .i64 g.floor ∧ F (2 + j * 7 + 2) = .int .i64 g.arity ∧ F (2 + j * 7 + 3) = .int .i64 g.start ∧ F (2 + j * 7 + 4) = .int .i64 (g.chain.headD 0 : Nat) ∧ F (2 + j * 7 + 5) = .int .i64 g.cond ∧ F (2 + j * 7 + 6) = .int .i64 g.jump
  d : F 51 = .int .i64 p.ctl.length
  h : F 52 = .int .i64 p.h
  dead : F 53 = .int .i64 p.dead
  lC : p.ctl.length ≤ 7
/- whatever the compiler has met -/
structure Pw (w : World) (pb cb x : Nat) : Prop where
  is : ∃ F G cells, Blk w pb 54 F ∧ Blk w cb 363 G ∧ PL cb F G cells x ∧ ∃ n : Nat, F 51 = .int .i64 n ∧ n ≤ 7
  ne : pb ≠ cb
/- amid a body -/
structure Pd (w : World) (pb cb x : Nat) (p : PS) : Prop where
  is : ∃ F G, Blk w pb 54 F ∧ Blk w cb 363 G ∧ PL cb F G p.cells x ∧ PC F p
  ne : pb ≠ cb
section
variable {w w' : World} {pb cb x : Nat} {p : PS} {S : Nat → Prop}
theorem Pw.keep (h : Pw w pb cb x) (hk : Kp S w w') (h1 : ¬ S pb) (h2 : ¬ S cb) : Pw w' pb cb x := by
  obtain ⟨⟨F, G, cells, b1, b2, hl⟩, ne⟩ := h
  exact ⟨⟨F, G, cells, b1.keep hk h1, b2.keep hk h2, hl⟩, ne⟩
theorem Pd.keep (h : Pd w pb cb x p) (hk : Kp S w w') (h1 : ¬ S pb) (h2 : ¬ S cb) : Pd w' pb cb x p := by
  obtain ⟨⟨F, G, b1, b2, hl⟩, ne⟩ := h
  exact ⟨⟨F, G, b1.keep hk h1, b2.keep hk h2, hl⟩, ne⟩
theorem Pd.new (h : Pd w pb cb x p) (hk : Kp (fun _ => False) w w') : Pd w' pb cb x p := h.keep hk (fun h => h) (fun h => h)
theorem Pd.drewM (h : Pd w pb cb x p) (m : Nat) : Pd (w.drewN m) pb cb x p := h.new ((Kp.refl _ _).drewM m)
theorem Pd.pw (h : Pd w pb cb x p) : Pw w pb cb x := by
  obtain ⟨⟨F, G, b1, b2, hl, hc⟩, ne⟩ := h
  exact ⟨⟨F, G, p.cells, b1, b2, hl, _, hc.d, hc.lC⟩, ne⟩
theorem Pw.new (h : Pw w pb cb x) (hk : Kp (fun _ => False) w w') : Pw w' pb cb x := h.keep hk (fun h => h) (fun h => h)
/- the struct's cells -/
structure PdC (w : World) (pb cb : Nat) (p : PS) : Prop where
  c0 : w.cell? ⟨pb, 0, none⟩ = some (.slice (some ⟨cb, 0, none⟩) p.cells.length 121)
  c51 : w.cell? ⟨pb, 51, none⟩ = some (.int .i64 p.ctl.length)
  c52 : w.cell? ⟨pb, 52, none⟩ = some (.int .i64 p.h)
  c53 : w.cell? ⟨pb, 53, none⟩ = some (.int .i64 p.dead)
  f : ∀ i, i < 54 → w.frozen? ⟨pb, i, none⟩ = false
  g : ∀ i, i < 363 → w.frozen? ⟨cb, i, none⟩ = false
  fs : ∀ i, i < 54 → ∃ v, w.cell? ⟨pb, i, none⟩ = some v
  gs : ∀ i, i < 363 → ∃ v, w.cell? ⟨cb, i, none⟩ = some v
  lC : p.ctl.length ≤ 7
  n : p.cells.length ≤ 121
  n0 : 0 < p.cells.length
  pl : pb < w.heap.size
  cl : cb < w.heap.size
  ne : pb ≠ cb
theorem Pd.cells (h : Pd w pb cb x p) : PdC w pb cb p := by
  obtain ⟨⟨F, G, b1, b2, hl, hc⟩, ne⟩ := h
  exact ⟨by rw [b1.cell (by decide), hl.sl], by rw [b1.cell (by decide), hc.d], by rw [b1.cell (by decide), hc.h], by rw [b1.cell (by decide), hc.dead], fun i hi => b1.fz hi, fun i hi => b2.fz hi, fun i hi => ⟨_, b1.cell hi⟩, fun i hi => ⟨_, b2.cell hi⟩, hc.lC, hl.n, (List.getElem?_eq_some_iff.1 hl.z).1, b1.lt (by decide), b2.lt (by decide), ne⟩
/- block number j from the bottom -/
structure PdG (w : World) (pb j : Nat) (g : PF) : Prop where
  e0 : w.cell? ⟨pb, 2 + j * 7, none⟩ = some (.int .u8 g.op)
  e1 : w.cell? ⟨pb, 2 + j * 7 + 1, none⟩ = some (.int .i64 g.floor)
  e2 : w.cell? ⟨pb, 2 + j * 7 + 2, none⟩ = some (.int .i64 g.arity)
  e3 : w.cell? ⟨pb, 2 + j * 7 + 3, none⟩ = some (.int .i64 g.start)
  e4 : w.cell? ⟨pb, 2 + j * 7 + 4, none⟩ = some (.int .i64 (g.chain.headD 0 : Nat))
  e5 : w.cell? ⟨pb, 2 + j * 7 + 5, none⟩ = some (.int .i64 g.cond)
  e6 : w.cell? ⟨pb, 2 + j * 7 + 6, none⟩ = some (.int .i64 g.jump)
theorem Pd.at_ (h : Pd w pb cb x p) {l j : Nat} {g : PF} (hg : p.ctl[l]? = some g) (hj : j + l + 1 = p.ctl.length) : PdG w pb j g ∧ j < 7 := by
  obtain ⟨⟨F, G, b1, b2, hl, hc⟩, ne⟩ := h
  have h7 := hc.lC
  have hr : p.ctl.reverse[j]? = some g := by
    rw [List.getElem?_reverse (by omega), show p.ctl.length - 1 - j = l by omega]; exact hg
  obtain ⟨a0, a1, a2, a3, a4, a5, a6⟩ := hc.ctl j g hr
  exact ⟨⟨by rw [b1.cell (by omega), a0], by rw [b1.cell (by omega), a1], by rw [b1.cell (by omega), a2], by rw [b1.cell (by omega), a3], by rw [b1.cell (by omega), a4], by rw [b1.cell (by omega), a5], by rw [b1.cell (by omega), a6]⟩, by omega⟩
theorem Pd.top {f : PF} {r : List PF} (h : Pd w pb cb x p) (hc : p.ctl = f :: r) : PdG w pb r.length f ∧ r.length < 7 := h.at_ (l := 0) (by rw [hc]; rfl) (by rw [hc]; simp)
/- a cell of the scratch -/
theorem Pd.ins (h : Pd w pb cb x p) {i : Nat} {c : Ins} (hi : p.cells[i]? = some c) : w.cell? ⟨cb, i * 3, none⟩ = some (.int .u8 c.op) ∧ w.cell? ⟨cb, i * 3 + 1, none⟩ = some (.int .u32 c.x) ∧ w.cell? ⟨cb, i * 3 + 2, none⟩ = some (.int .u64 c.y) := by
  obtain ⟨⟨F, G, b1, b2, hl, hc⟩, ne⟩ := h
  have hn := hl.n
  have hlt := (List.getElem?_eq_some_iff.1 hi).1
  obtain ⟨a0, a1, a2⟩ := hl.cl i c hi
  have a0' : G (i * 3) = .int .u8 c.op := a0
  have a1' : G (i * 3 + 1) = .int .u32 c.x := a1
  have a2' : G (i * 3 + 2) = .int .u64 c.y := a2
  exact ⟨by rw [b2.cell (by omega), a0'], by rw [b2.cell (by omega), a1'], by rw [b2.cell (by omega), a2']⟩
/- fields are set -/
theorem PL.updF {F G : Nat → Value} {cells : List Ins} (h : PL cb F G cells x) {i : Nat} (hi : 2 ≤ i) (v : Value) : PL cb (upd F i v) G cells x :=
  ⟨by rw [upd_ne _ _ (by omega)]; exact h.sl, by rw [upd_ne _ _ (by omega)]; exact h.hi, h.zr, h.cl, h.z, h.n⟩
theorem Pw.set (h : Pw w pb cb x) {i : Nat} (hi : 2 ≤ i ∧ i ≠ 51) (h54 : i < 54) (v : Value) : Pw (w.setCell ⟨pb, i, none⟩ v) pb cb x := by
  obtain ⟨⟨F, G, cells, b1, b2, hl, n, hn⟩, ne⟩ := h
  exact ⟨⟨_, _, cells, b1.set h54 v, b2.other (Ne.symm ne) v, hl.updF hi.1 v, n, by rw [upd_ne _ _ (by omega)]; exact hn⟩, ne⟩
theorem Pw.depth (h : Pw w pb cb x) : ∃ n : Nat, w.cell? ⟨pb, 51, none⟩ = some (.int .i64 n) ∧ n ≤ 7 := by
  obtain ⟨⟨F, G, cells, b1, b2, hl, n, hn⟩, ne⟩ := h
  exact ⟨n, by rw [b1.cell (by decide), hn.1], hn.2⟩
theorem Pd.setH (h : Pd w pb cb x p) (n : Nat) : Pd (w.setCell ⟨pb, 52, none⟩ (.int .i64 (n : Int))) pb cb x { p with h := n } := by
  obtain ⟨⟨F, G, b1, b2, hl, hc⟩, ne⟩ := h
  refine ⟨⟨_, _, b1.set (by decide) _, b2.other (Ne.symm ne) _, hl.updF (by decide) _, ?_⟩, ne⟩
  have h7 := hc.lC
  refine ⟨fun j g hg => ?_, by rw [upd_ne _ _ (by decide)]; exact hc.d, upd_same _ _ _, by rw [upd_ne _ _ (by decide)]; exact hc.dead, hc.lC⟩
  have hj := (List.getElem?_eq_some_iff.1 hg).1
  simp at hj
  obtain ⟨a0, a1, a2, a3, a4, a5, a6⟩ := hc.ctl j g hg
  exact ⟨by rw [upd_ne _ _ (by omega)]; exact a0, by rw [upd_ne _ _ (by omega)]; exact a1, by rw [upd_ne _ _ (by omega)]; exact a2, by rw [upd_ne _ _ (by omega)]; exact a3, by rw [upd_ne _ _ (by omega)]; exact a4, by rw [upd_ne _ _ (by omega)]; exact a5, by rw [upd_ne _ _ (by omega)]; exact a6⟩
theorem Pd.setDead (h : Pd w pb cb x p) (n : Nat) : Pd (w.setCell ⟨pb, 53, none⟩ (.int .i64 (n : Int))) pb cb x { p with dead := n } := by
  obtain ⟨⟨F, G, b1, b2, hl, hc⟩, ne⟩ := h
  refine ⟨⟨_, _, b1.set (by decide) _, b2.other (Ne.symm ne) _, hl.updF (by decide) _, ?_⟩, ne⟩
  have h7 := hc.lC
  refine ⟨fun j g hg => ?_, by rw [upd_ne _ _ (by decide)]; exact hc.d, by rw [upd_ne _ _ (by decide)]; exact hc.h, upd_same _ _ _, hc.lC⟩
  have hj := (List.getElem?_eq_some_iff.1 hg).1
  simp at hj
  obtain ⟨a0, a1, a2, a3, a4, a5, a6⟩ := hc.ctl j g hg
  exact ⟨by rw [upd_ne _ _ (by omega)]; exact a0, by rw [upd_ne _ _ (by omega)]; exact a1, by rw [upd_ne _ _ (by omega)]; exact a2, by rw [upd_ne _ _ (by omega)]; exact a3, by rw [upd_ne _ _ (by omega)]; exact a4, by rw [upd_ne _ _ (by omega)]; exact a5, by rw [upd_ne _ _ (by omega)]; exact a6⟩
/- a row more in the scratch -/
theorem PL.push {F G : Nat → Value} {cells : List Ins} {n : Nat} (h : PL cb F G cells x) (hn : cells.length = n) (hl : n < 121) (c : Ins) : PL cb (upd F 0 (.slice (some ⟨cb, 0, none⟩) (n + 1) 121)) (upd (upd (upd G (n * 3) (.int .u8 c.op)) (n * 3 + 1) (.int .u32 c.x)) (n * 3 + 2) (.int .u64 c.y)) (cells ++ [c]) x := by
  subst hn
  have hp := (List.getElem?_eq_some_iff.1 h.z).1
  refine ⟨by rw [upd_same]; simp, by rw [upd_ne _ _ (by decide)]; exact h.hi, fun i h1 h2 h3 => ?_, fun i y hy => ?_, by rw [List.getElem?_append_left hp]; exact h.z, by simp; omega⟩
  · simp at h2
    obtain ⟨a0, a1, a2⟩ := h.zr i h1 (by omega) h3
    refine ⟨?_, ?_, ?_⟩
    · show upd _ _ _ (i * 3 + 0) = _
      rw [upd_ne _ _ (by omega), upd_ne _ _ (by omega), upd_ne _ _ (by omega)]; exact a0
    · show upd _ _ _ (i * 3 + 1) = _
      rw [upd_ne _ _ (by omega), upd_ne _ _ (by omega), upd_ne _ _ (by omega)]; exact a1
    · show upd _ _ _ (i * 3 + 2) = _
      rw [upd_ne _ _ (by omega), upd_ne _ _ (by omega), upd_ne _ _ (by omega)]; exact a2
  · rcases get_snoc2 hy with ⟨h1, h2⟩ | ⟨rfl, rfl⟩
    · obtain ⟨a0, a1, a2⟩ := h.cl i y h2
      refine ⟨?_, ?_, ?_⟩
      · show upd _ _ _ (i * 3 + 0) = _
        rw [upd_ne _ _ (by omega), upd_ne _ _ (by omega), upd_ne _ _ (by omega)]; exact a0
      · show upd _ _ _ (i * 3 + 1) = _
        rw [upd_ne _ _ (by omega), upd_ne _ _ (by omega), upd_ne _ _ (by omega)]; exact a1
      · show upd _ _ _ (i * 3 + 2) = _
        rw [upd_ne _ _ (by omega), upd_ne _ _ (by omega), upd_ne _ _ (by omega)]; exact a2
    · refine ⟨?_, ?_, ?_⟩
      · show upd _ _ _ (cells.length * 3 + 0) = _
        rw [upd_ne _ _ (by omega), upd_ne _ _ (by omega), Nat.add_zero, upd_same]
      · show upd _ _ _ (cells.length * 3 + 1) = _
        rw [upd_ne _ _ (by omega), upd_same]
      · show upd _ _ _ (cells.length * 3 + 2) = _
        rw [upd_same]
theorem PC.upd0 {F : Nat → Value} (h : PC F p) (v : Value) : PC (upd F 0 v) p :=
  ⟨fun j g hg => by
    obtain ⟨a0, a1, a2, a3, a4, a5, a6⟩ := h.ctl j g hg
    exact ⟨by rw [upd_ne _ _ (by omega)]; exact a0, by rw [upd_ne _ _ (by omega)]; exact a1, by rw [upd_ne _ _ (by omega)]; exact a2, by rw [upd_ne _ _ (by omega)]; exact a3, by rw [upd_ne _ _ (by omega)]; exact a4, by rw [upd_ne _ _ (by omega)]; exact a5, by rw [upd_ne _ _ (by omega)]; exact a6⟩, by rw [upd_ne _ _ (by decide)]; exact h.d, by rw [upd_ne _ _ (by decide)]; exact h.h, by rw [upd_ne _ _ (by decide)]; exact h.dead, h.lC⟩
theorem Pd.push {n : Nat} (h : Pd w pb cb x p) (hn : p.cells.length = n) (hl : n < 121) (c : Ins) : Pd ((((w.setCell ⟨cb, n * 3, none⟩ (.int .u8 c.op)).setCell ⟨cb, n * 3 + 1, none⟩ (.int .u32 c.x)).setCell ⟨cb, n * 3 + 2, none⟩ (.int .u64 c.y)).setCell ⟨pb, 0, none⟩ (.slice (some ⟨cb, 0, none⟩) (n + 1) 121)) pb cb x { p with cells := p.cells ++ [c] } := by
  obtain ⟨⟨F, G, b1, b2, hl', hc⟩, ne⟩ := h
  have hc2 := hc.upd0 (.slice (some ⟨cb, 0, none⟩) (n + 1) 121)
  exact ⟨⟨_, _, (((b1.other ne _).other ne _).other ne _).set (by decide) _, (((b2.set (by omega) _).set (by omega) _).set (by omega) _).other (Ne.symm ne) _, hl'.push hn hl c, ⟨hc2.ctl, hc2.d, hc2.h, hc2.dead, hc2.lC⟩⟩, ne⟩
end
/- the blocks that the compiler writes -/
def P2 (pb cb k : Nat) : Prop := k = pb ∨ k = cb
theorem kp2 (pb cb : Nat) (w : World) : Kp (P2 pb cb) w w := Kp.refl _ _
theorem Kp.pp {pb cb i : Nat} {a w : World} (h : Kp (P2 pb cb) a w) (v : Value) : Kp (P2 pb cb) a (w.setCell ⟨pb, i, .none⟩ v) := h.setCell (p := ⟨pb, i, .none⟩) (.inl (.inl rfl)) v
theorem Kp.pc {pb cb i : Nat} {a w : World} (h : Kp (P2 pb cb) a w) (v : Value) : Kp (P2 pb cb) a (w.setCell ⟨cb, i, .none⟩ v) := h.setCell (p := ⟨cb, i, .none⟩) (.inl (.inr rfl)) v
/- what a step of the compiler comes to -/
def PO (pb cb x : Nat) (w : World) (o : Option PS) (en : Ending) (w' : World) : Prop :=
  Kp (P2 pb cb) w w' ∧ match o with
    | some q => en = .returned (.bool true) ∧ Pd w' pb cb x q
    | none => en = .returned (.bool false) ∧ Pw w' pb cb x
/- all that a walk reads -/
structure PdW (w : World) (pb cb nc d hh dd : Nat) (f : PF) : Prop where
  c0 : w.cell? ⟨pb, 0, none⟩ = some (.slice (some ⟨cb, 0, none⟩) nc 121)
  c51 : w.cell? ⟨pb, 51, none⟩ = some (.int .i64 ((d : Int) + 1))
  c52 : w.cell? ⟨pb, 52, none⟩ = some (.int .i64 hh)
  c53 : w.cell? ⟨pb, 53, none⟩ = some (.int .i64 dd)
  e0 : w.cell? ⟨pb, 2 + d * 7, none⟩ = some (.int .u8 f.op)
  e1 : w.cell? ⟨pb, 2 + d * 7 + 1, none⟩ = some (.int .i64 f.floor)
  e2 : w.cell? ⟨pb, 2 + d * 7 + 2, none⟩ = some (.int .i64 f.arity)
  e3 : w.cell? ⟨pb, 2 + d * 7 + 3, none⟩ = some (.int .i64 f.start)
  e4 : w.cell? ⟨pb, 2 + d * 7 + 4, none⟩ = some (.int .i64 (f.chain.headD 0 : Nat))
  e5 : w.cell? ⟨pb, 2 + d * 7 + 5, none⟩ = some (.int .i64 f.cond)
  e6 : w.cell? ⟨pb, 2 + d * 7 + 6, none⟩ = some (.int .i64 f.jump)
  h7 : d < 7
  h7' : (d : Int) < 7
  y0 : ∃ v, w.cell? ⟨cb, nc * 3, none⟩ = some v
  y1 : ∃ v, w.cell? ⟨cb, nc * 3 + 1, none⟩ = some v
  y2 : ∃ v, w.cell? ⟨cb, nc * 3 + 2, none⟩ = some v
  z0 : w.frozen? ⟨cb, nc * 3, none⟩ = false
  z1 : w.frozen? ⟨cb, nc * 3 + 1, none⟩ = false
  z2 : w.frozen? ⟨cb, nc * 3 + 2, none⟩ = false
  f0 : w.frozen? ⟨pb, 0, none⟩ = false
  f51 : w.frozen? ⟨pb, 51, none⟩ = false
  f52 : w.frozen? ⟨pb, 52, none⟩ = false
  f53 : w.frozen? ⟨pb, 53, none⟩ = false
  pl : pb < w.heap.size
  cl : cb < w.heap.size
  ne : ¬ pb = cb
  ne' : ¬ cb = pb
theorem Pd.walk {w : World} {pb cb x nc d hh dd : Nat} {p : PS} {f : PF} {r : List PF} (h : Pd w pb cb x p) (hc : p.ctl = f :: r) (hn : p.cells.length = nc) (hl : nc < 121) (hd : r.length = d) (hh' : p.h = hh) (hdd : p.dead = dd) : PdW w pb cb nc d hh dd f := by
  obtain ⟨⟨e0, e1, e2, e3, e4, e5, e6⟩, h7⟩ := h.top hc
  obtain ⟨c0, c51, c52, c53, ff, g, fs, gs, lC, n, n0, pl, cl, ne⟩ := h.cells
  subst hd hh' hdd hn
  rw [hc] at c51
  exact ⟨c0, by rw [c51]; simp, c52, c53, e0, e1, e2, e3, e4, e5, e6, h7, by omega, gs _ (by omega), gs _ (by omega), gs _ (by omega), g _ (by omega), g _ (by omega), g _ (by omega), ff _ (by decide), ff _ (by decide), ff _ (by decide), ff _ (by decide), pl, cl, ne, Ne.symm ne⟩
set_option maxHeartbeats 4000000 in
theorem numSig_le : ∀ op : Nat, op < 256 → (numSig op).1 ≤ 2 := by decide +kernel
theorem effectP_le {M : Mod} (hM : ModOk M) {i : Ins} (ho : i.op < 256) {t g : Nat} (h : effectP M i = some (t, g)) : t ≤ 5 ∧ g ≤ 1 := by
  unfold effectP at h
  rcases iteC h with ⟨_, h⟩ | ⟨_, h⟩
  · simp at h; omega
  rcases iteC h with ⟨_, h⟩ | ⟨_, h⟩
  · simp at h; omega
  rcases iteC h with ⟨_, h⟩ | ⟨_, h⟩
  · simp at h; omega
  rcases iteC h with ⟨_, h⟩ | ⟨_, h⟩
  · simp at h; omega
  rcases iteC h with ⟨_, h⟩ | ⟨_, h⟩
  · simp at h; omega
  rcases iteC h with ⟨_, h⟩ | ⟨_, h⟩
  · split at h
    · simp at h
    · rename_i ty ht
      have hk : TyOk ty := by
        unfold Mod.typeOf Mod.typeAt at ht
        rcases iteC ht with ⟨_, h1⟩ | ⟨_, h1⟩
        · simp at h1
        · exact hM.types ty (List.mem_of_getElem? h1)
      have := hk.np
      have := hk.nq
      simp at h; omega
  rcases iteC h with ⟨_, h⟩ | ⟨_, h⟩
  · split at h
    · simp at h
    · rename_i ty ht
      have hk := hM.types ty (List.mem_of_getElem? ht)
      have := hk.np
      have := hk.nq
      simp at h; omega
  rcases iteC h with ⟨_, h⟩ | ⟨_, h⟩
  · simp at h; omega
  rcases iteC h with ⟨_, h⟩ | ⟨_, h⟩
  · simp at h; omega
  rcases iteC h with ⟨_, h⟩ | ⟨_, h⟩
  · simp at h
  · simp at h
    have := numSig_le i.op ho
    omega
end Go.Proofs.Qxb6500275aGreatDoor
