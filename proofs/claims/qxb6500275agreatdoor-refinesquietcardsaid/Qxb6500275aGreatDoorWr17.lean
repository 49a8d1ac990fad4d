import Derived.Test.Qxb6500275aGreatDoorSec0
import Derived.Deep.Light
import Derived.Deep.RegionHeld3
import Derived.Shelf.Spec.SlicesInsert
import Derived.Deep.QuietTactic
import Derived.BigQuiet
import Derived.Deep.RegionLaw
set_option maxRecDepth 100000
set_option linter.unusedVariables false
set_option linter.unusedSimpArgs false
set_option linter.unusedSectionVars false
namespace Go.Proofs.Qxb6500275aGreatDoor
open Go Go.RowKit
variable [Inhabited TV]
def Z102 : Array Value := #[.int .u8 0, .int .u32 0, .int .u64 0]
theorem mk102 (w : World) (m : Nat) (hn : m ≤ 96) : (Instr.makeSlice 102 (.int .i64 ((m : Int) + 1)) (.int .i64 ((m : Int) + 1))).run Tryz.prog w = .ok (.slice (some ⟨w.heap.size, 0, none⟩) (m + 1) (m + 1)) (w.alloc (.cells (madeCells Z102 ((m + 1) * 3)) 129)) :=
  make_n2 w 102 129 (m + 1) 3 16 Z102 (by kernel_rfl) (by kernel_rfl) (by kernel_rfl) (by omega) (by omega)
def Z103b : Array Value := #[.int .u32 0]
theorem mk103b (w : World) (n : Nat) (hn : n ≤ 24) : (Instr.makeSlice 103 (.int .i64 (n : Int)) (.int .i64 (n : Int))).run Tryz.prog w = .ok (.slice (some ⟨w.heap.size, 0, none⟩) n n) (w.alloc (.cells (madeCells Z103b n) 127)) := by
  have h := make_n2 w 103 127 n 1 4 Z103b (P := Tryz.prog) (by kernel_rfl) (by kernel_rfl) (by kernel_rfl) (by omega) (by omega)
  rw [Nat.mul_one] at h
  exact h
theorem Kp.drewN {S : Nat → Prop} {a w : World} (h : Kp S a w) (n : Nat) : Kp S a (w.drewN n) := ⟨h.os, h.tape, h.output, h.size, h.block⟩
section
variable {w w1 w2 : World} {b : Nat} {s : ByteArray} {p q q2 e bb ib tb fb nf fo : Nat} {ty : List Int} {opn : List Nat} {ins : List Ins} {tabs : List Int} {F : Nat → Value}
/- the scratch's counts and lists, cell by cell -/
structure BnC (w : World) (bb ib tb : Nat) (opn : List Nat) (ins : List Ins) (tabs : List Int) : Prop where
  c15 : w.cell? ⟨bb, 15, none⟩ = some (.int .i64 opn.length)
  c16 : w.cell? ⟨bb, 16, none⟩ = some (.slice (some ⟨ib, 0, none⟩) 96 96)
  c17 : w.cell? ⟨bb, 17, none⟩ = some (.int .i64 ins.length)
  c18 : w.cell? ⟨bb, 18, none⟩ = some (.slice (some ⟨tb, 0, none⟩) 24 24)
  c19 : w.cell? ⟨bb, 19, none⟩ = some (.int .i64 tabs.length)
  f15 : w.frozen? ⟨bb, 15, none⟩ = false
  f17 : w.frozen? ⟨bb, 17, none⟩ = false
  f19 : w.frozen? ⟨bb, 19, none⟩ = false
  lO : opn.length ≤ 6
  lI : ins.length ≤ 96
  lL : tabs.length ≤ 24
theorem Bn.all (h : Bn w bb ib tb ty opn ins tabs) : BnC w bb ib tb opn ins tabs := by
  obtain ⟨⟨F, G, H, b1, b2, b3, cT, nT, cO, nO, sI, nI, sT, nL, cI, cL, lT, lO, lI, lL⟩, d1, d2, d3, d4⟩ := h
  exact ⟨by rw [b1.cell (by decide), nO], by rw [b1.cell (by decide), sI], by rw [b1.cell (by decide), nI], by rw [b1.cell (by decide), sT], by rw [b1.cell (by decide), nL], b1.fz (by decide), b1.fz (by decide), b1.fz (by decide), lO, lI, lL⟩
theorem Bn.insCell (h : Bn w bb ib tb ty opn ins tabs) {i : Nat} (hi : i < 288) : (∃ v, w.cell? ⟨ib, i, none⟩ = some v) ∧ w.frozen? ⟨ib, i, none⟩ = false := by
  obtain ⟨⟨F, G, H, b1, b2, b3, _⟩, _⟩ := h
  exact ⟨⟨_, b2.cell hi⟩, b2.fz hi⟩
theorem Bn.opnCell (h : Bn w bb ib tb ty opn ins tabs) {i : Nat} (hi : i < 6) : (∃ v, w.cell? ⟨bb, 9 + i, none⟩ = some v) ∧ w.frozen? ⟨bb, 9 + i, none⟩ = false := by
  obtain ⟨⟨F, G, H, b1, b2, b3, _⟩, _⟩ := h
  exact ⟨⟨_, b1.cell (by omega)⟩, b1.fz (by omega)⟩
theorem Bn.opnAt {l : List Nat} {u : Nat} (h : Bn w bb ib tb ty (l ++ [u]) ins tabs) : w.cell? ⟨bb, 9 + l.length, none⟩ = some (.int .u8 u) ∧ w.frozen? ⟨bb, 9 + l.length, none⟩ = false := by
  obtain ⟨⟨F, G, H, b1, b2, b3, cT, nT, cO, nO, sI, nI, sT, nL, cI, cL, lT, lO, lI, lL⟩, d1, d2, d3, d4⟩ := h
  simp at lO
  exact ⟨by rw [b1.cell (by omega), cO l.length u (by simp)], b1.fz (by omega)⟩
/- what 'body' comes to: the row's cells fo + 2, fo + 3 in block fb hold the lists -/
def BP (o : Except (Int × Nat) (List Ins × List Int × Nat)) (b : Nat) (s : ByteArray) (e bb ib tb : Nat) (ty : List Int) (fb nf fo : Nat) (F : Nat → Value) (w : World) (en : Ending) (w' : World) : Prop :=
  Kp (fun j => S4 b bb ib tb j ∨ j = fb) w w' ∧ match o with
    | .ok (ins, tabs, q) => en = .returned (.tuple #[]) ∧ Rd w' b s q e bb ∧ Bt w' bb ib tb ty ∧ ∃ vb vt, Blk w' fb nf (upd (upd F (fo + 2) vb) (fo + 3) vt) ∧ InsAt w' w.heap.size vb ins ∧ TabAt w' w.heap.size vt tabs
    | .error (c, a) => en = fault c a ∧ Bt w' bb ib tb ty
theorem BP.mkErr {o : Except (Int × Nat) (List Ins × List Int × Nat)} {en : Ending} {w' : World} {c : Int} {a : Nat} (ho : o = .error (c, a)) (h1 : Kp (S4 b bb ib tb) w w') (h2 : en = fault c a) (h3 : Bt w' bb ib tb ty) : BP o b s e bb ib tb ty fb nf fo F w en w' := by
  subst ho; exact ⟨h1.mono fun j hj => .inl hj, h2, h3⟩
/- amid a body -/
structure BI (w w1 : World) (b : Nat) (s : ByteArray) (q e bb ib tb : Nat) (ty : List Int) (opn : List Nat) (ins : List Ins) (tabs : List Int) (fb nf : Nat) (F : Nat → Value) : Prop where
  rd : Rd w1 b s q e bb
  bn : Bn w1 bb ib tb ty opn ins tabs
  kp : Kp (S4 b bb ib tb) w w1
  fk : Blk w1 fb nf F
  ne : b ≠ bb ∧ b ≠ ib ∧ b ≠ tb
  fe : fb ≠ b ∧ fb ≠ bb ∧ fb ≠ ib ∧ fb ≠ tb
theorem BI.read (h : BI w w1 b s q e bb ib tb ty opn ins tabs fb nf F) (hk : Kp (· = b) w1 w2) (hr : Rd w2 b s q2 e bb) : BI w w2 b s q2 e bb ib tb ty opn ins tabs fb nf F :=
  ⟨hr, h.bn.keep hk (fun e => h.ne.1 e.symm) (fun e => h.ne.2.1 e.symm) (fun e => h.ne.2.2 e.symm), h.kp.trans (hk.mono fun j hj => .inl hj), h.fk.keep hk h.fe.1, h.ne, h.fe⟩
theorem BI.rest {t : List Int} (h : BI w w1 b s q e bb ib tb ty opn ins tabs fb nf F) (hk : Kp (fun j => j = b ∨ j = bb ∨ j = tb) w1 w2) (hr : Rd w2 b s q2 e bb) (hb : Bn w2 bb ib tb ty opn ins t) : BI w w2 b s q2 e bb ib tb ty opn ins t fb nf F :=
  ⟨hr, hb, h.kp.trans (hk.mono fun j hj => by unfold S4; omega), h.fk.keep hk (by have := h.fe; omega), h.ne, h.fe⟩
/- a step of the scratch alone -/
theorem BI.scr {opn' : List Nat} {ins' : List Ins} {t : List Int} (h : BI w w1 b s q e bb ib tb ty opn ins tabs fb nf F) (hk : Kp (fun j => j = bb ∨ j = ib ∨ j = tb) w1 w2) (hb : Bn w2 bb ib tb ty opn' ins' t) : BI w w2 b s q e bb ib tb ty opn' ins' t fb nf F :=
  ⟨h.rd.keep hk (by have := h.ne; omega), hb, h.kp.trans (hk.mono fun j hj => by unfold S4; omega), h.fk.keep hk (by have := h.fe; omega), h.ne, h.fe⟩
theorem BI.new (h : BI w w1 b s q e bb ib tb ty opn ins tabs fb nf F) (hk : Kp (fun _ => False) w1 w2) : BI w w2 b s q e bb ib tb ty opn ins tabs fb nf F :=
  ⟨h.rd.keep hk (fun h => h), h.bn.keep hk (fun h => h) (fun h => h) (fun h => h), h.kp.trans (hk.mono fun j hj => hj.elim), h.fk.keep hk (fun h => h), h.ne, h.fe⟩
theorem BI.bt (h : BI w w1 b s q e bb ib tb ty opn ins tabs fb nf F) : Bt w1 bb ib tb ty := ⟨_, _, _, h.bn⟩
def posOf (w : World) (b : Nat) : Nat := match w.cell? ⟨b, 1, none⟩ with
  | some (.int _ p) => p.toNat
  | _ => 0
theorem posOf_rd (h : Rd w b s p e bb) : posOf w b = p := by unfold posOf; rw [h.c1]; simp
theorem bodyL_same (s : ByteArray) (e : Nat) : ∀ (n m q : Nat) (opn : List Nat) (ins : List Ins) (tabs : List Int), e - q < n → e - q < m → bodyL s e n q opn ins tabs = bodyL s e m q opn ins tabs
  | 0, m, q, opn, ins, tabs, h, _ => by omega
  | n + 1, 0, q, opn, ins, tabs, _, h => by omega
  | n + 1, m + 1, q, opn, ins, tabs, h1, h2 => by
    rw [bodyL, bodyL]
    cases hn : nextS s q e with
    | error f => rfl
    | ok a =>
      obtain ⟨a, q1⟩ := a
      have hq : q < e ∧ q1 = q + 1 := by
        unfold nextS at hn
        split at hn
        · simp at hn; exact ⟨by assumption, hn.2.symm⟩
        · simp at hn
      show bindR (restS s q1 e a q tabs) _ = bindR (restS s q1 e a q tabs) _
      cases hr : restS s q1 e a q tabs with
      | error f => rfl
      | ok x =>
        obtain ⟨x, q3, t⟩ := x
        have hq3 := (restS_ok hr).1
        have ih := fun opn ins tabs => bodyL_same s e n m q3 opn ins tabs (by omega) (by omega)
        dsimp only [bindR]
        simp only [ih]
theorem bodyL_fuel {s : ByteArray} {e q q3 : Nat} (hq : q < e) (h3 : q + 1 ≤ q3) (opn : List Nat) (ins : List Ins) (tabs : List Int) : bodyL s e (e - q) q3 opn ins tabs = bodyL s e (e - q3 + 1) q3 opn ins tabs := bodyL_same s e _ _ _ _ _ _ (by omega) (by omega)
theorem Bn.pushIns2 (h : Bn w bb ib tb ty opn ins tabs) (x : Ins) (hl : ins.length < 96) (h0 : w.cell? ⟨ib, ins.length * 3, none⟩ = some (.int .u8 x.op)) (h1 : w.cell? ⟨ib, ins.length * 3 + 1, none⟩ = some (.int .u32 x.x)) (h2 : w.cell? ⟨ib, ins.length * 3 + 2, none⟩ = some (.int .u64 x.y)) :
    Bn (w.setCell ⟨bb, 17, none⟩ (.int .i64 ((ins.length : Int) + 1))) bb ib tb ty opn (ins ++ [x]) tabs := by
  obtain ⟨⟨F, G, H, b1, b2, b3, cT, nT, cO, nO, sI, nI, sT, nL, cI, cL, lT, lO, lI, lL⟩, d1, d2, d3, d4⟩ := h
  have f1 : ib ≠ bb := fun h => d1 h.symm
  have f2 : tb ≠ bb := fun h => d2 h.symm
  refine ⟨⟨_, G, H, b1.set (i := 17) (by decide) (.int .i64 ((ins.length : Int) + 1)), b2.other f1 _, b3.other f2 _, ?_⟩, d1, d2, d3, d4.set (i := 17) (by decide) (.int .i64 ((ins.length : Int) + 1))⟩
  refine ⟨?_, ?_, ?_, ?_, ?_, ?_, ?_, ?_, ?_, cL, lT, lO, by simp; omega, lL⟩
  · intro i t hi
    have := (List.getElem?_eq_some_iff.1 hi).1
    rw [upd_ne _ _ (by omega)]; exact cT i t hi
  · rw [upd_ne _ _ (by decide)]; exact nT
  · intro i t hi
    have := (List.getElem?_eq_some_iff.1 hi).1
    rw [upd_ne _ _ (by omega)]; exact cO i t hi
  · rw [upd_ne _ _ (by decide)]; exact nO
  · rw [upd_ne _ _ (by decide)]; exact sI
  · rw [upd_same]; simp
  · rw [upd_ne _ _ (by decide)]; exact sT
  · rw [upd_ne _ _ (by decide)]; exact nL
  · intro i y hi
    rcases get_snoc hi with ⟨h3, h4⟩ | ⟨rfl, rfl⟩
    · exact cI i y h4
    · rw [b2.cell (by omega)] at h0 h1 h2
      exact ⟨Option.some.inj h0, Option.some.inj h1, Option.some.inj h2⟩
/- the instruction lies behind the last -/
theorem BI.lay {m : Nat} (h : BI w w1 b s q e bb ib tb ty opn ins tabs fb nf F) (hm : ins.length = m) (hl : m < 96) (x : Ins) (A : Array Value) (t : Nat) :
    BI w ((((w1.setCell ⟨ib, m * 3, none⟩ (.int .u8 x.op)).setCell ⟨ib, m * 3 + 1, none⟩ (.int .u32 x.x)).setCell ⟨ib, m * 3 + 2, none⟩ (.int .u64 x.y)).alloc (.cells A t)).drew b s q e bb ib tb ty opn ins tabs fb nf F ∧
    ((((((w1.setCell ⟨ib, m * 3, none⟩ (.int .u8 x.op)).setCell ⟨ib, m * 3 + 1, none⟩ (.int .u32 x.x)).setCell ⟨ib, m * 3 + 2, none⟩ (.int .u64 x.y)).alloc (.cells A t)).drew).cell? ⟨ib, m * 3, none⟩ = some (.int .u8 x.op) ∧
      (((((w1.setCell ⟨ib, m * 3, none⟩ (.int .u8 x.op)).setCell ⟨ib, m * 3 + 1, none⟩ (.int .u32 x.x)).setCell ⟨ib, m * 3 + 2, none⟩ (.int .u64 x.y)).alloc (.cells A t)).drew).cell? ⟨ib, m * 3 + 1, none⟩ = some (.int .u32 x.x) ∧
      (((((w1.setCell ⟨ib, m * 3, none⟩ (.int .u8 x.op)).setCell ⟨ib, m * 3 + 1, none⟩ (.int .u32 x.x)).setCell ⟨ib, m * 3 + 2, none⟩ (.int .u64 x.y)).alloc (.cells A t)).drew).cell? ⟨ib, m * 3 + 2, none⟩ = some (.int .u64 x.y)) := by
  subst hm
  obtain ⟨rd, ⟨⟨F0, G, H, b1, b2, b3, cT, nT, cO, nO, sI, nI, sT, nL, cI, cL, lT, lO, lI, lL⟩, d1, d2, d3, d4⟩, kp, fk, ne, fe⟩ := h
  have f3 : tb ≠ ib := fun h => d3 h.symm
  have hk : Kp (fun j => j = ib) w1 (((w1.setCell ⟨ib, ins.length * 3, none⟩ (.int .u8 x.op)).setCell ⟨ib, ins.length * 3 + 1, none⟩ (.int .u32 x.x)).setCell ⟨ib, ins.length * 3 + 2, none⟩ (.int .u64 x.y)) := (((Kp.refl (fun j => j = ib) w1).setCell (p := ⟨ib, ins.length * 3, none⟩) (.inl rfl) _).setCell (p := ⟨ib, ins.length * 3 + 1, none⟩) (.inl rfl) _).setCell (p := ⟨ib, ins.length * 3 + 2, none⟩) (.inl rfl) _
  have c2 := ((b2.set (i := ins.length * 3) (by omega) (.int .u8 x.op)).set (i := ins.length * 3 + 1) (by omega) (.int .u32 x.x)).set (i := ins.length * 3 + 2) (by omega) (.int .u64 x.y)
  generalize ((w1.setCell ⟨ib, ins.length * 3, none⟩ (.int .u8 x.op)).setCell ⟨ib, ins.length * 3 + 1, none⟩ (.int .u32 x.x)).setCell ⟨ib, ins.length * 3 + 2, none⟩ (.int .u64 x.y) = w2 at *
  have hk2 : Kp (fun _ => False) w2 (w2.alloc (.cells A t)).drew := ((Kp.refl _ w2).alloc _).drew
  have hk3 := (hk.mono (T := fun j => j = bb ∨ j = ib ∨ j = tb) fun j hj => .inr (.inl hj)).trans (hk2.mono fun j hj => hj.elim)
  have c3 := c2.keep hk2 (fun h => h)
  have hBn : Bn (w2.alloc (.cells A t)).drew bb ib tb ty opn ins tabs := by
    refine ⟨⟨F0, _, H, (b1.keep hk d1).keep hk2 (fun h => h), c3, (b3.keep hk f3).keep hk2 (fun h => h), ?_⟩, d1, d2, d3, (d4.keep hk d1).keep hk2 (fun h => h)⟩
    refine ⟨cT, nT, cO, nO, sI, nI, sT, nL, ?_, cL, lT, lO, lI, lL⟩
    intro i y hi
    have := (List.getElem?_eq_some_iff.1 hi).1
    rw [upd_ne _ _ (by omega), upd_ne _ _ (by omega), upd_ne _ _ (by omega), upd_ne _ _ (by omega), upd_ne _ _ (by omega), upd_ne _ _ (by omega), upd_ne _ _ (by omega), upd_ne _ _ (by omega), upd_ne _ _ (by omega)]
    exact cI i y hi
  have h0 : BI w w1 b s q e bb ib tb ty opn ins tabs fb nf F := ⟨rd, ⟨⟨F0, G, H, b1, b2, b3, cT, nT, cO, nO, sI, nI, sT, nL, cI, cL, lT, lO, lI, lL⟩, d1, d2, d3, d4⟩, kp, fk, ne, fe⟩
  refine ⟨h0.scr hk3 hBn, ?_, ?_, ?_⟩
  · rw [c3.cell (by omega), upd_ne _ _ (by omega), upd_ne _ _ (by omega), upd_same]
  · rw [c3.cell (by omega), upd_ne _ _ (by omega), upd_same]
  · rw [c3.cell (by omega), upd_same]
/- on to the next round -/
theorem bi_next {X : Except (Int × Nat) (List Ins × List Int × Nat)} {wr w5 : World} {q q3 : Nat} (hI : BI w w5 b s q3 e bb ib tb ty opn ins tabs fb nf F) (hS : X = bodyL s e (e - q) q3 opn ins tabs) (hq : q < e) (h3 : q + 1 ≤ q3) (hpos : posOf wr b = q) :
    (∃ (q : Nat) (opn : List Nat) (ins : List Ins) (tabs : List Int), BI w w5 b s q e bb ib tb ty opn ins tabs fb nf F ∧ Hid (X = bodyL s e (e - q + 1) q opn ins tabs)) ∧ e - posOf w5 b < e - posOf wr b := by
  refine ⟨⟨q3, opn, ins, tabs, hI, hS.trans (bodyL_fuel hq h3 _ _ _)⟩, ?_⟩
  rw [hpos, posOf_rd hI.rd]
  have := hI.rd.le
  omega
/- at a body's end -/
structure BE (w W : World) (b : Nat) (s : ByteArray) (q e bb ib tb : Nat) (ty : List Int) (opn : List Nat) (ins : List Ins) (tabs : List Int) (fb nf : Nat) (F : Nat → Value) : Prop where
  rd : Rd W b s q e bb
  bn : Bn W bb ib tb ty opn ins tabs
  kp : Kp (fun j => S4 b bb ib tb j ∨ j = fb) w W
  fk : Blk W fb nf F
  ne : b ≠ bb ∧ b ≠ ib ∧ b ≠ tb
  fe : fb ≠ b ∧ fb ≠ bb ∧ fb ≠ ib ∧ fb ≠ tb
theorem BI.toE (h : BI w w1 b s q e bb ib tb ty opn ins tabs fb nf F) : BE w w1 b s q e bb ib tb ty opn ins tabs fb nf F := ⟨h.rd, h.bn, h.kp.mono fun j hj => .inl hj, h.fk, h.ne, h.fe⟩
theorem BE.new (h : BE w w1 b s q e bb ib tb ty opn ins tabs fb nf F) (hk : Kp (fun _ => False) w1 w2) : BE w w2 b s q e bb ib tb ty opn ins tabs fb nf F :=
  ⟨h.rd.keep hk (fun h => h), h.bn.keep hk (fun h => h) (fun h => h) (fun h => h), h.kp.trans (hk.mono fun j hj => hj.elim), h.fk.keep hk (fun h => h), h.ne, h.fe⟩
theorem BE.setF (h : BE w w1 b s q e bb ib tb ty opn ins tabs fb nf F) {i : Nat} (hi : i < nf) (v : Value) : BE w (w1.setCell ⟨fb, i, none⟩ v) b s q e bb ib tb ty opn ins tabs fb nf (upd F i v) := by
  have hk : Kp (fun j => j = fb) w1 (w1.setCell ⟨fb, i, none⟩ v) := (Kp.refl (fun j => j = fb) w1).setCell (p := ⟨fb, i, none⟩) (.inl rfl) v
  have fe := h.fe
  exact ⟨h.rd.keep hk (by omega), h.bn.keep hk (by omega) (by omega) (by omega), h.kp.trans (hk.mono fun j hj => .inr hj), h.fk.set hi v, h.ne, h.fe⟩
theorem BE.lts (h : BE w w1 b s q e bb ib tb ty opn ins tabs fb nf F) (hn : 0 < nf) : b < w1.heap.size ∧ bb < w1.heap.size ∧ ib < w1.heap.size ∧ tb < w1.heap.size ∧ fb < w1.heap.size :=
  ⟨lt_of_cell h.rd.c0, h.bn.lts.1, h.bn.lts.2.1, h.bn.lts.2.2, h.fk.lt hn⟩
theorem BE.cells {K : Nat} (h : BE w w1 b s q e bb ib tb ty opn ins tabs fb nf F) (hw : w.heap.size ≤ K) (hK : b < K ∧ bb < K ∧ ib < K ∧ tb < K ∧ fb < K) (vs : List Value) : BE w (w1.setCells K 0 vs) b s q e bb ib tb ty opn ins tabs fb nf F := by
  have hk : Kp (fun j => j = K) w1 (w1.setCells K 0 vs) := Kp.setCells (S := fun j => j = K) (.inl rfl) _ _ _ (Kp.refl (fun j => j = K) _)
  exact ⟨h.rd.keep hk (by omega), h.bn.keep hk (by omega) (by omega) (by omega), Kp.setCells (.inr hw) _ _ _ h.kp, h.fk.keep hk (by omega), h.ne, h.fe⟩
theorem Bn.copyIns {K n : Nat} {D : Nat → Value} (h : Bn w1 bb ib tb ty opn ins tabs) (hn : ins.length = n) (hn0 : 0 < n) (hD : Blk w1 K (n * 3) D) :
    ∃ vs, (∀ u, (Builtin.copy_ #[102, 102] 3 #[.slice (some ⟨K, 0, none⟩) n n, .slice (some ⟨ib, 0, none⟩) n 96]).run Tryz.prog (w1.drewN u) = .ok (goInt n) ((w1.drewN u).setCells K 0 vs)) ∧ ∀ u k0, k0 ≤ K → InsAt ((w1.drewN u).setCells K 0 vs) k0 (.slice (some ⟨K, 0, none⟩) n n) ins := by
  subst hn
  obtain ⟨⟨F, G, H, b1, b2, b3, cT, nT, cO, nO, sI, nI, sT, nL, cI, cL, lT, lO, lI, lL⟩, d1, d2, d3, d4⟩ := h
  refine ⟨firstN G (ins.length * 3), fun u => ?_, fun u k0 hk => ?_⟩
  · have hD' : Blk (w1.drewN u) K (ins.length * 3) D := hD
    have hG' : Blk (w1.drewN u) ib 288 G := b2
    refine run_copy_blk (P := Tryz.prog) (w1.drewN u) 102 102 3 129 K ib ins.length 96 3 ins.length (by kernel_rfl) (by kernel_rfl) hD' hG' (Nat.le_refl _) (by omega) (fun i hi => ?_)
    have hj : i / 3 < ins.length := by omega
    obtain ⟨e0, e1, e2⟩ := cI (i / 3) ins[i / 3] (List.getElem?_eq_getElem hj)
    have h3 : i = i / 3 * 3 ∨ i = i / 3 * 3 + 1 ∨ i = i / 3 * 3 + 2 := by omega
    rcases h3 with h3 | h3 | h3
    · rw [h3, e0]; rfl
    · rw [h3, e1]; rfl
    · rw [h3, e2]; rfl
  · refine ⟨_, ⟨_, rfl, fun h => by omega, fun _ => ⟨K, hk, rfl, blk_setCells (w := w1.drewN u) (D := D) (fun i hi => hD i hi) (ins.length * 3) (Nat.le_refl _)⟩⟩, fun i x hx => ?_⟩
    have hi := (List.getElem?_eq_some_iff.1 hx).1
    obtain ⟨e0, e1, e2⟩ := cI i x hx
    refine ⟨?_, ?_, ?_⟩
    · dsimp only; rw [if_pos (by omega), Nat.add_zero]; exact e0
    · dsimp only; rw [if_pos (by omega)]; exact e1
    · dsimp only; rw [if_pos (by omega)]; exact e2
theorem Bn.copyTabs {K n : Nat} {D : Nat → Value} (h : Bn w1 bb ib tb ty opn ins tabs) (hn : tabs.length = n) (hn0 : 0 < n) (hD0 : Blk w1 K n D) :
    ∃ vs, (∀ u, (Builtin.copy_ #[103, 103] 3 #[.slice (some ⟨K, 0, none⟩) n n, .slice (some ⟨tb, 0, none⟩) n 24]).run Tryz.prog (w1.drewN u) = .ok (goInt n) ((w1.drewN u).setCells K 0 vs)) ∧ ∀ u k0, k0 ≤ K → TabAt ((w1.drewN u).setCells K 0 vs) k0 (.slice (some ⟨K, 0, none⟩) n n) tabs := by
  subst hn
  have hD : Blk w1 K (tabs.length * 1) D := by rw [Nat.mul_one]; exact hD0
  obtain ⟨⟨F, G, H, b1, b2, b3, cT, nT, cO, nO, sI, nI, sT, nL, cI, cL, lT, lO, lI, lL⟩, d1, d2, d3, d4⟩ := h
  refine ⟨firstN H (tabs.length * 1), fun u => ?_, fun u k0 hk => ?_⟩
  · have hD' : Blk (w1.drewN u) K (tabs.length * 1) D := hD
    have hG' : Blk (w1.drewN u) tb 24 H := b3
    refine run_copy_blk (P := Tryz.prog) (w1.drewN u) 103 103 3 127 K tb tabs.length 24 1 tabs.length (by kernel_rfl) (by kernel_rfl) hD' hG' (Nat.le_refl _) (by omega) (fun i hi => ?_)
    rw [cL i tabs[i] (List.getElem?_eq_getElem (by omega))]; rfl
  · refine ⟨_, ⟨_, rfl, fun h => by omega, fun _ => ⟨K, hk, rfl, blk_setCells (w := w1.drewN u) (D := D) (fun i hi => hD i hi) (tabs.length * 1) (Nat.le_refl _)⟩⟩, fun i x hx => ?_⟩
    have hi := (List.getElem?_eq_some_iff.1 hx).1
    show (if i * 1 + 0 < tabs.length * 1 then H (i * 1 + 0) else D (i * 1 + 0)) = _
    rw [if_pos (by omega), Nat.add_zero, Nat.mul_one]
    exact cL i x hx
theorem BP.mkOk {o : Except (Int × Nat) (List Ins × List Int × Nat)} {en : Ending} {F' : Nat → Value} {vb vt : Value} (ho : o = .ok (ins, tabs, q)) (hE : BE w w1 b s q e bb ib tb ty opn ins tabs fb nf F') (h2 : en = .returned (.tuple #[])) (hF : ∀ i, i < nf → F' i = upd (upd F (fo + 2) vb) (fo + 3) vt i) (hI : InsAt w1 w.heap.size vb ins) (hT : TabAt w1 w.heap.size vt tabs) : BP o b s e bb ib tb ty fb nf fo F w en w1 := by
  subst ho
  refine ⟨hE.kp, h2, hE.rd, ⟨_, _, _, hE.bn⟩, vb, vt, fun i hi => ?_, hI, hT⟩
  rw [← hF i hi]
  exact hE.fk i hi
theorem BE.endF {vb : Value} (hF : F (fo + 3) = .slice none 0 0) (i : Nat) : upd F (fo + 2) vb i = upd (upd F (fo + 2) vb) (fo + 3) (.slice none 0 0) i := by
  by_cases e : i = fo + 3
  · subst e; rw [upd_same, upd_ne _ _ (by omega)]; exact hF
  · rw [upd_ne _ _ e]
end
end Go.Proofs.Qxb6500275aGreatDoor
