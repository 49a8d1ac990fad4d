import Derived.Test.Qxb6500275aGreatDoorSp3
set_option linter.unusedVariables false
namespace Go.Proofs.Qxb6500275aGreatDoor
open Go Go.RowKit
/- THE COMPILER, as plain functions. cells: the scratch, cell 0 the sentinel; blocks: the innermost first; chain: the cells that wait for the block's end, the last laid first -/
structure PF where
  op : Nat
  floor : Nat
  arity : Nat
  start : Nat
  chain : List Nat
  cond : Nat
  jump : Nat
structure PS where
  cells : List Ins
  ctl : List PF
  h : Nat
  dead : Nat
def PF.zero : PF := ⟨0, 0, 0, 0, [], 0, 0⟩
def PS.top (p : PS) : PF := p.ctl.headD PF.zero
def setX (c : List Ins) (i here : Nat) : List Ins := c.modify i (fun x => { x with x := here })
def patchP (c : List Ins) (here : Nat) : List Nat → List Ins
  | [] => c
  | i :: r => patchP (setX c i here) here r
def packP (keep height : Nat) : Int := keep * 4294967296 + height
def openP (p : PS) (x : Ins) : Option PS :=
  if p.ctl.length = 7 then none else
  if x.op = 4 then (if p.h < p.top.floor + 1 then none else some ⟨p.cells ++ [⟨4, 0, 0⟩], ⟨4, p.h - 1, if x.x = 64 then 0 else 1, p.cells.length + 1, [], p.cells.length, 0⟩ :: p.ctl, p.h - 1, p.dead⟩)
  else some ⟨p.cells, ⟨x.op, p.h, if x.x = 64 then 0 else 1, p.cells.length, [], 0, 0⟩ :: p.ctl, p.h, p.dead⟩
def turnP (p : PS) : Option PS :=
  if p.dead = 0 ∧ p.h ≠ p.top.floor + p.top.arity then none else if p.top.cond = 0 then none else
  if p.dead = 0 then some ⟨setX (p.cells ++ [⟨224, 0, 0⟩]) p.top.cond p.cells.length, { p.top with cond := 0, jump := p.cells.length } :: p.ctl.tail, p.top.floor, 0⟩
  else some ⟨setX p.cells p.top.cond (p.cells.length - 1), { p.top with cond := 0 } :: p.ctl.tail, p.top.floor, 0⟩
/- cell 0 is no cell: nothing is set -/
def setX0 (c : List Ins) (i here : Nat) : List Ins := if i = 0 then c else setX c i here
def shutP (p : PS) : Option PS :=
  if p.dead = 0 ∧ p.h ≠ p.top.floor + p.top.arity then none else if 10 < p.top.floor + p.top.arity then none else
  let c := setX0 (setX0 (patchP p.cells (p.cells.length - 1) p.top.chain) p.top.cond (p.cells.length - 1)) p.top.jump (p.cells.length - 1)
  some ⟨if p.ctl.tail.length = 0 then c ++ [⟨11, 0, 0⟩] else c, p.ctl.tail, p.top.floor + p.top.arity, 0⟩
/- a cell of kind op that goes to label l -/
def branchP (p : PS) (op l : Nat) : PS :=
  let fr := p.ctl.getD l PF.zero
  if fr.op = 3 then ⟨p.cells ++ [⟨op, fr.start - 1, packP 0 fr.floor⟩], p.ctl, p.h, p.dead⟩
  else ⟨p.cells ++ [⟨op, fr.chain.headD 0, packP fr.arity fr.floor⟩], p.ctl.modify l (fun f => { f with chain := p.cells.length :: f.chain }), p.h, p.dead⟩
def brP (p : PS) (x : Ins) : Option PS :=
  if x.op = 13 then (if (p.ctl.length : Int) ≤ x.x ∨ p.h < p.top.floor + 1 then none else some (branchP { p with h := p.h - 1 } 13 x.x.toNat))
  else if (p.ctl.length : Int) ≤ x.x ∨ p.h < p.top.floor then none else some { branchP p 12 x.x.toNat with dead := 1 }
def rowsP (p : PS) : List Int → Option PS
  | [] => some p
  | l :: ls => if (p.ctl.length : Int) ≤ l then none else rowsP (branchP p 225 l.toNat) ls
def tableP (p : PS) (x : Ins) (tabs : List Int) : Option PS :=
  if p.h < p.top.floor + 1 ∨ x.y < 1 ∨ (tabs.length : Int) < x.y ∨ (tabs.length : Int) - x.y < x.x then none else
  match rowsP ⟨p.cells ++ [⟨14, x.y, 0⟩], p.ctl, p.h - 1, p.dead⟩ ((tabs.drop x.x.toNat).take x.y.toNat) with
  | none => none
  | some q => some { q with dead := 1 }
/- what an instruction takes and gives -/
def effectP (m : Mod) (x : Ins) : Option (Nat × Nat) :=
  if x.op = 0 ∨ x.op = 1 then some (0, 0) else if x.op = 26 ∨ x.op = 33 ∨ x.op = 36 then some (1, 0) else if x.op = 34 ∨ x.op = 64 then some (1, 1)
  else if x.op = 32 ∨ x.op = 35 ∨ x.op = 63 ∨ x.op = 65 ∨ x.op = 66 ∨ x.op = 67 ∨ x.op = 68 then some (0, 1) else if x.op = 27 then some (3, 1)
  else if x.op = 16 then (match m.typeOf x.x with | none => none | some t => some (t.p.size, t.q.size))
  else if x.op = 17 then (match m.types[x.x.toNat]? with | none => none | some t => some (t.p.size + 1, t.q.size))
  else if 40 ≤ x.op ∧ x.op ≤ 53 then some (1, 1) else if 54 ≤ x.op ∧ x.op ≤ 62 then some (2, 0)
  else if (numSig x.op).1 = 0 then none else some ((numSig x.op).1, 1)
def plainP (m : Mod) (p : PS) (x : Ins) : Option PS :=
  match effectP m x with
  | none => none
  | some (take, give) => if p.h < p.top.floor + take ∨ 10 < p.h - take + give then none else some ⟨p.cells ++ [x], p.ctl, p.h - take + give, if x.op = 0 then 1 else p.dead⟩
/- dead code: none: the instruction counts; some: it is passed over -/
def skipP (p : PS) (op : Nat) : Option PS :=
  if p.dead = 0 then none else if op = 2 ∨ op = 3 ∨ op = 4 then some { p with dead := p.dead + 1 }
  else if op = 5 then (if 1 < p.dead then some p else none)
  else if op = 11 then (if p.dead = 1 then none else some { p with dead := p.dead - 1 })
  else some p
def stepP (m : Mod) (f : Fn) (last : Bool) (p : PS) (x : Ins) : Option PS :=
  match skipP p x.op with
  | some q => some q
  | none =>
    if x.op = 2 ∨ x.op = 3 ∨ x.op = 4 then openP p x else if x.op = 5 then turnP p
    else if x.op = 11 then (match shutP p with | none => none | some q => if q.ctl.length = 0 ∧ last = false then none else some q)
    else if x.op = 12 ∨ x.op = 13 then brP p x else if x.op = 14 then tableP p x f.tabs
    else if x.op = 15 then some ⟨p.cells ++ [⟨15, 0, 0⟩], p.ctl, p.h, 1⟩
    else plainP m p x
def flatL (m : Mod) (f : Fn) : List Ins → Nat → PS → Except Nat PS
  | [], i, p => if p.ctl.length = 0 then .ok p else .error i
  | x :: xs, i, p => match stepP m f (decide (xs.length = 0)) p x with
    | none => .error i
    | some q => flatL m f xs (i + 1) q
def flatP (m : Mod) (f : Fn) (results : Nat) : Except Nat PS := flatL m f f.body 0 ⟨[⟨0, 0, 0⟩], [⟨11, 0, results, 0, [], 0, 0⟩], 0, 0⟩
structure FF where
  params : Nat
  locals : Nat
  results : Nat
  cells : List Ins
def compL (m : Mod) : List Fn → Nat → List FF → Except (Nat × Nat) (List FF)
  | [], _, l => .ok l
  | f :: fs, k, l => match m.typeOf (m.imports.length + k : Nat) with
    | none => .error (k, 0)
    | some t => if 96 < f.body.length ∨ 24 < f.tabs.length then .error (k, 0) else match flatP m f t.q.size with
      | .error a => .error (k, a)
      | .ok p => compL m fs (k + 1) (l ++ [⟨t.p.size, t.p.size + f.locals.size, t.q.size, p.cells.tail⟩])
def compP (m : Mod) : Except (Nat × Nat) (List FF) := compL m m.funcs 0 []
end Go.Proofs.Qxb6500275aGreatDoor
