import Derived.Test.Qxb6500275aGreatDoorLw8
import Derived.Test.Qxb6500275aGreatDoorXp4
set_option linter.unusedVariables false
set_option linter.unusedSimpArgs false
set_option maxRecDepth 100000
namespace Go.Proofs.Qxb6500275aGreatDoor
open Go Go.RowKit
/- THE MODEL'S MACHINE, as plain functions: none: it is stuck -/
structure MV where
  t : Nat
  b : Nat
structure MF where
  f : Int
  pc : Nat
  loc : List MV
  ops : List MV
  labs : List (Nat × Nat)
/- the top frame first; the last is the root -/
structure MQ where
  fr : List MF
  fuel : Nat
  S : Sm
  H : Hm
abbrev NumF0 := Nat → Int → Int → Int × Int
abbrev MR := Option (Nat × MQ)
def MF.floor (r : MF) : Nat := match r.labs.getLast? with
  | none => 0
  | some l => l.2
def popM (r : MF) (want : Nat) : Option (MV × MF) := if r.ops.length ≤ r.floor then none else match r.ops.getLast? with
  | none => none
  | some v => if want = 0 ∨ v.t = want then some (v, { r with ops := r.ops.dropLast }) else none
def pushM (r : MF) (v : MV) : Option MF := if 10 ≤ r.ops.length then none else some { r with ops := r.ops ++ [v] }
def popsM (r : MF) : List Nat → Option (List MV × MF)
  | [] => some ([], r)
  | t :: ts => match popM r t with
    | none => none
    | some (v, r') => match popsM r' ts with
      | none => none
      | some (vs, r'') => some (vs ++ [v], r'')
/- a frame's new face, on top -/
def MQ.top (q : MQ) (r : MF) : MQ := { q with fr := r :: q.fr.tail }
def layM (q : MQ) (r : Option MF) : MR := match r with
  | none => none
  | some r => some (0, q.top r)
def retM (M : Mod) (q : MQ) : MR := match q.fr with
  | r :: b :: rest => (match M.typeOf ((M.imports.length : Int) + r.f) with
    | none => none
    | some t => if t.q.size = 1 then (match popM r (bAt t.q 0) with
        | none => none
        | some (v, _) => match pushM b v with
          | none => none
          | some b' => some (0, { q with fr := b' :: rest }))
      else some (0, { q with fr := b :: rest }))
  | _ => none
def branchM (M : Mod) (fn : Fn) (q : MQ) (l : Nat) : MR := match q.fr with
  | [] => none
  | r :: rest => if r.labs.length < l then none else if l = r.labs.length then retM M q else
    match r.labs[r.labs.length - 1 - l]? with
    | none => none
    | some lab =>
      if (opAt fn lab.1).op = 3 then some (0, q.top { r with ops := r.ops.take lab.2, labs := r.labs.take (r.labs.length - l), pc := lab.1 + 1 })
      else if (opAt fn lab.1).x = 64 then some (0, q.top { r with ops := r.ops.take lab.2, labs := r.labs.take (r.labs.length - 1 - l), pc := endF fn (lab.1 + 1) + 1 })
      else match popM r ((opAt fn lab.1).x.toNat % 256) with
        | none => none
        | some (v, r') => layM q (pushM { r' with ops := r'.ops.take lab.2, labs := r.labs.take (r.labs.length - 1 - l), pc := endF fn (lab.1 + 1) + 1 } v)
def tysB (b : ByteArray) : List Nat := b.data.toList.map (·.toNat)
def callM (M : Mod) (q : MQ) (f : Nat) : MR := match M.typeOf (f : Int) with
  | none => none
  | some t => match q.fr with
    | [] => none
    | r :: rest => match popsM r (argsV t.p) with
      | none => none
      | some (vs, r') =>
        if f < M.imports.length then
          (if (callH q.H f (vs.map MV.b) (resT t) (q.S.bs.length / 64)).2.1 ≠ 0 then some ((callH q.H f (vs.map MV.b) (resT t) (q.S.bs.length / 64)).2.1, { q with fr := r' :: rest, H := (callH q.H f (vs.map MV.b) (resT t) (q.S.bs.length / 64)).2.2 })
          else if resT t = 0 then some (0, { q with fr := r' :: rest, H := (callH q.H f (vs.map MV.b) (resT t) (q.S.bs.length / 64)).2.2 })
          else layM { q with fr := r' :: rest, H := (callH q.H f (vs.map MV.b) (resT t) (q.S.bs.length / 64)).2.2 } (pushM r' ⟨resT t, (callH q.H f (vs.map MV.b) (resT t) (q.S.bs.length / 64)).1⟩))
        else if 6 < q.fr.length then some (45, { q with fr := r' :: rest })
        else match M.funcs[f - M.imports.length]? with
          | none => none
          | some fn => some (0, { q with fr := ⟨((f - M.imports.length : Nat) : Int), 0, vs ++ (tysB fn.locals).map (fun t => ⟨t, 0⟩), [], []⟩ :: r' :: rest })
def localM (q : MQ) (r : MF) (x : Ins) : MR := match r.loc[x.x.toNat]? with
  | none => none
  | some lv => if x.op = 32 then layM q (pushM r lv) else match popM r lv.t with
    | none => none
    | some (v, r') => if x.op = 34 then layM q (pushM { r' with loc := r'.loc.set x.x.toNat v } v) else some (0, q.top { r' with loc := r'.loc.set x.x.toNat v })
def globalM (M : Mod) (q : MQ) (r : MF) (x : Ins) : MR := match M.globals[x.x.toNat]? with
  | none => none
  | some g => if x.op = 35 then layM q (pushM r ⟨g.ty, (q.S.gl.getD x.x.toNat 0).toNat⟩) else match popM r g.ty with
    | none => none
    | some (v, r') => if g.mu = true then some (0, { q.top r' with S := { q.S with gl := q.S.gl.set x.x.toNat v.b } }) else none
def memoryM (M : Mod) (q : MQ) (r : MF) (x : Ins) : MR :=
  if M.memMin < 0 then none
  else if x.op = 63 then layM q (pushM r ⟨127, q.S.bs.length / 64⟩)
  else if x.op = 64 then (match popM r 127 with
    | none => none
    | some (d, r') => layM { q with S := (growS q.S (lo32 d.b)).2 } (pushM r' ⟨127, (growS q.S (lo32 d.b)).1⟩))
  else if x.op ≤ 53 then (match popM r 127 with
    | none => none
    | some (a, r') => match loadS q.S x.op (lo32 a.b) (x.y % 4294967296).toNat with
      | none => some (42, q.top r')
      | some v => layM q (pushM r' ⟨(memSig x.op).2.1, v.toNat⟩))
  else match popM r (memSig x.op).2.1 with
    | none => none
    | some (v, r') => match popM r' 127 with
      | none => none
      | some (a, r'') => match saveS q.S x.op (lo32 a.b) (x.y % 4294967296).toNat v.b with
        | none => some (42, q.top r'')
        | some S' => some (0, { q.top r'' with S := S' })
def numM (num : NumF0) (q : MQ) (r : MF) (x : Ins) : MR :=
  if (numSig x.op).1 = 0 then none
  else if (numSig x.op).1 = 2 then (match popM r (numSig x.op).2.1 with
    | none => none
    | some (v, r') => match popM r' (numSig x.op).2.1 with
      | none => none
      | some (u, r'') => if (num x.op u.b v.b).2 ≠ 0 then some ((num x.op u.b v.b).2.toNat, q.top r'') else layM q (pushM r'' ⟨(numSig x.op).2.2, (num x.op u.b v.b).1.toNat⟩))
  else match popM r (numSig x.op).2.1 with
    | none => none
    | some (u, r') => if (num x.op u.b 0).2 ≠ 0 then some ((num x.op u.b 0).2.toNat, q.top r') else layM q (pushM r' ⟨(numSig x.op).2.2, (num x.op u.b 0).1.toNat⟩)
/- an instruction that costs; the place already behind it -/
def deedM (num : NumF0) (M : Mod) (fn : Fn) (q : MQ) (x : Ins) : MR := match q.fr with
  | [] => none
  | r :: rest =>
    if x.op = 0 then some (38, q)
    else if x.op = 1 then some (0, q)
    else if x.op = 4 then (match popM r 127 with
      | none => none
      | some (c, r') => some (0, q.top { r' with labs := r'.labs ++ [(r.pc - 1, r'.ops.length)], pc := if c.b = 0 then (if 0 ≤ elsF fn r.pc then (elsF fn r.pc).toNat + 1 else endF fn r.pc) else r.pc }))
    else if x.op = 12 then branchM M fn q x.x.toNat
    else if x.op = 13 then (match popM r 127 with
      | none => none
      | some (c, r') => if c.b = 0 then some (0, q.top r') else branchM M fn (q.top r') x.x.toNat)
    else if x.op = 14 then (match popM r 127 with
      | none => none
      | some (c, r') => if x.y < 1 ∨ (fn.tabs.length : Int) < x.x + x.y then none else branchM M fn (q.top r') (fn.tabs.getD (x.x.toNat + (if c.b < x.y.toNat - 1 then c.b else x.y.toNat - 1)) 0).toNat)
    else if x.op = 15 then retM M q
    else if x.op = 16 then callM M q x.x.toNat
    else if x.op = 17 then (match popM r 127 with
      | none => none
      | some (c, r') => match M.types[x.x.toNat]? with
        | none => none
        | some u => if (elemS q.S (lo32 c.b)).2 ≠ 0 then some ((elemS q.S (lo32 c.b)).2, q.top r') else match M.typeOf (elemS q.S (lo32 c.b)).1 with
          | none => none
          | some t => if t.text = u.text then callM M (q.top r') (elemS q.S (lo32 c.b)).1.toNat else some (44, q.top r'))
    else if x.op = 26 then (match popM r 0 with
      | none => none
      | some (_, r') => some (0, q.top r'))
    else if x.op = 27 then (match popM r 127 with
      | none => none
      | some (c, r1) => match popM r1 0 with
        | none => none
        | some (b, r2) => match popM r2 b.t with
          | none => none
          | some (a, r3) => layM q (pushM r3 (if c.b = 0 then b else a)))
    else if 32 ≤ x.op ∧ x.op ≤ 34 then localM q r x
    else if x.op = 35 ∨ x.op = 36 then globalM M q r x
    else if 40 ≤ x.op ∧ x.op ≤ 64 then memoryM M q r x
    else if 65 ≤ x.op ∧ x.op ≤ 68 then layM q (pushM r ⟨127 - (x.op - 65), x.y.toNat⟩)
    else numM num q r x
def stepM (num : NumF0) (M : Mod) (q : MQ) : MR := match q.fr with
  | [] => none
  | r :: rest => match M.funcs[r.f.toNat]? with
    | none => none
    | some fn => if fn.body.length ≤ r.pc then none
      else if (opAt fn r.pc).op = 2 ∨ (opAt fn r.pc).op = 3 then some (0, q.top { r with labs := r.labs ++ [(r.pc, r.ops.length)], pc := r.pc + 1 })
      else if (opAt fn r.pc).op = 5 then (match r.labs.getLast? with
        | none => none
        | some lab => some (0, q.top { r with pc := endF fn (lab.1 + 1) }))
      else if (opAt fn r.pc).op = 11 then (match r.labs.getLast? with
        | none => (match M.typeOf ((M.imports.length : Int) + r.f) with
          | none => none
          | some t => if r.ops.length ≠ t.q.size then none else retM M q)
        | some lab => if r.ops.length ≠ lab.2 + (if (opAt fn lab.1).x = 64 then 0 else 1) then none
          else if (opAt fn lab.1).x ≠ 64 ∧ (r.ops.getLast?.map MV.t) ≠ some ((opAt fn lab.1).x.toNat % 256) then none
          else some (0, q.top { r with labs := r.labs.dropLast, pc := r.pc + 1 }))
      else if q.fuel = 0 then some (46, q)
      else deedM num M fn { q.top { r with pc := r.pc + 1 } with fuel := q.fuel - 1 } (opAt fn r.pc)
/- on and on, until an error or the root alone -/
def iterM (num : NumF0) (M : Mod) : Nat → Nat × MQ → Option (Nat × MQ)
  | 0, p => if p.1 ≠ 0 ∨ p.2.fr.length ≤ 1 then some p else none
  | n + 1, p => if p.1 ≠ 0 ∨ p.2.fr.length ≤ 1 then some p else match stepM num M p.2 with
    | none => none
    | some p' => iterM num M n p'
end Go.Proofs.Qxb6500275aGreatDoor
