import Derived.Test.Qxb6500275aGreatDoorSp2
set_option linter.unusedVariables false
namespace Go.Proofs.Qxb6500275aGreatDoor
open Go Go.RowKit
/- THE VALIDATOR, as plain functions: lists with the top first -/
structure VF where
  op : Nat
  res : Nat
  floor : Nat
  dead : Bool
structure VS where
  ops : List Nat
  ctl : List VF
def VF.zero : VF := ⟨0, 0, 0, false⟩
def VS.top (v : VS) : VF := v.ctl.headD VF.zero
def popV (v : VS) (want : Nat) : VS × Nat × Bool :=
  if v.ops.length = v.top.floor then (v, want, v.top.dead) else
  (⟨v.ops.tail, v.ctl⟩, if v.ops.headD 0 = 0 then want else v.ops.headD 0, decide (v.ops.headD 0 = 0 ∨ want = 0 ∨ v.ops.headD 0 = want))
/- the operands, the last first -/
def popsV (v : VS) : List Nat → VS × Bool
  | [] => (v, true)
  | t :: ts => if (popV v t).2.2 = true then popsV (popV v t).1 ts else ((popV v t).1, false)
def carryV (v : VS) (t : Nat) : VS × Bool := if t = 64 then (v, true) else ((popV v t).1, (popV v t).2.2)
def fitsV (v : VS) (t : Nat) : Bool := if t = 64 then true else if v.ops.length = v.top.floor then v.top.dead else decide (v.ops.headD 0 = 0 ∨ v.ops.headD 0 = t)
def pushV (v : VS) (t : Nat) : VS × Bool := if 10 ≤ v.ops.length then (v, false) else (⟨t :: v.ops, v.ctl⟩, true)
def cutV (v : VS) : VS := match v.ctl with
  | [] => v
  | f :: r => ⟨v.ops.drop (v.ops.length - f.floor), { f with dead := true } :: r⟩
def labelV (v : VS) (l : Nat) : Nat := if (v.ctl.getD l VF.zero).op = 3 then 64 else (v.ctl.getD l VF.zero).res
def settledV (v : VS) : VS × Bool := if (carryV v v.top.res).2 = true then ((carryV v v.top.res).1, decide ((carryV v v.top.res).1.ops.length = v.top.floor)) else ((carryV v v.top.res).1, false)
def firstV (q : ByteArray) : Nat := if q.size = 0 then 64 else bAt q 0
def localV (params decl : ByteArray) (x : Int) : Option Nat :=
  if x < params.size then some (bAt params x.toNat) else if x - params.size < decl.size then some (bAt decl (x - params.size).toNat) else none
def constOfV (op : Nat) : Nat := if op < 65 ∨ 68 < op then 0 else 127 - (op - 65)
def typedV (ok : Bool) : Int := if ok then 0 else 27
/- the operators' signatures -/
def numSig (op : Nat) : Nat × Nat × Nat :=
  if op = 69 then (1, 127, 127) else if 70 ≤ op ∧ op ≤ 79 then (2, 127, 127) else if op = 80 then (1, 126, 127) else if 81 ≤ op ∧ op ≤ 90 then (2, 126, 127)
  else if 91 ≤ op ∧ op ≤ 96 then (2, 125, 127) else if 97 ≤ op ∧ op ≤ 102 then (2, 124, 127) else if 103 ≤ op ∧ op ≤ 105 then (1, 127, 127) else if 106 ≤ op ∧ op ≤ 120 then (2, 127, 127)
  else if 121 ≤ op ∧ op ≤ 123 then (1, 126, 126) else if 124 ≤ op ∧ op ≤ 138 then (2, 126, 126) else if 139 ≤ op ∧ op ≤ 145 then (1, 125, 125) else if 146 ≤ op ∧ op ≤ 152 then (2, 125, 125)
  else if 153 ≤ op ∧ op ≤ 159 then (1, 124, 124) else if 160 ≤ op ∧ op ≤ 166 then (2, 124, 124)
  else if op = 167 then (1, 126, 127) else if op = 168 ∨ op = 169 ∨ op = 188 then (1, 125, 127) else if op = 170 ∨ op = 171 then (1, 124, 127) else if op = 172 ∨ op = 173 then (1, 127, 126)
  else if op = 174 ∨ op = 175 then (1, 125, 126) else if op = 176 ∨ op = 177 ∨ op = 189 then (1, 124, 126) else if op = 178 ∨ op = 179 ∨ op = 190 then (1, 127, 125) else if op = 180 ∨ op = 181 then (1, 126, 125)
  else if op = 182 then (1, 124, 125) else if op = 183 ∨ op = 184 then (1, 127, 124) else if op = 185 ∨ op = 186 ∨ op = 191 then (1, 126, 124) else if op = 187 then (1, 125, 124) else (0, 0, 0)
def memSig (op : Nat) : Nat × Nat × Bool :=
  if op = 40 ∨ op = 54 then (4, 127, false) else if op = 41 ∨ op = 55 then (8, 126, false) else if op = 42 ∨ op = 56 then (4, 125, false) else if op = 43 ∨ op = 57 then (8, 124, false)
  else if op = 44 then (1, 127, true) else if op = 45 ∨ op = 58 then (1, 127, false) else if op = 46 then (2, 127, true) else if op = 47 ∨ op = 59 then (2, 127, false)
  else if op = 48 then (1, 126, true) else if op = 49 ∨ op = 60 then (1, 126, false) else if op = 50 then (2, 126, true) else if op = 51 ∨ op = 61 then (2, 126, false)
  else if op = 52 then (4, 126, true) else if op = 53 ∨ op = 62 then (4, 126, false) else (0, 0, false)
/- an instruction's own part: the state, the type that it gives (64: none), the error -/
abbrev VR := VS × Nat × Int
/- a type's parameters, the last first -/
def argsV (p : ByteArray) : List Nat := p.data.toList.reverse.map (·.toNat)
def callV (m : Mod) (v : VS) (x : Ins) : VR :=
  if x.op = 16 then (match m.typeOf x.x with
    | none => (v, 64, 15)
    | some t => ((popsV v (argsV t.p)).1, firstV t.q, typedV (popsV v (argsV t.p)).2))
  else if m.tabMin < 0 then (v, 64, 21) else (match m.types[x.x.toNat]? with
    | none => (v, 64, 14)
    | some t => if (carryV v 127).2 = true then ((popsV (carryV v 127).1 (argsV t.p)).1, firstV t.q, typedV (popsV (carryV v 127).1 (argsV t.p)).2) else ((carryV v 127).1, 64, 27))
def selV (v : VS) : VR :=
  if (carryV v 127).2 = true then
    (if (popV (carryV v 127).1 0).2.2 = true then ((popV (popV (carryV v 127).1 0).1 (popV (carryV v 127).1 0).2.1).1, (popV (popV (carryV v 127).1 0).1 (popV (carryV v 127).1 0).2.1).2.1, typedV (popV (popV (carryV v 127).1 0).1 (popV (carryV v 127).1 0).2.1).2.2)
     else ((popV (carryV v 127).1 0).1, 64, 27))
  else ((carryV v 127).1, 64, 27)
def memoryV (m : Mod) (v : VS) (x : Ins) : VR :=
  if m.memMin < 0 then (v, 64, 20) else if x.op = 63 then (v, 127, 0)
  else if x.op ≤ 62 then
    (if 3 < x.x ∨ (memSig x.op).1 / 2 ^ x.x.toNat = 0 then (v, 64, 26)
     else if 54 ≤ x.op then (if (carryV v (memSig x.op).2.1).2 = true then ((carryV (carryV v (memSig x.op).2.1).1 127).1, 64, typedV (carryV (carryV v (memSig x.op).2.1).1 127).2) else ((carryV v (memSig x.op).2.1).1, 64, 27))
     else ((carryV v 127).1, (memSig x.op).2.1, typedV (carryV v 127).2))
  else ((carryV v 127).1, 127, typedV (carryV v 127).2)
def plainV (m : Mod) (params decl : ByteArray) (v : VS) (x : Ins) : VR :=
  if x.op = 16 ∨ x.op = 17 then callV m v x
  else if x.op = 26 then ((popV v 0).1, 64, typedV (popV v 0).2.2)
  else if x.op = 27 then selV v
  else if 32 ≤ x.op ∧ x.op ≤ 34 then (match localV params decl x.x with
    | none => (v, 64, 22)
    | some t => if x.op = 32 then (v, t, 0) else ((carryV v t).1, if x.op = 33 then 64 else t, typedV (carryV v t).2))
  else if x.op = 35 ∨ x.op = 36 then (match m.globals[x.x.toNat]? with
    | none => (v, 64, 23)
    | some g => if x.op = 35 then (v, g.ty, 0) else if g.mu = true then ((carryV v g.ty).1, 64, typedV (carryV v g.ty).2) else (v, 64, 24))
  else if 40 ≤ x.op ∧ x.op ≤ 64 then memoryV m v x
  else if 65 ≤ x.op ∧ x.op ≤ 68 then (v, constOfV x.op, 0)
  else if (numSig x.op).1 = 0 then (v, 64, 10)
  else if (carryV v (numSig x.op).2.1).2 = true ∧ (numSig x.op).1 = 2 then ((carryV (carryV v (numSig x.op).2.1).1 (numSig x.op).2.1).1, (numSig x.op).2.2, typedV (carryV (carryV v (numSig x.op).2.1).1 (numSig x.op).2.1).2)
  else ((carryV v (numSig x.op).2.1).1, (numSig x.op).2.2, typedV (carryV v (numSig x.op).2.1).2)
/- behind an instruction: its error, or what it gives is laid -/
abbrev VO := VS × Option (Nat × Int)
def giveV (pc : Nat) (r : VR) : VO :=
  if r.2.2 ≠ 0 then (r.1, some (pc, r.2.2)) else if r.2.1 = 64 then (r.1, none) else if (pushV r.1 r.2.1).2 = true then ((pushV r.1 r.2.1).1, none) else ((pushV r.1 r.2.1).1, some (pc, 28))
/- the table's labels from i on, n of them -/
def tableV (v : VS) (pc : Nat) (tabs : List Int) (defE : Bool) : Nat → Nat → VO
  | 0, _ => (cutV v, none)
  | n + 1, i => if (v.ctl.length : Int) ≤ tabs.getD i 0 then (v, some (pc, 25)) else
      if decide (labelV v (tabs.getD i 0).toNat = 64) ≠ defE then (v, some (pc, 27)) else
      if fitsV v (labelV v (tabs.getD i 0).toNat) = true then tableV v pc tabs defE n (i + 1) else (v, some (pc, 27))
/- one round: none: on; some (pc, e): home -/
def stepV (m : Mod) (f : Fn) (params : ByteArray) (pc : Nat) (v : VS) (x : Ins) : VO :=
  if x.op = 1 then (v, none)
  else if x.op = 0 then (cutV v, none)
  else if x.op = 2 ∨ x.op = 3 then (if 6 < v.ctl.length then (v, some (pc + 1, 11)) else (⟨v.ops, ⟨x.op, x.x.toNat % 256, v.ops.length, false⟩ :: v.ctl⟩, none))
  else if x.op = 4 then (if (carryV v 127).2 = true then (if 6 < (carryV v 127).1.ctl.length then ((carryV v 127).1, some (pc + 1, 11)) else (⟨(carryV v 127).1.ops, ⟨4, x.x.toNat % 256, (carryV v 127).1.ops.length, false⟩ :: (carryV v 127).1.ctl⟩, none)) else ((carryV v 127).1, some (pc, 27)))
  else if x.op = 5 then
    (if (settledV v).2 = true then (if (settledV v).1.ctl.length = 1 then ((settledV v).1, some (pc + 1, 11)) else if (settledV v).1.top.op = 4 then (⟨(settledV v).1.ops, { (settledV v).1.top with op := 5, dead := false } :: (settledV v).1.ctl.tail⟩, none) else ((settledV v).1, some (pc, 11)))
     else ((settledV v).1, some (pc, 27)))
  else if x.op = 11 then
    (if (settledV v).2 = true then (if (settledV v).1.top.op = 4 ∧ (settledV v).1.top.res ≠ 64 then ((settledV v).1, some (pc, 27))
      else if (settledV v).1.ctl.length = 1 then (if pc + 1 = f.body.length then (⟨(settledV v).1.ops, (settledV v).1.ctl.tail⟩, some (0, 0)) else (⟨(settledV v).1.ops, (settledV v).1.ctl.tail⟩, some (pc + 1, 11)))
      else giveV pc (⟨(settledV v).1.ops, (settledV v).1.ctl.tail⟩, (settledV v).1.top.res, 0))
     else ((settledV v).1, some (pc, 27)))
  else if x.op = 12 then
    (if (v.ctl.length : Int) ≤ x.x then (v, some (pc, 25)) else if (carryV v (labelV v x.x.toNat)).2 = true then (cutV (carryV v (labelV v x.x.toNat)).1, none) else ((carryV v (labelV v x.x.toNat)).1, some (pc, 27)))
  else if x.op = 13 then
    (if (carryV v 127).2 = true then (if ((carryV v 127).1.ctl.length : Int) ≤ x.x then ((carryV v 127).1, some (pc, 25)) else
        if (carryV (carryV v 127).1 (labelV (carryV v 127).1 x.x.toNat)).2 = true then giveV pc ((carryV (carryV v 127).1 (labelV (carryV v 127).1 x.x.toNat)).1, labelV (carryV v 127).1 x.x.toNat, 0) else ((carryV (carryV v 127).1 (labelV (carryV v 127).1 x.x.toNat)).1, some (pc, 27)))
     else ((carryV v 127).1, some (pc, 27)))
  else if x.op = 14 then
    (if (carryV v 127).2 = true then (if x.y < 1 ∨ (f.tabs.length : Int) < x.y ∨ (f.tabs.length : Int) - x.y < x.x then ((carryV v 127).1, some (pc, 11)) else
        if ((carryV v 127).1.ctl.length : Int) ≤ f.tabs.getD (x.x.toNat + x.y.toNat - 1) 0 then ((carryV v 127).1, some (pc, 25)) else
        tableV (carryV v 127).1 pc f.tabs (decide (labelV (carryV v 127).1 (f.tabs.getD (x.x.toNat + x.y.toNat - 1) 0).toNat = 64)) x.y.toNat x.x.toNat)
     else ((carryV v 127).1, some (pc, 27)))
  else if x.op = 15 then
    (if (carryV v (v.ctl.getLastD VF.zero).res).2 = true then (cutV (carryV v (v.ctl.getLastD VF.zero).res).1, none) else ((carryV v (v.ctl.getLastD VF.zero).res).1, some (pc, 27)))
  else giveV pc (plainV m params f.locals v x)
def bodyVL (m : Mod) (f : Fn) (params : ByteArray) : List Ins → Nat → VS → VS × Nat × Int
  | [], pc, v => (v, f.body.length, 11)
  | x :: xs, pc, v => match stepV m f params pc v x with
    | (v', none) => bodyVL m f params xs (pc + 1) v'
    | (v', some r) => (v', r)
def bodyV (m : Mod) (f : Fn) : VS × Nat × Int :=
  match m.typeAt f.ty with
  | none => (⟨[], []⟩, 0, 14)
  | some t => bodyVL m f t.p f.body 0 ⟨[], [⟨2, firstV t.q, 0, false⟩]⟩
/- the module's parts -/
def limitsV (lo hi most : Int) : Bool := if most < lo then false else decide (hi = -1 ∨ lo ≤ hi)
def thereV (lo : Int) : Nat := if lo < 0 then 0 else 1
def typesV (m : Mod) : Nat → Nat → Option (Nat × Int)
  | 0, _ => none
  | n + 1, i => if (m.typeOf i).isSome then typesV m n (i + 1) else some (i, 14)
def globsV : List Glob → Nat → Option (Nat × Int)
  | [], _ => none
  | g :: gs, i => if constOfV g.init.op = g.ty then globsV gs (i + 1) else some (i, 27)
def expsV (m : Mod) : List Exp → List Exp → Nat → Option (Nat × Int)
  | _, [], _ => none
  | before, x :: xs, i =>
    if ((if x.kind = 1 then thereV m.tabMin else if x.kind = 2 then thereV m.memMin else if x.kind = 3 then m.globals.length else m.imports.length + m.funcs.length : Nat) : Int) ≤ x.idx then some (i, 17)
    else if before.any (fun y => decide (y.name = x.name)) then some (i, 18) else expsV m (before ++ [x]) xs (i + 1)
def elmsV (m : Mod) : List Elm → Nat → Option (Nat × Int)
  | [], _ => none
  | x :: xs, i => if m.tabMin < 0 then some (i, 21) else if x.off.op ≠ 65 then some (i, 27) else if x.fns.any (fun f => decide (((m.imports.length + m.funcs.length : Nat) : Int) ≤ f)) then some (i, 15) else elmsV m xs (i + 1)
def datsV (m : Mod) : List Dat → Nat → Option (Nat × Int)
  | [], _ => none
  | x :: xs, i => if m.memMin < 0 then some (i, 20) else if x.off.op ≠ 65 then some (i, 27) else datsV m xs (i + 1)
def startV (m : Mod) : Option (Nat × Int) :=
  if m.start = -1 then none else match m.typeOf m.start with
    | none => some (0, 15)
    | some t => if t.text = colon then none else some (0, 19)
def partsV (m : Mod) : Option (Nat × Int) :=
  match typesV m (m.imports.length + m.funcs.length) 0 with
  | some r => some r
  | none => if limitsV m.tabMin m.tabMax 8 = false then some (0, 16) else if limitsV m.memMin m.memMax 6 = false then some (1, 16) else match globsV m.globals 0 with
    | some r => some r
    | none => match expsV m [] m.exports 0 with
      | some r => some r
      | none => match startV m with
        | some r => some r
        | none => match elmsV m m.elems 0 with
          | some r => some r
          | none => datsV m m.datas 0
def bodiesV (m : Mod) : List Fn → Nat → Int × Nat × Int
  | [], k => (m.funcs.length, 0, 0)
  | f :: fs, k => if (bodyV m f).2.2 = 0 then bodiesV m fs (k + 1) else (k, (bodyV m f).2)
def validV (m : Mod) : Int × Nat × Int :=
  match partsV m with
  | some (i, e) => (-1, i, e)
  | none => bodiesV m m.funcs 0
end Go.Proofs.Qxb6500275aGreatDoor
