import Derived.Test.Qxb6500275aGreatDoorSp1
set_option linter.unusedVariables false
namespace Go.Proofs.Qxb6500275aGreatDoor
open Go Go.RowKit
/- A MODULE, as plain data -/
structure Imp where
  mod : ByteArray
  name : ByteArray
  ty : Int
structure Fn where
  ty : Int
  locals : ByteArray
  body : List Ins
  tabs : List Int
structure Glob where
  ty : Nat
  mu : Bool
  init : Ins
structure Exp where
  name : ByteArray
  kind : Nat
  idx : Int
structure Elm where
  off : Ins
  fns : List Int
structure Dat where
  off : Ins
  bytes : ByteArray
/- a type: its parameters, its results -/
structure Ty where
  p : ByteArray
  q : ByteArray
def colon : ByteArray := ⟨#[58]⟩
def Ty.text (t : Ty) : ByteArray := t.p ++ colon ++ t.q
structure Mod where
  types : List Ty
  imports : List Imp
  funcs : List Fn
  tabMin : Int
  tabMax : Int
  memMin : Int
  memMax : Int
  globals : List Glob
  exports : List Exp
  start : Int
  elems : List Elm
  datas : List Dat
def Mod.empty : Mod := ⟨[], [], [], -1, -1, -1, -1, [], [], -1, [], []⟩
/- the type of function f (imports first) -/
def Mod.tyIdx (m : Mod) (f : Int) : Int :=
  if 0 ≤ f ∧ f < m.imports.length then (match m.imports[f.toNat]? with | some i => i.ty | none => -1)
  else if m.imports.length ≤ f ∧ f - m.imports.length < m.funcs.length then (match m.funcs[(f - m.imports.length).toNat]? with | some i => i.ty | none => -1)
  else -1
def Mod.typeAt (m : Mod) (t : Int) : Option Ty := if t < 0 ∨ (m.types.length : Int) ≤ t then none else m.types[t.toNat]?
def Mod.typeOf (m : Mod) (f : Int) : Option Ty := m.typeAt (m.tyIdx f)
/- what every decoded module keeps -/
def isVal (t : Nat) : Prop := t = 127 ∨ t = 126 ∨ t = 125 ∨ t = 124
def Vals (t : ByteArray) : Prop := ∀ i, i < t.size → isVal (bAt t i)
def u32R (x : Int) : Prop := 0 ≤ x ∧ x < 4294967296
def u64R (x : Int) : Prop := 0 ≤ x ∧ x < 18446744073709551616
def opOk (op : Nat) : Prop := op ≤ 5 ∨ (11 ≤ op ∧ op ≤ 17) ∨ op = 26 ∨ op = 27 ∨ (32 ≤ op ∧ op ≤ 36) ∨ (40 ≤ op ∧ op ≤ 191)
structure InsOk (i : Ins) : Prop where
  op : opOk i.op
  x : u32R i.x
  y : u64R i.y
  blk : i.op = 2 ∨ i.op = 3 ∨ i.op = 4 → i.x = 64 ∨ ∃ t : Nat, i.x = t ∧ isVal t
structure FnOk (f : Fn) : Prop where
  ty : u32R f.ty
  locals : Vals f.locals
  nl : f.locals.size ≤ 6
  body : ∀ i, i ∈ f.body → InsOk i
  nb : 0 < f.body.length ∧ f.body.length ≤ 96
  tabs : ∀ i, i ∈ f.tabs → u32R i
  nt : f.tabs.length ≤ 24
structure TyOk (t : Ty) : Prop where
  p : Vals t.p
  np : t.p.size ≤ 4
  q : Vals t.q
  nq : t.q.size ≤ 1
structure ImpOk (i : Imp) : Prop where
  mod : i.mod.size ≤ 8
  name : i.name.size ≤ 8
  ty : u32R i.ty
structure ConOk (i : Ins) : Prop where
  ok : InsOk i
  op : 65 ≤ i.op ∧ i.op ≤ 68
  i32 : i.op = 65 → i.y < 4294967296
structure GlobOk (g : Glob) : Prop where
  ty : isVal g.ty
  init : ConOk g.init
structure ExpOk (x : Exp) : Prop where
  name : x.name.size ≤ 8
  kind : x.kind ≤ 3
  idx : u32R x.idx
structure ElmOk (x : Elm) : Prop where
  off : ConOk x.off
  fns : ∀ i, i ∈ x.fns → u32R i
  n : x.fns.length ≤ 6
structure DatOk (x : Dat) : Prop where
  off : ConOk x.off
  n : x.bytes.size ≤ 24
def limR (x : Int) : Prop := -1 ≤ x ∧ x < 4294967296
structure ModOk (m : Mod) : Prop where
  types : ∀ t, t ∈ m.types → TyOk t
  nt : m.types.length ≤ 8
  imports : ∀ t, t ∈ m.imports → ImpOk t
  ni : m.imports.length ≤ 4
  funcs : ∀ t, t ∈ m.funcs → FnOk t
  nf : m.funcs.length ≤ 8
  tabMin : limR m.tabMin
  tabMax : limR m.tabMax
  memMin : limR m.memMin
  memMax : limR m.memMax
  globals : ∀ t, t ∈ m.globals → GlobOk t
  ng : m.globals.length ≤ 4
  exports : ∀ t, t ∈ m.exports → ExpOk t
  ne : m.exports.length ≤ 6
  start : limR m.start
  elems : ∀ t, t ∈ m.elems → ElmOk t
  nel : m.elems.length ≤ 3
  datas : ∀ t, t ∈ m.datas → DatOk t
  nd : m.datas.length ≤ 3
end Go.Proofs.Qxb6500275aGreatDoor
