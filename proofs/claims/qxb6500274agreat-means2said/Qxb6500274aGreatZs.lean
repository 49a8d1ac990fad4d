import Derived.Test.Qxb6500274aGreatSxCov2
import Derived.Test.Qxb6500274aGreatPrim
namespace Go.Sx
open Go

/- THE STATE AT THE HEAD OF Means2UpTo's LOOP: x is block 0, the ghost block 1, y block 2; variables: 2: global 0 and its ghost, 20, 21: two counters of y; pg: the ghost's pages; sl: the memory -/
def zBlks (pg sl : Value) : List Blk := [
  ⟨[unk, unk, unk, .pointer (some ⟨3, 0, none⟩), .pointer (some ⟨4, 0, none⟩), .pointer (some ⟨5, 0, none⟩), .pointer (some ⟨6, 0, none⟩), .slice (some ⟨7, 0, none⟩) 5 capU, .slice (some ⟨8, 0, none⟩) 9 capU, .slice (some ⟨9, 0, none⟩) 120 120, unk, unk, .int .i64 0] ++ (rep [unk] 13 ++ ([.int .i64 0, unk])), 0⟩,
  ⟨[.func (.yield 0) ⟨[.chan (some 2)]⟩ ⟨[.int .u64 0]⟩, pg], 0⟩,
  ⟨[.pointer (some ⟨10, 0, none⟩), .pointer (some ⟨11, 0, none⟩), .pointer (some ⟨12, 0, none⟩), .pointer (some ⟨13, 0, none⟩), .pointer (some ⟨14, 0, none⟩), unk, unk, unk, unk, .slice (some ⟨15, 0, none⟩) 120 120] ++ (rep [.int .i64 0] 18), 0⟩,
  ⟨[.slice (some ⟨16, 0, none⟩) 384 384, .bool true, sl] ++ (rep [.int .i64 0] 9 ++ ([.func (.yield 0) ⟨[.chan (some 2)]⟩ ⟨[.int .u64 0]⟩, .int .u64 1144201745, .int .u64 0, .int .u64 0, .int .i64 2])), 0⟩,
  ⟨[.slice (some ⟨17, 0, none⟩) 2 4, unk] ++ (rep [.int .u64 0] 5 ++ ([unk, unk, .func (.yield 1) ⟨[.slice (some ⟨18, 0, none⟩) 0 864]⟩ ⟨[.pointer none]⟩, unk])), 0⟩,
  ⟨[unk, .slice (some ⟨19, 0, none⟩) 2 2, unk, .int .i64 (-1), .int .i64 (-1), .int .i64 1, .int .i64 2, unk, .slice (some ⟨20, 0, none⟩) 6 6, .int .i64 2, .slice none 0 0, unk], 0⟩,
  ⟨[.slice (some ⟨21, 0, none⟩) 7 7], 0⟩,
  ⟨[.int .u8 2, .int .u8 127, .int .u8 127, .int .u8 0, .int .u8 0, .int .u8 127] ++ (rep [.int .u8 0] 11 ++ ([.int .u8 126, .int .u8 1, .int .u8 127, .int .u8 0, .int .u8 0, .int .u8 0, .int .u8 127] ++ (rep [.int .u8 0] 5 ++ ([.int .u8 127])))), 9⟩,
  ⟨rep [.int .u8 0] 5 ++ ([.int .u8 126] ++ (rep [.int .u8 0] 5 ++ ([.int .u8 127] ++ (rep [.int .u8 0] 6 ++ ([.int .u8 2, .int .u8 127, .int .u8 127, .int .u8 0, .int .u8 0, .int .u8 127, .int .u8 2, .int .u8 127, .int .u8 127, .int .u8 0, .int .u8 0, .int .u8 127, .int .u8 2, .int .u8 127, .int .u8 127, .int .u8 0, .int .u8 0, .int .u8 127, .int .u8 1, .int .u8 127, .int .u8 0, .int .u8 0, .int .u8 0, .int .u8 127, .int .u8 1, .int .u8 127, .int .u8 0, .int .u8 0, .int .u8 0, .int .u8 127] ++ (rep [.int .u8 0] 5 ++ ([.int .u8 126]))))))), 9⟩,
  ⟨rep [unk] 15 ++ (rep [.int .u64 0] 5), 4⟩,
  ⟨rep [.int .i64 0] 8 ++ ([unk] ++ (rep [.int .u8 0] 6 ++ ([.int .i64 0, .slice (some ⟨22, 0, none⟩) 96 96, unk, .slice (some ⟨23, 0, none⟩) 24 24, .int .i64 0, .slice none 0 0, .slice none 0 0, .slice none 0 0]))), 0⟩,
  ⟨[unk, unk] ++ (rep [.int .u8 0] 9 ++ ([.int .i64 0, unk, unk, .int .i64 0, .bool false, .int .u8 0, .int .u8 0, .int .i64 0, .bool false, .int .u8 0, .int .u8 0, .int .i64 0, .bool false, .int .u8 0, .int .u8 0, .int .i64 0, .bool false, .int .u8 0, .int .u8 0, .int .i64 0, .bool false, .int .u8 0, .int .u8 0, .int .i64 0, .bool false, .int .u8 0, .int .u8 0, .int .i64 0, .bool false, .int .i64 0, .func (.yield 0) ⟨[.chan (some 20)]⟩ ⟨[.int .i64 0]⟩])), 0⟩,
  ⟨[.func (.yield 1) ⟨[.slice (some ⟨24, 0, none⟩) 0 121]⟩ ⟨[.pointer none]⟩, .func (.yield 0) ⟨[.chan (some 21)]⟩ ⟨[.int .i64 0]⟩, unk, .int .i64 0, unk, .int .i64 0, .int .i64 0, .int .i64 0, .int .i64 0, .int .u8 0] ++ (rep [.int .i64 0] 6 ++ ([.int .u8 0] ++ (rep [.int .i64 0] 6 ++ ([.int .u8 0] ++ (rep [.int .i64 0] 6 ++ ([.int .u8 0] ++ (rep [.int .i64 0] 6 ++ ([.int .u8 0] ++ (rep [.int .i64 0] 6 ++ ([.int .u8 0] ++ (rep [.int .i64 0] 7 ++ ([unk, .int .i64 0])))))))))))), 0⟩,
  ⟨[.slice (some ⟨25, 0, none⟩) 384 384, .bool false, .slice none 0 0] ++ (rep [.int .i64 0] 9 ++ ([.int .u64 0, .int .u64 0, .int .u64 0, .int .u64 0, .int .i64 0])), 0⟩,
  ⟨[.slice (some ⟨26, 0, none⟩) 0 4] ++ (rep [.int .u64 0] 6 ++ ([.int .i64 0, .int .i64 0, .slice (some ⟨27, 0, none⟩) 0 864, .int .i64 0])), 0⟩,
  ⟨[unk, unk, unk, unk] ++ (rep [.int .u64 0] 16), 4⟩,
  ⟨[.int .u8 0, .int .u8 0, .int .u8 0, .int .u8 0] ++ (rep [unk] 124), 4⟩,
  ⟨[.iface 223 (.pointer (some ⟨28, 0, none⟩)), .iface 278 (.func (.func 230) ⟨[]⟩ ⟨[]⟩), .nilIface, .nilIface], 0⟩,
  ⟨[unk, unk, unk, unk] ++ (rep [.int .u8 0] 12), 4⟩,
  ⟨[], 4⟩,
  ⟨[.string ⟨⟨[115, 117, 98]⟩⟩, .int .u8 0, .int .u32 3, .string ⟨⟨[112, 105, 99, 107]⟩⟩, .int .u8 0, .int .u32 4, .string ⟨⟨[109, 101, 109]⟩⟩, .int .u8 0, .int .u32 5, .string ⟨⟨[103, 97, 100, 100]⟩⟩, .int .u8 0, .int .u32 6, .string ⟨⟨[103, 114, 111, 119]⟩⟩, .int .u8 0, .int .u32 7, .string ⟨⟨[104, 111, 115, 116]⟩⟩, .int .u8 0, .int .u32 8], 0⟩,
  ⟨[.int .i64 0, .int .i64 0, .int .i64 0, .slice (some ⟨29, 0, none⟩) 4 4, .int .i64 2, .int .i64 2, .int .i64 1, .slice (some ⟨30, 0, none⟩) 15 15, .int .i64 2, .int .i64 2, .int .i64 1, .slice (some ⟨31, 0, none⟩) 11 11, .int .i64 2, .int .i64 2, .int .i64 1, .slice (some ⟨32, 0, none⟩) 8 8, .int .i64 1, .int .i64 1, .int .i64 1, .slice (some ⟨33, 0, none⟩) 7 7, .int .i64 1, .int .i64 1, .int .i64 1, .slice (some ⟨34, 0, none⟩) 11 11, .int .i64 0, .int .i64 0, .int .i64 1, .slice (some ⟨35, 0, none⟩) 2 2], 0⟩,
  ⟨[unk, .int .u32 0, .int .u64 0, unk, unk, .int .u64 0, unk, .int .u32 0, .int .u64 0, unk, .int .u32 0, .int .u64 0, .int .u8 0, .int .u32 0, .int .u64 0, .int .u8 0, .int .u32 0, .int .u64 0, .int .u8 0, .int .u32 0, .int .u64 0, .int .u8 0, .int .u32 0, .int .u64 0, .int .u8 0, .int .u32 0, .int .u64 0, .int .u8 0, .int .u32 0, .int .u64 0, .int .u8 0, .int .u32 0, .int .u64 0, .int .u8 0, .int .u32 0, .int .u64 0, .int .u8 0, .int .u32 0, .int .u64 0, .int .u8 0], 4⟩,
  ⟨rep [.int .u32 0] 24, 0⟩,
  ⟨[.int .u8 0, .int .u32 0, .int .u64 0, unk, .int .u32 0, .int .u64 0, unk, unk, .int .u64 0, unk, .int .u32 0, .int .u64 0, unk, .int .u32 0, .int .u64 0, .int .u8 0, .int .u32 0, .int .u64 0, .int .u8 0, .int .u32 0, .int .u64 0, .int .u8 0, .int .u32 0, .int .u64 0, .int .u8 0, .int .u32 0, .int .u64 0, .int .u8 0, .int .u32 0, .int .u64 0, .int .u8 0, .int .u32 0, .int .u64 0, .int .u8 0, .int .u32 0, .int .u64 0, .int .u8 0, .int .u32 0, .int .u64 0, .int .u8 0, .int .u32 0, .int .u64 0, .int .u8 0, .int .u32 0, .int .u64 0, .int .u8 0, .int .u32 0, .int .u64 0, .int .u8 0, .int .u32 0, .int .u64 0, .int .u8 0, .int .u32 0, .int .u64 0, .int .u8 0, .int .u32 0, .int .u64 0, .int .u8 0, .int .u32 0, .int .u64 0], 4⟩,
  ⟨[], 4⟩,
  ⟨[.nilIface, .nilIface, .nilIface, .nilIface], 0⟩,
  ⟨[], 4⟩,
  ⟨[.func (.func 229) ⟨[.pointer (some ⟨4, 0, none⟩)]⟩ ⟨[]⟩], 0⟩,
  ⟨[.int .u8 65, .int .u32 0, .int .u64 0, .int .u8 40, .int .u32 0, .int .u64 8, .int .u8 36, .int .u32 1, .int .u64 0, .int .u8 11, .int .u32 0, .int .u64 0], 0⟩,
  ⟨[.int .u8 32, .int .u32 1, .int .u64 0, .int .u8 69, .int .u32 0, .int .u64 0, .int .u8 4, .int .u32 7, .int .u64 0, .int .u8 16, .int .u32 1, .int .u64 0, .int .u8 26, .int .u32 0, .int .u64 0, .int .u8 32, .int .u32 0, .int .u64 0, .int .u8 15, .int .u32 0, .int .u64 0, .int .u8 32, .int .u32 0, .int .u64 0, .int .u8 65, .int .u32 0, .int .u64 1, .int .u8 107, .int .u32 0, .int .u64 0, .int .u8 32, .int .u32 1, .int .u64 0, .int .u8 65, .int .u32 0, .int .u64 1, .int .u8 107, .int .u32 0, .int .u64 0, .int .u8 16, .int .u32 3, .int .u64 0, .int .u8 11, .int .u32 0, .int .u64 0], 0⟩,
  ⟨[.int .u8 1, .int .u32 0, .int .u64 0, .int .u8 32, .int .u32 0, .int .u64 0, .int .u8 4, .int .u32 9, .int .u64 0, .int .u8 32, .int .u32 1, .int .u64 0, .int .u8 69, .int .u32 0, .int .u64 0, .int .u8 4, .int .u32 7, .int .u64 0, .int .u8 0, .int .u32 0, .int .u64 0, .int .u8 32, .int .u32 1, .int .u64 0, .int .u8 224, .int .u32 10, .int .u64 0, .int .u8 35, .int .u32 1, .int .u64 0, .int .u8 11, .int .u32 0, .int .u64 0], 0⟩,
  ⟨[.int .u8 32, .int .u32 0, .int .u64 0, .int .u8 32, .int .u32 1, .int .u64 0, .int .u8 54, .int .u32 0, .int .u64 4, .int .u8 32, .int .u32 0, .int .u64 0, .int .u8 65, .int .u32 0, .int .u64 4, .int .u8 106, .int .u32 0, .int .u64 0, .int .u8 40, .int .u32 0, .int .u64 0, .int .u8 11, .int .u32 0, .int .u64 0], 0⟩,
  ⟨[.int .u8 35, .int .u32 0, .int .u64 0, .int .u8 32, .int .u32 0, .int .u64 0, .int .u8 106, .int .u32 0, .int .u64 0, .int .u8 34, .int .u32 0, .int .u64 0, .int .u8 36, .int .u32 0, .int .u64 0, .int .u8 32, .int .u32 0, .int .u64 0, .int .u8 11, .int .u32 0, .int .u64 0], 0⟩,
  ⟨[.int .u8 32, .int .u32 0, .int .u64 0, .int .u8 64, .int .u32 0, .int .u64 0, .int .u8 65, .int .u32 0, .int .u64 8, .int .u8 116, .int .u32 0, .int .u64 0, .int .u8 63, .int .u32 0, .int .u64 0, .int .u8 114, .int .u32 0, .int .u64 0, .int .u8 65, .int .u32 0, .int .u64 8, .int .u8 116, .int .u32 0, .int .u64 0, .int .u8 16, .int .u32 1, .int .u64 0, .int .u8 114, .int .u32 0, .int .u64 0, .int .u8 11, .int .u32 0, .int .u64 0], 0⟩,
  ⟨[.int .u8 16, .int .u32 0, .int .u64 0, .int .u8 11, .int .u32 0, .int .u64 0], 0⟩]
def mkZ : List Blk → St → St
  | [], s => s
  | x :: l, s => mkZ l (s.new x)
def zAt (pg sl : Value) : St := mkZ (zBlks pg sl) ⟨[], 0, [], []⟩
def slP (n : Nat) : Value := .slice (some ⟨16, 0, none⟩) n 128
def zOne : St := zAt (.int .u64 1) (slP 64)
def zTwo : St := zAt (.int .u64 2) (slP 128)
def zBoth : St := zAt (symv (.int .u64 0) [.chan (some 30)]) (symv .nilIface [.chan (some 31)])
def svI (i : Nat) : Value := symv (.int .i64 0) [.chan (some i)]
def svS (i : Nat) : Value := symv (.slice none 9223372036854775807 0) [.chan (some i)]
def ptr0 (n : Nat) : Value := .pointer (some ⟨n, 0, none⟩)
/- the step's struct -/
def oCells (k a : Value) : List Value := [k, a, svI 3, unk, svS 0, unk]
/- the registers ahead of the step's struct being laid -/
def rAt (nv : Nat) (long : List Nat) (k a : Value) : Rg :=
  ((((((enter nv long []).put 0 (symv .nilIface [.chan (some 40)])).put 3 (ptr0 0)).put 7 (ptr0 1)).put 8 (ptr0 2)).put 9 (svI 8)).put 49 (.agg ⟨oCells k a⟩)

/- what the variables of Z are in a state -/
def cellOf (s : St) (b i : Nat) : List Value :=
  match find b s.heap with
  | some x => match getAt x.cells i with
    | some v => toks v
    | none => []
  | none => []
def bdOf (s : St) : List (Nat × List Value) := [(2, cellOf s 1 0), (20, cellOf s 11 41), (21, cellOf s 12 1)]

def isPtr0 (n : Nat) : Value → Bool
  | .pointer (some p) => Nat.beq p.block n && (Nat.beq p.off 0 && p.spot.isNone)
  | _ => false
def isVar (i : Nat) : Value → Bool
  | .func (.yield _) t _ => eqToks t.toList [.chan (some i)]
  | _ => false
def regsOK (r : Rg) : Bool :=
  isVar 40 (r.get 0) && (isPtr0 0 (r.get 3) && (isPtr0 1 (r.get 7) && (isPtr0 2 (r.get 8) && (isVar 8 (r.get 9) && r.defers.isEmpty))))
/- the state is back at the loop's head: at one page, at two -/
def pagesOf (s : St) : Option Nat :=
  match find 1 s.heap with
  | some x => match x.cells with
    | [_, .int .u64 n] => some n.toNat
    | _ => none
  | none => none
def backOK (s : St) : Bool :=
  match pagesOf s with
  | some n => match Nat.beq n 1 with
    | true => covers zOne s [] (bdOf s)
    | false => Nat.beq n 2 && covers zTwo s [] (bdOf s)
  | none => false
/- .. at either -/
def recell (s : St) (b i : Nat) (v : Value) : St :=
  match find b s.heap with
  | some x => s.setBlk b ⟨setAt x.cells i v, x.kind⟩
  | none => s
def backBoth (s : St) : Bool :=
  match find 1 s.heap, find 3 s.heap with
  | some x, some y => match getAt x.cells 1, getAt y.cells 2 with
    | some a, some b => isVar 30 a && (isVar 31 b && (Nat.ble x.kind 1 && (Nat.ble y.kind 1 && (covers zOne (recell (recell s 1 1 (.int .u64 1)) 3 2 (slP 64)) [] (bdOf s) && covers zTwo (recell (recell s 1 1 (.int .u64 2)) 3 2 (slP 128)) [] (bdOf s)))))
    | _, _ => false
  | _, _ => false

/- the bad ways: their last facts -/
def gather (back : St → Bool) : List Leaf → Option (List (List Value × Bool))
  | [] => some []
  | (.ret, _, s) :: l => match s.facts, gather back l with
    | f :: _, some r => some (f :: r)
    | _, _ => none
  | (.normal, r, s) :: l => match regsOK r && back s with
    | true => gather back l
    | false => none
  | (.exit 1, r, s) :: l => match regsOK r && back s with
    | true => gather back l
    | false => none
  | _ :: _ => none
/- one step of the loop behind 'o := script[i]' -/
def codeAt : List Nat → Code → Code
  | [], c => c
  | 0 :: l, .seq a _ => codeAt l a
  | _ :: l, .seq _ b => codeAt l b
  | _ :: l, .block _ c => codeAt l c
  | _ :: l, .loop c => codeAt l c
  | _ :: _, c => c
def body7 (o : Option Code) (p : List Nat) : Code :=
  match o with
  | some c => codeAt p c
  | none => .skip
/- 'o := script[i]', and what follows it in a round -/
def pReg : List Nat := [1, 1, 1, 1, 1, 1, 0, 1, 0, 0, 1, 0, 0, 0]
def pRest : List Nat := [1, 1, 1, 1, 1, 1, 0, 1, 0, 0, 1, 0, 0, 1]
def opsFrom (n : Nat) : Code → List Oper × List Oper
  | .region _ ops _ => (ops.toList, ops.toList.drop n)
  | _ => ([], [])
def stepLeaves (E : Env) (g n d : Nat) (reg rest : Code) (r : Rg) (s : St) : Option (List Leaf) :=
  match evalOps E (callF E n d) (opsFrom 4 reg).1 (opsFrom 4 reg).2 r s with
  | some l => bindL (evalCode E (callF E n d) g n rest none) (toLeaf l)
  | none => none
def stepRun (E : Env) (reg rest : Code) (back : St → Bool) (Z : St) (k a : Value) (F : List (List Value × Bool)) (V : List (List Value × Value)) : Option (List (List Value × Bool)) :=
  match stepLeaves E 7 3000 60 reg rest (rAt (E.nv 7) (E.long 7) k a) ⟨Z.heap, Z.next, F, V⟩ with
  | some l => gather back l
  | none => none
end Go.Sx
