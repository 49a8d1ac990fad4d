import Derived.Test.Qxb6500274aGreatWSxCov2
import Derived.Test.Qxb6500274aGreatWPrim
namespace Go.Sx
open Go

/- THE STATE AT THE HEAD OF WorldUpTo's LOOP: x is block 0, the book block 1, the host block 6, the trace's array block 17; g0, g1: the book's two texts; hc: the host's cells behind 'bound'; tc: the trace's cells -/
def wBlks (g0 g1 : Value) (hc tc : List Value) : List Blk := [
  ⟨[.pointer (some ⟨2, 0, none⟩), .pointer (some ⟨3, 0, none⟩), .pointer (some ⟨4, 0, none⟩), .pointer (some ⟨5, 0, none⟩), .pointer (some ⟨6, 0, none⟩), .pointer (some ⟨7, 0, none⟩), .pointer (some ⟨8, 0, none⟩), .slice (some ⟨9, 0, none⟩) 2 capU, .slice (some ⟨10, 0, none⟩) 5 capU, .slice (some ⟨11, 0, none⟩) 120 120, unk] ++ (rep [.int .i64 0] 17), 0⟩,
  ⟨[g0, g1], 0⟩,
  ⟨[.int .i64 0, .int .i64 1, .int .i64 1] ++ (rep [.int .i64 0] 5 ++ ([.int .i64 3, .int .u8 2] ++ (rep [.int .u8 0] 5 ++ ([.int .i64 0, .slice (some ⟨12, 0, none⟩) 96 96, .int .i64 6, .slice (some ⟨13, 0, none⟩) 24 24, .int .i64 0, .slice none 0 0, .slice none 0 0, .slice none 0 0])))), 0⟩,
  ⟨[.int .u8 126, .int .u8 126] ++ (rep [.int .u8 0] 9 ++ ([.int .i64 0, .int .u8 2, .int .u8 126, .int .i64 0, .bool false, .int .u8 2, .int .u8 126, .int .i64 0, .bool true, .int .u8 0, .int .u8 0, .int .i64 0, .bool false, .int .u8 0, .int .u8 0, .int .i64 0, .bool false, .int .u8 0, .int .u8 0, .int .i64 0, .bool false, .int .u8 0, .int .u8 0, .int .i64 0, .bool false, .int .u8 0, .int .u8 0, .int .i64 0, .bool false, .int .i64 0, .int .i64 2])), 0⟩,
  ⟨[.slice (some ⟨14, 0, none⟩) 5 121, .int .i64 5, .int .u8 11, .int .i64 0, .int .i64 1, .int .i64 0, .int .i64 0, .int .i64 0, .int .i64 0, .int .u8 2, .int .i64 0, .int .i64 1, .int .i64 1, .int .i64 3, .int .i64 0, .int .i64 0, .int .u8 0] ++ (rep [.int .i64 0] 6 ++ ([.int .u8 0] ++ (rep [.int .i64 0] 6 ++ ([.int .u8 0] ++ (rep [.int .i64 0] 6 ++ ([.int .u8 0] ++ (rep [.int .i64 0] 6 ++ ([.int .u8 0] ++ (rep [.int .i64 0] 7 ++ ([.int .i64 1, .int .i64 0])))))))))), 0⟩,
  ⟨[.slice (some ⟨15, 0, none⟩) 384 384, .bool false, .slice none 0 0, .int .i64 1] ++ (rep [.int .i64 0] 8 ++ ([.int .u64 18446744073709551613, .int .u64 0, .int .u64 0, .int .u64 0, .int .i64 1])), 0⟩,
  ⟨.slice (some ⟨16, 0, none⟩) 2 4 :: hc, 0⟩,
  ⟨[.slice (some ⟨18, 0, none⟩) 2 2, .slice (some ⟨19, 0, none⟩) 2 2, .slice (some ⟨20, 0, none⟩) 3 3, .int .i64 (-1), .int .i64 (-1), .int .i64 (-1), .int .i64 (-1), .slice (some ⟨21, 0, none⟩) 1 1, .slice (some ⟨22, 0, none⟩) 5 5, .int .i64 (-1), .slice none 0 0, .slice none 0 0], 0⟩,
  ⟨[.slice (some ⟨23, 0, none⟩) 3 3], 0⟩,
  ⟨[.int .u8 2, .int .u8 127, .int .u8 126] ++ (rep [.int .u8 0] 8 ++ ([.int .u8 126])), 9⟩,
  ⟨[.int .u8 2, .int .u8 127, .int .u8 126] ++ (rep [.int .u8 0] 8 ++ ([.int .u8 126, .int .u8 2, .int .u8 127, .int .u8 126] ++ (rep [.int .u8 0] 8 ++ ([.int .u8 126] ++ (rep [.int .u8 0] 5 ++ ([.int .u8 126])))))), 9⟩,
  ⟨[unk, unk, unk, unk] ++ (rep [.int .u64 0] 16), 4⟩,
  ⟨[.int .u8 2, .int .u32 126, .int .u64 0, .int .u8 66, .int .u32 0, .int .u64 1, .int .u8 66, .int .u32 0, .int .u64 2, .int .u8 12, .int .u32 0, .int .u64 0, .int .u8 11, .int .u32 0, .int .u64 0, .int .u8 11, .int .u32 0, .int .u64 0, .int .u8 0, .int .u32 0, .int .u64 0, .int .u8 0, .int .u32 0, .int .u64 0, .int .u8 0, .int .u32 0, .int .u64 0, .int .u8 0, .int .u32 0, .int .u64 0, .int .u8 0, .int .u32 0, .int .u64 0, .int .u8 0, .int .u32 0, .int .u64 0, .int .u8 0, .int .u32 0, .int .u64 0, .int .u8 0, .int .u32 0, .int .u64 0, .int .u8 0, .int .u32 0, .int .u64 0, .int .u8 0, .int .u32 0, .int .u64 0, .int .u8 0, .int .u32 0, .int .u64 0, .int .u8 0, .int .u32 0, .int .u64 0, .int .u8 0, .int .u32 0, .int .u64 0, .int .u8 0, .int .u32 0, .int .u64 0], 4⟩,
  ⟨rep [.int .u32 0] 24, 0⟩,
  ⟨[.int .u8 0, .int .u32 0, .int .u64 0, .int .u8 66, .int .u32 0, .int .u64 1, .int .u8 66, .int .u32 0, .int .u64 2, .int .u8 12, .int .u32 3, .int .u64 4294967296, .int .u8 11, .int .u32 0, .int .u64 0, .int .u8 0, .int .u32 0, .int .u64 0, .int .u8 0, .int .u32 0, .int .u64 0, .int .u8 0, .int .u32 0, .int .u64 0, .int .u8 0, .int .u32 0, .int .u64 0, .int .u8 0, .int .u32 0, .int .u64 0, .int .u8 0, .int .u32 0, .int .u64 0, .int .u8 0, .int .u32 0, .int .u64 0, .int .u8 0, .int .u32 0, .int .u64 0, .int .u8 0, .int .u32 0, .int .u64 0, .int .u8 0, .int .u32 0, .int .u64 0, .int .u8 0, .int .u32 0, .int .u64 0, .int .u8 0, .int .u32 0, .int .u64 0, .int .u8 0, .int .u32 0, .int .u64 0, .int .u8 0, .int .u32 0, .int .u64 0, .int .u8 0, .int .u32 0, .int .u64 0], 4⟩,
  ⟨[], 4⟩,
  ⟨[.iface 276 (.agg ⟨[]⟩), .iface 223 (.pointer (some ⟨24, 0, none⟩)), .nilIface, .nilIface], 0⟩,
  ⟨tc, 4⟩,
  ⟨[.string ⟨⟨[127, 126, 58]⟩⟩, .string ⟨⟨[58, 126]⟩⟩], 0⟩,
  ⟨[.string ⟨⟨[101, 110, 118]⟩⟩, .string ⟨⟨[122, 101, 114, 111]⟩⟩, .int .i64 0, .string ⟨⟨[101, 110, 118]⟩⟩, .string ⟨⟨[116, 97, 112, 101]⟩⟩, .int .i64 1], 0⟩,
  ⟨[.int .i64 0, .string ⟨⟨[]⟩⟩, .slice (some ⟨25, 0, none⟩) 4 4, .slice none 0 0, .int .i64 1, .string ⟨⟨[]⟩⟩, .slice (some ⟨26, 0, none⟩) 4 4, .slice none 0 0, .int .i64 1, .string ⟨⟨[]⟩⟩, .slice (some ⟨27, 0, none⟩) 6 6, .slice none 0 0], 0⟩,
  ⟨[.int .u8 126, .bool false, .int .u8 66, .int .u32 0, .int .u64 18446744073709551613], 0⟩,
  ⟨[.string ⟨⟨[108, 111, 103]⟩⟩, .int .u8 0, .int .u32 2, .string ⟨⟨[116, 97, 107, 101]⟩⟩, .int .u8 0, .int .u32 3, .string ⟨⟨[116, 97, 112, 101]⟩⟩, .int .u8 0, .int .u32 1, .string ⟨⟨[99, 97, 114, 114, 121]⟩⟩, .int .u8 0, .int .u32 4, .string ⟨⟨[103]⟩⟩, .int .u8 3, .int .u32 0], 0⟩,
  ⟨[.int .i64 2, .int .i64 2, .int .i64 0, .slice (some ⟨28, 0, none⟩) 4 4, .int .i64 0, .int .i64 0, .int .i64 1, .slice (some ⟨29, 0, none⟩) 4 4, .int .i64 0, .int .i64 0, .int .i64 1, .slice (some ⟨30, 0, none⟩) 4 4], 0⟩,
  ⟨[.func (.func 229) ⟨[.pointer (some ⟨6, 0, none⟩)]⟩ ⟨[]⟩], 0⟩,
  ⟨[.int .u8 32, .int .u32 0, .int .u64 0, .int .u8 32, .int .u32 1, .int .u64 0, .int .u8 16, .int .u32 0, .int .u64 0, .int .u8 11, .int .u32 0, .int .u64 0], 0⟩,
  ⟨[.int .u8 16, .int .u32 1, .int .u64 0, .int .u8 66, .int .u32 0, .int .u64 5, .int .u8 124, .int .u32 0, .int .u64 0, .int .u8 11, .int .u32 0, .int .u64 0], 0⟩,
  ⟨[.int .u8 2, .int .u32 126, .int .u64 0, .int .u8 66, .int .u32 0, .int .u64 1, .int .u8 66, .int .u32 0, .int .u64 2, .int .u8 12, .int .u32 0, .int .u64 0, .int .u8 11, .int .u32 0, .int .u64 0, .int .u8 11, .int .u32 0, .int .u64 0], 0⟩,
  ⟨[.int .u8 32, .int .u32 0, .int .u64 0, .int .u8 32, .int .u32 1, .int .u64 0, .int .u8 16, .int .u32 0, .int .u64 0, .int .u8 11, .int .u32 0, .int .u64 0], 0⟩,
  ⟨[.int .u8 16, .int .u32 1, .int .u64 0, .int .u8 66, .int .u32 0, .int .u64 5, .int .u8 124, .int .u32 0, .int .u64 0, .int .u8 11, .int .u32 0, .int .u64 0], 0⟩,
  ⟨[.int .u8 66, .int .u32 0, .int .u64 1, .int .u8 66, .int .u32 0, .int .u64 2, .int .u8 12, .int .u32 3, .int .u64 4294967296, .int .u8 11, .int .u32 0, .int .u64 0], 0⟩]
def mkZ : List Blk → St → St
  | [], s => s
  | x :: l, s => mkZ l (s.new x)
def zW (g0 g1 : Value) (hc tc : List Value) : St := mkZ (wBlks g0 g1 hc tc) ⟨[], 0, [], []⟩

/- the bytes of the words that are variables v, v + 1, .. -/
def wordB (v k : Nat) : Value := symv (.int .u8 0) [.chan (some v), .slice none 108 k]
def wordBs (v : Nat) : List Value := [wordB v 0, wordB v 1, wordB v 2, wordB v 3, wordB v 4, wordB v 5, wordB v 6, wordB v 7]
def tapeB : Nat → Nat → List Value
  | _, 0 => []
  | v, l + 1 => wordBs v ++ tapeB (v + 1) l
def tapeS (v l : Nat) : Value := mkS (tapeB v l)
def wordVs : Nat → Nat → List Value
  | _, 0 => []
  | v, l + 1 => symv (.int .u64 0) [.chan (some v)] :: wordVs (v + 1) l
/- the trace's bytes: variables v, v + 1, .. -/
def traceVs : Nat → Nat → List Value
  | _, 0 => []
  | v, n + 1 => symv (.int .u8 0) [.chan (some v)] :: traceVs (v + 1) n

def iI (n : Nat) : Value := .int .i64 (Int.ofNat n)
def tapeCells (l h : Nat) : List Value := rep [unk] h ++ (wordVs 100 l ++ (rep [unk] (6 - h - l) ++ [iI h, iI l]))
def traceCells (t : Nat) : List Value := [.slice (some ⟨17, 0, none⟩) t 864, iI (match t with | 0 => 0 | _ => 1)]
def anyTrace : List Value := [.func (.yield 1) ⟨[.slice (some ⟨17, 0, none⟩) 0 864]⟩ ⟨[.pointer none]⟩, unk]

/- l words on the tape, its head h, t bytes of trace -/
def zL (l h t : Nat) : St := zW (tapeS 100 l) (mkS (traceVs 200 t)) (tapeCells l h ++ traceCells t) (traceVs 200 t ++ rep [unk] (38 - t))
/- the trace left open -/
def zG (l h : Nat) : St := zW (tapeS 100 l) unk (tapeCells l h ++ anyTrace) (rep [unk] 38)
/- the tape left open -/
def zT (t : Nat) : St := zW unk (mkS (traceVs 200 t)) (rep [unk] 8 ++ traceCells t) (traceVs 200 t ++ rep [unk] (38 - t))

def ok3 (l h t : Nat) : Bool := Nat.ble (l + h) 6 && (Nat.beq t 0 || (Nat.beq t 4 || Nat.beq t 38))

/- where the variables of zL l h t lie  -/
def spW : Nat → Nat → Nat → List (Nat × Nat × Nat)
  | _, _, 0 => []
  | v, j, l + 1 => (v, 6, j) :: spW (v + 1) (j + 1) l
def spT : Nat → Nat → List (Nat × Nat × Nat)
  | _, 0 => []
  | j, n + 1 => (200 + j, 17, j) :: spT (j + 1) n
def spOf (l h t : Nat) : List (Nat × Nat × Nat) := spW 100 (1 + h) l ++ spT 0 t
def cellOf (s : St) (b i : Nat) : Option Value :=
  match find b s.heap with
  | some x => match Nat.beq x.kind 2 with
    | true => none
    | false => getAt x.cells i
  | none => none
def bdRows (s : St) : List (Nat × Nat × Nat) → List (Nat × List Value)
  | [] => []
  | p :: l => (p.1, match cellOf s p.2.1 p.2.2 with | some v => toks v | none => []) :: bdRows s l
def bdOK (s : St) : List (Nat × Nat × Nat) → Bool
  | [] => true
  | p :: l => (match cellOf s p.2.1 p.2.2 with
    | some v => (kindI v).isSome && inR v
    | none => false) && bdOK s l

/- the shape of the host in a state -/
def hostOf (s : St) : Option (Nat × Nat × Nat) :=
  match find 6 s.heap with
  | some x => match getAt x.cells 7, getAt x.cells 8, getAt x.cells 9 with
    | some (.int _ h), some (.int _ l), some (.slice _ t _) => some (l.toNat, h.toNat, t)
    | _, _, _ => none
  | none => none
def backAt (m : List Nat) (l h t : Nat) (s : St) : Bool :=
  ok3 l h t && (Nat.beq (rho m 0) 0 && (Nat.beq (rho m 1) 1 && (bdOK s (spOf l h t) && covers (zL l h t) s m (bdRows s (spOf l h t)))))
def backW (m : List Nat) (s : St) : Bool :=
  match hostOf s with
  | some p => backAt m p.1 p.2.1 p.2.2 s
  | none => false

def svI (i : Nat) : Value := symv (.int .i64 0) [.chan (some i)]
def svS (i : Nat) : Value := symv (.slice none 9223372036854775807 0) [.chan (some i)]
def ptr0 (n : Nat) : Value := .pointer (some ⟨n, 0, none⟩)
def rHead (nv : Nat) (long : List Nat) : Rg :=
  ((((enter nv long []).put 0 (symv .nilIface [.chan (some 40)])).put 3 (ptr0 0)).put 5 (ptr0 1)).put 6 (svI 8)
/- the registers ahead of the step's struct being laid -/
def rAt (nv : Nat) (long : List Nat) (k st : Value) : Rg := (rHead nv long).put 51 (.agg ⟨[k, svI 1, unk, unk, st, unk]⟩)
def isPtr0 (n : Nat) : Value → Bool
  | .pointer (some p) => Nat.beq p.block n && (Nat.beq p.off 0 && p.spot.isNone)
  | _ => false
def isVar (i : Nat) : Value → Bool
  | .func (.yield _) t sh => !isStrSh sh.toList && eqToks t.toList [.chan (some i)]
  | _ => false
def regsOK (r : Rg) : Bool :=
  isVar 40 (r.get 0) && (isPtr0 0 (r.get 3) && (isPtr0 1 (r.get 5) && (isVar 8 (r.get 6) && r.defers.isEmpty)))

/- every way comes back to the loop's head -/
def allBack (m : List Nat) : List Leaf → Bool
  | [] => true
  | (.normal, r, s) :: l => regsOK r && (backW m s && allBack m l)
  | (.exit 1, r, s) :: l => regsOK r && (backW m s && allBack m l)
  | _ :: _ => false
/- .. of the very shape -/
def allAt (l h t : Nat) : List Leaf → Bool
  | [] => true
  | (.normal, r, s) :: q => regsOK r && (backAt [] l h t s && allAt l h t q)
  | (.exit 1, r, s) :: q => regsOK r && (backAt [] l h t s && allAt l h t q)
  | _ :: _ => false

def codeAt : List Nat → Code → Code
  | [], c => c
  | 0 :: l, .seq a _ => codeAt l a
  | _ :: l, .seq _ b => codeAt l b
  | _ :: l, .block _ c => codeAt l c
  | _ :: l, .loop c => codeAt l c
  | 0 :: l, .cond _ x _ => codeAt l x
  | _ :: _, c => c
def bodyAt (o : Option Code) (p : List Nat) : Code :=
  match o with
  | some c => codeAt p c
  | none => .skip
def pB0 : List Nat := [1, 1, 1, 1, 1, 1, 1, 1, 1, 1, 0, 1]
def pLoop : List Nat := pB0 ++ [0, 0]
def pTest : List Nat := pLoop ++ [0]
def pNext : List Nat := pLoop ++ [1, 1]
def pIn : List Nat := pLoop ++ [1, 0, 0]
/- 'i >= 0', the way behind it, 'o := script[i]' and what follows; then Show and Spelt -/
def pR18 : List Nat := pIn ++ [0, 0]
def pReg : List Nat := pIn ++ [0, 1, 0, 0]
def pRest : List Nat := pIn ++ [0, 1, 0, 1]
def pShow : List Nat := pIn ++ [1]
def opsFrom (n : Nat) : Code → List Oper × List Oper
  | .region _ ops _ => (ops.toList, ops.toList.drop n)
  | _ => ([], [])
def stepLeaves (E : Env) (g n d : Nat) (reg rest : Code) (r : Rg) (s : St) : Option (List Leaf) :=
  match evalOps E (callF E n d) (opsFrom 4 reg).1 (opsFrom 4 reg).2 r s with
  | some l => bindL (evalCode E (callF E n d) g n rest none) (toLeaf l)
  | none => none
def stepRun (E : Env) (reg rest : Code) (good : List Leaf → Bool) (Z : St) (k st : Value) (F : List (List Value × Bool)) : Bool :=
  match stepLeaves E 8 3000 60 reg rest (rAt (E.nv 8) (E.long 8) k st) ⟨Z.heap, Z.next, F, []⟩ with
  | some l => good l
  | none => false
def showRun (E : Env) (c : Code) (l h t : Nat) : Bool :=
  match evalCode E (callF E 3000 60) 8 3000 c none (rHead (E.nv 8) (E.long 8)) ⟨(zL l h t).heap, (zL l h t).next, [], []⟩ with
  | some q => allAt l h t q
  | none => false

/- the cases of a step -/
def kI (n : Int) : Value := .int .i64 n
def pgLen (o : Nat) (n : Int) : List Value := [.chan (some 0), .slice none 101 0, .int .i64 n, .slice none o 0]
def pgRem : List Value := [.chan (some 0), .slice none 101 0, .int .i64 8, .slice none 4 0, .int .i64 0, .slice none 12 0]
def fLong : List (List Value × Bool) := [(pgLen 15 32, true)]
def fOther (c : Int) : List (List Value × Bool) := [(pgLen 15 32, false), (pgLen 12 c, true)]
def fShort : List (List Value × Bool) := [(pgLen 15 32, false)]
def fTapeL : List (List Value × Bool) := [(pgLen 15 48, true)]
def fTapeX : List (List Value × Bool) := [(pgLen 15 48, false), (pgRem, true)]
def fLow : List (List Value × Bool) := [([.chan (some 50), .int .i64 1, .slice none 13 0], true)]
def fHigh : List (List Value × Bool) := [([.chan (some 50), .int .i64 7, .slice none 15 0], true)]
/- those that change nothing -/
def stillCases : List (Value × List (List Value × Bool)) := [(kI 2, fLong), (kI 2, fOther 16), (kI 3, fLong), (kI 3, fOther 0), (kI 4, fLong), (kI 4, fOther 0), (kI 6, fLong), (kI 6, fOther 0), (kI 7, fLong), (kI 7, fShort), (kI 1, fTapeL), (kI 1, fTapeX), (svI 50, fLow), (svI 50, fHigh)]
def stillRun (E : Env) (reg rest : Code) (l h t : Nat) : Bool := stillCases.all (fun c => stepRun E reg rest (allAt l h t) (zL l h t) c.1 (svS 0) c.2)
def emptyS : Value := .string ⟨⟨[]⟩⟩
/- those that a load, a call make -/
def loadMap : List Nat := [0, 1, 2, 3, 4, 5, 6, 39, 122, 195, 205, 11, 12, 13, 14, 15, 16, 17, 41, 42, 49, 43, 48, 123, 184, 63, 77, 97, 140, 157, 180]
def moveRun (E : Env) (reg rest : Code) (l h : Nat) : Bool :=
  stepRun E reg rest (allBack []) (zG l h) (kI 2) (tapeS 110 2) [] && (stepRun E reg rest (allBack []) (zG l h) (kI 3) emptyS [] && (stepRun E reg rest (allBack []) (zG l h) (kI 4) emptyS [] && stepRun E reg rest (allBack []) (zG l h) (kI 6) emptyS []))
def loadRun (E : Env) (reg rest : Code) (l h : Nat) : Bool := stepRun E reg rest (allBack loadMap) (zG l h) (kI 5) (svS 0) []
def tapeRun (E : Env) (reg rest : Code) (t n : Nat) : Bool := stepRun E reg rest (allBack []) (zT t) (kI 1) (tapeS 110 n) []
end Go.Sx
