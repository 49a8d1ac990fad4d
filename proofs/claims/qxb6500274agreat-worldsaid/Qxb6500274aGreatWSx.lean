import Derived.Defers
namespace Go.Sx

/- THE ABSTRACT EVALUATOR. Abstract values are 'Value's: '.chan none': anything; '.chan (some i)': symbol i; block numbers are virtual. -/

structure Blk where
  cells : List Value
  kind : Nat

structure TI where
  desc : TypeDesc
  size : Nat
  agg : Bool
  zero : List Value

/- blocks by number, in eight times eight lists -/
abbrev Heap := List (List (List (Nat × Blk)))

structure St where
  heap : Heap
  next : Nat
  facts : List (List Value × Bool)
  vals : List (List Value × Value)

/- what the evaluator knows of the program -/
structure Env where
  ti : Nat → Option TI
  fn : Nat → Option Func
  meth : Nat → String → Option Nat
  impl : Nat → Nat → Option Bool
  nv : Nat → Nat
  long : Nat → List Nat
  calm : Nat → Bool
  flat : Nat → Bool
  bad : Nat → Nat → Bool
  quiet : Nat → Bool
  prim : Nat → Option (List Value → St → Option (List (Value × St)))

structure Rg where
  nv : Nat
  vars : List Value
  long : List (Nat × Value)
  tmps : List (Nat × Value)
  defers : List Value

/- a table's row -/
def row {α : Type} (t : Nat) : List (Nat × α) → Option α
  | [] => none
  | x :: l => match Nat.beq x.1 t with
    | true => some x.2
    | false => row t l

def rowD {α : Type} (d : α) (t : Nat) : List (Nat × α) → α
  | [] => d
  | x :: l => match Nat.beq x.1 t with
    | true => x.2
    | false => rowD d t l

/- one cell, anything in it -/
def unk : Value := .chan none
/- a slot of which nothing is known -/
def any : Value := .complex .f32 0 0

/- an unknown capacity -/
def capU : Nat := 18446744073709551616

def findL (b : Nat) : List (Nat × Blk) → Option Blk
  | [] => none
  | x :: l => match Nat.beq x.1 b with
    | true => some x.2
    | false => findL b l

def nthL {α : Type} : Nat → List (List α) → List α
  | _, [] => []
  | 0, x :: _ => x
  | n + 1, _ :: l => nthL n l

def setL {α : Type} (v : List α) : Nat → List (List α) → List (List α)
  | 0, [] => [v]
  | 0, _ :: l => v :: l
  | n + 1, [] => [] :: setL v n []
  | n + 1, x :: l => x :: setL v n l

def find (b : Nat) (h : Heap) : Option Blk := findL b (nthL (b / 8 % 8) (nthL (b % 8) h))

def inHeap (b : Nat) (f : List (Nat × Blk) → List (Nat × Blk)) (h : Heap) : Heap :=
  setL (setL (f (nthL (b / 8 % 8) (nthL (b % 8) h))) (b / 8 % 8) (nthL (b % 8) h)) (b % 8) h

def drop1 (b : Nat) : List (Nat × Blk) → List (Nat × Blk)
  | [] => []
  | x :: l => match Nat.beq x.1 b with
    | true => l
    | false => x :: drop1 b l

def dropAll (b : Nat) : List (Nat × Blk) → List (Nat × Blk)
  | [] => []
  | x :: l => match Nat.beq x.1 b with
    | true => dropAll b l
    | false => x :: dropAll b l

def getAt : List Value → Nat → Option Value
  | [], _ => none
  | x :: _, 0 => some x
  | _ :: l, n + 1 => getAt l n

def setAt : List Value → Nat → Value → List Value
  | [], _, _ => []
  | _ :: l, 0, v => v :: l
  | x :: l, n + 1, v => x :: setAt l n v

/- n cells from the head -/
def takeN : List Value → Nat → Option (List Value)
  | _, 0 => some []
  | [], _ + 1 => none
  | x :: l, n + 1 => match takeN l n with
    | some r => some (x :: r)
    | none => none

def cellsAt : List Value → Nat → Nat → Option (List Value)
  | l, 0, n => takeN l n
  | [], _ + 1, _ => none
  | _ :: l, o + 1, n => cellsAt l o n

/- lay vs over the head -/
def layN : List Value → List Value → Option (List Value)
  | l, [] => some l
  | [], _ :: _ => none
  | _ :: l, v :: vs => match layN l vs with
    | some r => some (v :: r)
    | none => none

def layAt : List Value → Nat → List Value → Option (List Value)
  | l, 0, vs => layN l vs
  | [], _ + 1, _ => none
  | x :: l, o + 1, vs => match layAt l o vs with
    | some r => some (x :: r)
    | none => none

def lookTmp (t : Nat) : List (Nat × Value) → Option Value
  | [] => none
  | x :: l => match Nat.beq x.1 t with
    | true => some x.2
    | false => lookTmp t l

/- the slot's value turned, where the slot is listed -/
def turn (t : Nat) (v : Value) : List (Nat × Value) → Option (List (Nat × Value))
  | [] => none
  | x :: l => match Nat.beq x.1 t with
    | true => some ((t, v) :: l)
    | false => match turn t v l with
      | some r => some (x :: r)
      | none => none

def Rg.get (r : Rg) (t : Nat) : Value :=
  match Nat.ble r.nv t with
  | true => match lookTmp t r.long with
    | some v => v
    | none => match lookTmp t r.tmps with
      | some v => v
      | none => any
  | false => match getAt r.vars t with
    | some v => v
    | none => any

def Rg.put (r : Rg) (t : Nat) (v : Value) : Rg :=
  match Nat.ble r.nv t with
  | true => match turn t v r.long with
    | some l => ⟨r.nv, r.vars, l, r.tmps, r.defers⟩
    | none => ⟨r.nv, r.vars, r.long, (t, v) :: r.tmps, r.defers⟩
  | false => ⟨r.nv, setAt r.vars t v, r.long, r.tmps, r.defers⟩

def Rg.putO (r : Rg) (d : Option Nat) (v : Value) : Rg :=
  match d with
  | some t => r.put t v
  | none => r

/- constants that stand for themselves -/
def plain : Value → Bool
  | .bool _ => true
  | .int _ _ => true
  | .float _ _ => true
  | .string _ => true
  | .pointer none => true
  | .slice none _ _ => true
  | .map none => true
  | .nilFunc => true
  | .nilIface => true
  | _ => false

def plainR : Value → Bool
  | .agg c => c.toList.all plain
  | v => plain v

def Rg.eval (r : Rg) : Operand → Value
  | .tmp t => r.get t
  | .const v => match plainR v with
    | true => v
    | false => any
  | .global _ => any
  | .func f => .func (.func f) #[] #[]

def St.blk (s : St) (b : Nat) : Option Blk := find b s.heap
def St.setBlk (s : St) (b : Nat) (x : Blk) : St := ⟨inHeap b (fun l => (b, x) :: drop1 b l) s.heap, s.next, s.facts, s.vals⟩
def St.new (s : St) (x : Blk) : St := ⟨inHeap s.next (fun l => (s.next, x) :: l) s.heap, s.next + 1, s.facts, s.vals⟩
def St.kill (s : St) (b : Nat) : St := ⟨inHeap b (dropAll b) s.heap, s.next, s.facts, s.vals⟩

def cellsOf : Value → List Value
  | .agg c => c.toList
  | v => [v]

def isCells (k : Nat) : Bool := !Nat.beq k 2

/- fit for a cell -/
def okC1 : Value → Bool
  | .agg _ => false
  | .tuple _ => false
  | .complex _ _ _ => false
  | _ => true

/- fit for the inside of a function value -/
def okC0 : Value → Bool
  | .agg _ => false
  | .tuple _ => false
  | .complex _ _ _ => false
  | .iface _ _ => false
  | .func (.yield _) _ _ => true
  | .func _ _ _ => false
  | _ => true

/- fit for the inside of an interface value -/
def okCI : Value → Bool
  | .agg c => c.isEmpty
  | .tuple _ => false
  | .complex _ _ _ => false
  | .iface _ _ => false
  | .func (.func _) a b => a.isEmpty && b.isEmpty
  | .func _ _ _ => false
  | _ => true

/- fit for a variable -/
def okR0 : Value → Bool
  | .tuple _ => false
  | .complex _ _ _ => false
  | _ => true

def loadN (s : St) (a : Addr) (n : Nat) : Option (List Value) :=
  match s.blk a.block with
  | some b => match isCells b.kind with
    | true => cellsAt b.cells a.off n
    | false => none
  | none => none

def storeN (s : St) (a : Addr) (vs : List Value) : Option St :=
  match s.blk a.block with
  | some b => match isCells b.kind with
    | true => match layAt b.cells a.off vs with
      | some c => some (s.setBlk a.block ⟨c, b.kind⟩)
      | none => none
    | false => none
  | none => none

def one (v : Value) (s : St) : Option (List (Value × St)) := some [(v, s)]

def newBlk (s : St) (c : List Value) (k : Nat) : Addr × St := (⟨s.next, 0, none⟩, s.new ⟨c, k⟩)

def addA (a : Addr) (n : Nat) : Addr := ⟨a.block, a.off + n, none⟩

/- integers -/
def ibin (op : BinOp) (k : IntKind) (a b : Int) : Option Value :=
  match op with
  | .add => some (.int k (k.wrap (a + b)))
  | .sub => some (.int k (k.wrap (a - b)))
  | .mul => some (.int k (k.wrap (a * b)))
  | .quo => if b = 0 then none else some (.int k (k.wrap (a.tdiv b)))
  | .rem => if b = 0 then none else some (.int k (a.tmod b))
  | .and => some (.int k (k.wrap (BitVec.ofInt k.bits a &&& BitVec.ofInt k.bits b).toNat))
  | .or => some (.int k (k.wrap (BitVec.ofInt k.bits a ||| BitVec.ofInt k.bits b).toNat))
  | .xor => some (.int k (k.wrap (BitVec.ofInt k.bits a ^^^ BitVec.ofInt k.bits b).toNat))
  | .andNot => some (.int k (k.wrap (BitVec.ofInt k.bits a &&& ~~~ (BitVec.ofInt k.bits b)).toNat))
  | .eql => some (.bool (a == b))
  | .neq => some (.bool (a != b))
  | .lss => some (.bool (decide (a < b)))
  | .leq => some (.bool (decide (a ≤ b)))
  | .gtr => some (.bool (decide (a > b)))
  | .geq => some (.bool (decide (a ≥ b)))
  | _ => none

def ishift (op : BinOp) (k : IntKind) (a b : Int) : Option Value :=
  if b < 0 then none else
  match op with
  | .shl => some (.int k (k.wrap (a * 2 ^ (min b.toNat k.bits))))
  | .shr => some (.int k (a.fdiv (2 ^ (min b.toNat k.bits))))
  | _ => none

def sbin (op : BinOp) (a b : ByteArray) : Option Value :=
  match op with
  | .add => if a.data.toList.length + b.data.toList.length < 4294967296 then some (.string ⟨⟨a.data.toList ++ b.data.toList⟩⟩) else none
  | .eql => some (.bool (a.data.toList == b.data.toList))
  | .neq => some (.bool (!(a.data.toList == b.data.toList)))
  | _ => none

/- equality of plain cells -/
def eqCell : Value → Value → Option Bool
  | .bool a, .bool b => some (a == b)
  | .int j a, .int k b => if j = k then some (a == b) else none
  | .string a, .string b => some (a.data.toList == b.data.toList)
  | _, _ => none

def eqCells : List Value → List Value → Option Bool
  | [], [] => some true
  | a :: x, b :: y => match eqCell a b with
    | some true => eqCells x y
    | some false => some false
    | none => none
  | _, _ => none

/- against nil; two truth values -/
def eqNil : TypeDesc → Value → Value → Option Bool
  | .bool, .bool a, .bool b => some (a == b)
  | .pointer _, .pointer none, .pointer none => some true
  | .pointer _, .pointer none, .pointer (some _) => some false
  | .pointer _, .pointer (some _), .pointer none => some false
  | .func _ _ _, .nilFunc, .nilFunc => some true
  | .func _ _ _, .func (.func _) _ _, .nilFunc => some false
  | .func _ _ _, .nilFunc, .func (.func _) _ _ => some false
  | _, _, _ => none

/- cells of the kinds of z -/
def likeC : Value → Value → Bool
  | .int k _, .int k' _ => decide (k = k')
  | .string _, .string _ => true
  | .bool _, .bool _ => true
  | _, _ => false

def likeL (f : Value → Value → Bool) : List Value → List Value → Bool
  | [], [] => true
  | z :: l, v :: m => match f z v with
    | true => likeL f l m
    | false => false
  | _, _ => false

def fitsT (f : Value → Value → Bool) (E : Env) (t : Nat) (a b : List Value) : Bool :=
  match E.flat t, E.ti t with
  | true, some i => likeL f i.zero a && likeL f i.zero b
  | _, _ => false

def eqVals (E : Env) (t : Nat) (x y : Value) : Option Bool :=
  match x, y with
  | .agg a, .agg b => match fitsT likeC E t a.toList b.toList with
    | true => eqCells a.toList b.toList
    | false => none
  | x, y => match E.ti t with
    | some i => eqNil i.desc x y
    | none => none

def abin (E : Env) (t : Nat) (op : BinOp) (x y : Value) : Option Value :=
  match op, x, y with
  | .shl, .int k a, .int _ b => ishift .shl k a b
  | .shr, .int k a, .int _ b => ishift .shr k a b
  | op, .int k a, .int k' b => if k = k' then ibin op k a b else none
  | op, .string a, .string b => sbin op a b
  | .eql, x, y => match eqVals E t x y with
    | some b => some (.bool b)
    | none => none
  | .neq, x, y => match eqVals E t x y with
    | some b => some (.bool (!b))
    | none => none
  | _, _, _ => none

def aun (op : UnOp) (x : Value) : Option Value :=
  match op, x with
  | .neg, .int k n => ibin .sub k 0 n
  | .xor, .int k n => ibin .xor k (if k.signed then -1 else k.max) n
  | .not, .bool b => some (.bool (!b))
  | _, _ => none

/- SYMBOLIC VALUES: '.func (.yield _) toks shape': a program for a stack machine; the shape: '.int k _', '.bool _', '.slice _ m _' (a string of at most m bytes). -/
def symv (sh : Value) (t : List Value) : Value := .func (.yield 0) ⟨t⟩ #[sh]

def opN : BinOp → Nat
  | .add => 0 | .sub => 1 | .mul => 2 | .quo => 3 | .rem => 4 | .and => 5 | .or => 6 | .xor => 7 | .shl => 8 | .shr => 9 | .andNot => 10
  | .eql => 11 | .neq => 12 | .lss => 13 | .leq => 14 | .gtr => 15 | .geq => 16

def kindN : IntKind → Nat
  | .i8 => 0 | .i16 => 1 | .i32 => 2 | .i64 => 3 | .u8 => 4 | .u16 => 5 | .u32 => 6 | .u64 => 7

/- the kind of an integer -/
def kindI : Value → Option IntKind
  | .int k _ => some k
  | .func (.yield _) _ sh => match sh.toList with
    | [.int k _] => some k
    | _ => none
  | _ => none

/- the most bytes of a string -/
def mostS : Value → Option Nat
  | .string s => some s.data.toList.length
  | .func (.yield _) _ sh => match sh.toList with
    | [.slice _ m _] => some m
    | _ => none
  | _ => none

def toks : Value → List Value
  | .func (.yield _) t _ => t.toList
  | v => [v]

/- the program of a symbolic truth value -/
def boolS : Value → Option (List Value)
  | .func (.yield _) t sh => match sh.toList with
    | [.bool _] => some t.toList
    | _ => none
  | _ => none

def eqTok : Value → Value → Bool
  | .int j a, .int k b => Nat.beq (kindN j) (kindN k) && (a == b)
  | .bool a, .bool b => a == b
  | .string a, .string b => a.data.toList == b.data.toList
  | .slice none a b, .slice none c d => Nat.beq a c && Nat.beq b d
  | .chan (some a), .chan (some b) => Nat.beq a b
  | _, _ => false

def eqToks : List Value → List Value → Bool
  | [], [] => true
  | a :: x, b :: y => match eqTok a b with
    | true => eqToks x y
    | false => false
  | _, _ => false

def look (t : List Value) : List (List Value × Bool) → Option Bool
  | [] => none
  | x :: l => match eqToks x.1 t with
    | true => some x.2
    | false => look t l

/- what a program is known to answer -/
def lookV (t : List Value) : List (List Value × Value) → Option Value
  | [] => none
  | x :: l => match eqToks x.1 t with
    | true => some x.2
    | false => lookV t l

def isStrSh : List Value → Bool
  | [.string _] => true
  | _ => false

def known (vs : List (List Value × Value)) (v : Value) : Value :=
  match vs with
  | [] => v
  | _ => match v with
    | .func (.yield n) t sh => match isStrSh sh.toList with
      | true => .func (.yield n) t sh
      | false => match lookV t.toList vs with
        | some c => c
        | none => .func (.yield n) t sh
    | v => v

/- one fact more on variable i, of kind k, which lies in lo .. hi -/
def narrow (i : Nat) (k : IntKind) (t : List Value) (b : Bool) (p : Int × Int) : Int × Int :=
  match t with
  | [.chan (some j), .int k' c, .slice none o _] => match Nat.beq i j && decide (k = k') with
    | false => p
    | true => match o, b with
      | 11, true => (c, c)
      | 13, true => (p.1, min p.2 (c - 1))
      | 13, false => (max p.1 c, p.2)
      | 15, true => (max p.1 (c + 1), p.2)
      | 15, false => (p.1, min p.2 c)
      | 16, true => (max p.1 c, p.2)
      | 16, false => (p.1, min p.2 (c - 1))
      | 11, false => (if p.1 = c then c + 1 else p.1, p.2)
      | _, _ => p
  | [.chan (some j), .int k' a, .slice none 1 _, .int k'' c, .slice none 11 _] => match Nat.beq i j && (decide (k = k') && decide (k = k'')) && (decide (k.wrap (c + a) = c + a) && decide (k.wrap c = c)) with
    | false => p
    | true => match b with
      | true => (c + a, c + a)
      | false => (if p.1 = c + a then c + a + 1 else p.1, p.2)
  | _ => p

def bounds (i : Nat) (k : IntKind) : List (List Value × Bool) → Int × Int
  | [] => (k.min, k.max)
  | x :: l => narrow i k x.1 x.2 (bounds i k l)

/- x in lo .. hi held against c -/
def decI (o : Nat) (lo hi c : Int) : Option Bool :=
  match o with
  | 11 => if lo = c ∧ hi = c then some true else if c < lo ∨ hi < c then some false else none
  | 12 => if lo = c ∧ hi = c then some false else if c < lo ∨ hi < c then some true else none
  | 13 => if hi < c then some true else if c ≤ lo then some false else none
  | 14 => if hi ≤ c then some true else if c < lo then some false else none
  | 15 => if c < lo then some true else if hi ≤ c then some false else none
  | 16 => if c ≤ lo then some true else if hi < c then some false else none
  | _ => none

/- the truth of a program, by the facts -/
def dec (fs : List (List Value × Bool)) (t : List Value) : Option Bool :=
  match t with
  | [.chan (some i), .int k c, .slice none o _] => decI o (bounds i k fs).1 (bounds i k fs).2 c
  | [.chan (some i), .int k a, .slice none 1 _, .int k' c, .slice none o _] => match decide (k = k') && decide (k.min ≤ (bounds i k fs).1 - a) && decide ((bounds i k fs).2 - a ≤ k.max) with
    | true => decI o ((bounds i k fs).1 - a) ((bounds i k fs).2 - a) c
    | false => look t fs
  | t => look t fs

def compares : BinOp → Bool
  | .eql | .neq | .lss | .leq | .gtr | .geq => true
  | _ => false

def nonNeg (k : IntKind) : Value → Bool
  | .int _ n => decide (0 ≤ n)
  | _ => !k.signed

/- surely not zero -/
def nonZero (fs : List (List Value × Bool)) (k : IntKind) : Value → Bool
  | .int _ n => decide (n ≠ 0)
  | v => match dec fs (toks v ++ [.int k 0, .slice none 11 0]) with
    | some false => true
    | _ => false

/- surely within its kind's range -/
def inR : Value → Bool
  | .int k n => decide (k.wrap n = n)
  | _ => true

def symBin (fs : List (List Value × Bool)) (op : BinOp) (x y : Value) : Option Value :=
  match kindI x, kindI y with
  | some k, some k' => match op with
    | .shl => match nonNeg k' y with
      | true => some (symv (.int k 0) (toks x ++ (toks y ++ [.slice none 8 0])))
      | false => none
    | .shr => match nonNeg k' y && inR x with
      | true => some (symv (.int k 0) (toks x ++ (toks y ++ [.slice none 9 0])))
      | false => none
    | .quo => match decide (k = k') && nonZero fs k y with
      | true => some (symv (.int k 0) (toks x ++ (toks y ++ [.slice none 3 0])))
      | false => none
    | .rem => match decide (k = k') && nonZero fs k y && inR x with
      | true => some (symv (.int k 0) (toks x ++ (toks y ++ [.slice none 4 0])))
      | false => none
    | .sub => match decide (k = k') with
      | true => match toks x, y with
        | [.chan (some i), .int k1 a, .slice none 1 z], .int _ c => match decide (k = k1) with
          | true => some (symv (.int k 0) [.chan (some i), .int k1 (a + c), .slice none 1 z])
          | false => some (symv (.int k 0) (toks x ++ (toks y ++ [.slice none 1 0])))
        | _, _ => some (symv (.int k 0) (toks x ++ (toks y ++ [.slice none 1 0])))
      | false => none
    | op => match decide (k = k') with
      | true => some (symv (match compares op with | true => .bool false | false => .int k 0) (toks x ++ (toks y ++ [.slice none (opN op) 0])))
      | false => none
  | _, _ => match mostS x, mostS y with
    | some m, some m' => match op with
      | .add => match Nat.ble (m + m') 4294967295 with
        | true => some (symv (.slice none (m + m') 0) (toks x ++ (toks y ++ [.slice none 0 0])))
        | false => none
      | .eql => some (symv (.bool false) (toks x ++ (toks y ++ [.slice none 11 0])))
      | .neq => some (symv (.bool false) (toks x ++ (toks y ++ [.slice none 12 0])))
      | _ => none
    | _, _ => none

/- two cells held against each other -/
def pairS (a b : Value) : Option (List Value) :=
  match kindI a, kindI b with
  | some k, some k' => match decide (k = k') with
    | true => some (toks a ++ (toks b ++ [.slice none 11 0]))
    | false => none
  | _, _ => match mostS a, mostS b with
    | some _, some _ => some (toks a ++ (toks b ++ [.slice none 11 0]))
    | _, _ => none

def both : List Value → List Value → List Value
  | [], t => t
  | acc, t => acc ++ (t ++ [.slice none 103 0])

/- two rows of cells: told, or a program -/
def eqS (fs : List (List Value × Bool)) : List Value → List Value → List Value → Option (Sum Bool (List Value))
  | [], [], acc => match acc with
    | [] => some (.inl true)
    | _ => some (.inr acc)
  | a :: x, b :: y, acc => match eqCell a b with
    | some true => eqS fs x y acc
    | some false => some (.inl false)
    | none => match pairS a b with
      | none => none
      | some t => match eqToks (toks a) (toks b) with
        | true => eqS fs x y acc
        | false => match dec fs t with
          | some true => eqS fs x y acc
          | some false => some (.inl false)
          | none => eqS fs x y (both acc t)
  | _, _, _ => none

def likeS : Value → Value → Bool
  | .int k _, v => match kindI v with
    | some k' => decide (k = k')
    | none => false
  | .string _, v => (mostS v).isSome
  | z, v => likeC z v

def symAgg (E : Env) (fs : List (List Value × Bool)) (t : Nat) (op : BinOp) (x y : Value) : Option Value :=
  match x, y with
  | .agg a, .agg b => match fitsT likeS E t a.toList b.toList with
   | false => none
   | true => match op, eqS fs a.toList b.toList [] with
    | .eql, some (.inl c) => some (.bool c)
    | .eql, some (.inr p) => some (symv (.bool false) p)
    | .neq, some (.inl c) => some (.bool (!c))
    | .neq, some (.inr p) => some (symv (.bool false) (p ++ [.slice none 102 0]))
    | _, _ => none
  | _, _ => none

def symUn (op : UnOp) (x : Value) : Option Value :=
  match op with
  | .not => match boolS x with
    | some t => some (symv (.bool false) (t ++ [.slice none 102 0]))
    | none => none
  | .xor => match kindI x with
    | some k => some (symv (.int k 0) ((.int k (if k.signed then -1 else k.max)) :: (toks x ++ [.slice none 7 0])))
    | none => none
  | .neg => match kindI x with
    | some k => some (symv (.int k 0) ((.int k 0) :: (toks x ++ [.slice none 1 0])))
    | none => none
  | _ => none

def symMax (mx : Bool) : List Value → Option Value
  | [x, y] => match kindI x, kindI y with
    | some k, some k' => match decide (k = k') && (inR x && inR y) with
      | true => some (symv (.int k 0) (toks x ++ (toks y ++ [.slice none (match mx with | true => 104 | false => 105) 0])))
      | false => none
    | _, _ => none
  | _ => none

def symConv (d : TypeDesc) (x : Value) : Option Value :=
  match d, kindI x with
  | .int k, some _ => some (symv (.int k 0) (toks x ++ [.slice none 100 (kindN k)]))
  | _, _ => none

/- a truth value, told by the facts where it is symbolic -/
def truth (fs : List (List Value × Bool)) : Value → Option Bool
  | .bool b => some b
  | v => match boolS v with
    | some t => dec fs t
    | none => none

def fillParts (size : Nat → Option (Nat × Nat)) (c : List Value) : List (Nat × Value) → Option (List Value)
  | [] => some c
  | p :: rest => match size p.1 with
    | none => none
    | some (off, sz) => match okR0 p.2 && Nat.beq (cellsOf p.2).length sz with
      | true => match layAt c off (cellsOf p.2) with
        | some c' => fillParts size c' rest
        | none => none
      | false => none

/- a type's zero value -/
def zeroVal (i : TI) : Value :=
  match i.agg, i.zero with
  | true, z => .agg ⟨z⟩
  | false, [z] => z
  | false, _ => .tuple #[]

def fieldAt (fs : Array Field) (i : Nat) : Option Field := fs.toList[i]?

def rep (z : List Value) : Nat → List Value
  | 0 => []
  | n + 1 => z ++ rep z n

def natOf : Value → Option Nat
  | .int _ n => if 0 ≤ n then some n.toNat else none
  | _ => none

def sizeOfT (E : Env) (t : Nat) : Option Nat := (E.ti t).map (·.size)

def strList (s : ByteArray) : List UInt8 := s.data.toList

def byteVal (b : UInt8) : Value := .int .u8 b.toNat

def bound (v : Option Value) (d most : Nat) : Option Nat :=
  match v with
  | none => some d
  | some x => match natOf x with
    | some n => if n ≤ most then some n else none
    | none => none

/- sizes that are surely no 'capU' -/
def small (n : Nat) : Bool := Nat.ble n 4294967296

def aslice (E : Env) (t : Nat) (x : Value) (lo hi mx : Option Value) : Option Value :=
  match hi.isNone && mx.isSome with
  | true => none
  | false => match E.ti t with
    | none => none
    | some i => match i.desc, x with
      | .string, .string s =>
        match mx with
        | some _ => none
        | none => match bound hi s.data.toList.length s.data.toList.length with
          | none => none
          | some h => match bound lo 0 h with
            | none => none
            | some l => some (.string ⟨⟨(s.data.toList.drop l).take (h - l)⟩⟩)
      | .slice e, .slice a len cap =>
        match sizeOfT E e, small cap with
        | some sz, true => match bound mx cap cap with
          | none => none
          | some m => match bound hi len m with
            | none => none
            | some h => match bound lo 0 h with
              | none => none
              | some l => some (.slice (if m = l then a else a.map (fun a => addA a (l * sz))) (h - l) (m - l))
        | _, _ => none
      | .array n e, .pointer (some a) =>
        match sizeOfT E e, small n with
        | some sz, true => match bound mx n n with
          | none => none
          | some m => match bound hi n m with
            | none => none
            | some h => match bound lo 0 h with
              | none => none
              | some l => some (.slice (some (if m = l then a else addA a (l * sz))) (h - l) (m - l))
        | _, _ => none
      | _, _ => none

/- a slice of unknown length, of whole cells up to its capacity: cut from its head -/
def acut (E : Env) (t : Nat) (x : Value) (lo hi mx : Option Value) : Option Value :=
  match E.ti t, x, lo, hi, mx with
  | some i, .func (.yield _) a sh, none, some h, none => match i.desc, a.toList, sh.toList, natOf h with
    | .slice e, [.slice (some p) _ c], [.pointer none], some n => match sizeOfT E e, small c && Nat.ble n c with
      | some _, true => some (.slice (some p) n c)
      | _, _ => none
    | _, _, _, _ => none
  | _, _, _, _, _ => none

def srcCells (s : St) (size n : Nat) : Value → Option (List Value)
  | .slice (some a) _ _ => loadN s a (n * size)
  | .slice none _ _ => some []
  | .string b => some ((b.data.toList.take n).map byteVal)
  | _ => none

def lenV : Value → Option Nat
  | .slice _ n _ => some n
  | .string b => some b.data.toList.length
  | _ => none

def aappend (E : Env) (t : Nat) (x y : Value) (s : St) : Option (List (Value × St)) :=
  match E.ti t, x, lenV y with
  | some i, .slice base sl sc, some n => match i.desc with
    | .slice e => match E.ti e with
      | none => none
      | some j => match srcCells s j.size n y, Nat.ble (sl + n) 65536 with
        | some new, true => match Nat.beq sc capU with
          | false => match Nat.ble (sl + n) sc with
            | true => match base with
              | none => one (.slice none (sl + n) sc) s
              | some a => match storeN s (addA a (sl * j.size)) new with
                | some s' => one (.slice (some a) (sl + n) sc) s'
                | none => none
            | false => match srcCells s j.size sl (.slice base sl sc) with
              | none => none
              | some old => match Nat.beq old.length (sl * j.size) && Nat.beq new.length (n * j.size) with
                | false => none
                | true => let p := newBlk s (old ++ new) (3 + j.size); one (.slice (some p.1) (sl + n) capU) p.2
          | true => match base with
            | none => none
            | some a => match s.blk a.block with
              | none => none
              | some b => match Nat.beq b.kind (3 + j.size) && Nat.beq b.cells.length (sl * j.size) && Nat.beq a.off 0 && Nat.beq new.length (n * j.size) with
                | false => none
                | true => let p := newBlk (s.kill a.block) (b.cells ++ new) (3 + j.size); one (.slice (some p.1) (sl + n) capU) p.2
        | _, _ => none
    | _ => none
  | _, _, _ => none

def acopy (E : Env) (t : Nat) (x y : Value) (s : St) : Option (List (Value × St)) :=
  match E.ti t, x, lenV y with
  | some i, .slice base dl _, some sl => match i.desc with
    | .slice e => match sizeOfT E e with
      | none => none
      | some sz => match srcCells s sz (Nat.min sl dl) y with
        | none => none
        | some c => match base with
          | none => one (.int .i64 (Int.ofNat (Nat.min sl dl))) s
          | some a => match storeN s a c with
            | some s' => one (.int .i64 (Int.ofNat (Nat.min sl dl))) s'
            | none => none
    | _ => none
  | _, _, _ => none

def aclear (E : Env) (t : Nat) (x : Value) (s : St) : Option (List (Value × St)) :=
  match E.ti t, x with
  | some i, .slice a n _ => match a with
    | none => one (.tuple #[]) s
    | some a => match Nat.beq n 0 with
      | true => one (.tuple #[]) s
      | false => match i.desc with
        | .slice e => match E.ti e with
          | none => none
          | some j => match storeN s a (rep j.zero n) with
            | some s' => one (.tuple #[]) s'
            | none => none
        | _ => none
  | _, _ => none

def alen (E : Env) (t : Nat) (x : Value) : Option Value :=
  match E.ti t with
  | none => none
  | some i => match i.desc, x with
    | .string, .string s => some (.int .i64 s.data.toList.length)
    | .string, .func (.yield n) t sh => match mostS (.func (.yield n) t sh) with
      | some m => match Nat.ble m 9223372036854775807 with
        | true => some (symv (.int .i64 0) (t.toList ++ [.slice none 101 0]))
        | false => none
      | none => none
    | .array n _, _ => some (.int .i64 n)
    | .slice _, .slice _ n _ => some (.int .i64 n)
    | .slice _, .func (.yield _) t sh => match sh.toList with
      | [.nilIface] => some (symv (.int .i64 0) (t.toList ++ [.slice none 106 0]))
      | _ => none
    | _, _ => none

def acap (E : Env) (t : Nat) (x : Value) : Option Value :=
  match E.ti t with
  | none => none
  | some i => match i.desc, x with
    | .slice _, .slice _ _ c => match Nat.beq c capU with
      | true => none
      | false => some (.int .i64 c)
    | _, _ => none

def amax (mx : Bool) : List Value → Option Value
  | [.int k a, .int _ b] => some (.int k (if mx then (if b > a then b else a) else (if b < a then b else a)))
  | _ => none

def aconv (E : Env) (src dst : Nat) (x : Value) (s : St) : Option (List (Value × St)) :=
  match E.ti src, E.ti dst with
  | some i, some j => match i.desc, j.desc, x with
    | _, .int k, .int _ n => one (.int k (k.wrap n)) s
    | _, .int k, .func (.yield n) t sh => match symConv (.int k) (.func (.yield n) t sh) with
      | some v => one (known s.vals v) s
      | none => none
    | _, .string, .string b => one (.string b) s
    | _, .string, .func (.yield n) t sh => match i.desc, mostS (.func (.yield n) t sh) with
      | .string, some _ => one (.func (.yield n) t sh) s
      | _, _ => none
    | .slice e, .string, .slice a n _ => match E.ti e with
      | some ei => match ei.desc, a with
        | .int .u8, none => one (.string ⟨⟨[]⟩⟩) s
        | .int .u8, some a => match loadN s a n with
          | some c => match c.mapM (fun v => match v with | .int .u8 n => some (UInt8.ofNat n.toNat) | _ => none) with
            | some bs => one (.string ⟨⟨bs⟩⟩) s
            | none => none
          | none => none
        | _, _ => none
      | none => none
    | _, _, _ => none
  | _, _ => none

def abuiltin (E : Env) (b : Builtin) (ts : List Nat) (args : List Value) (s : St) : Option (List (Value × St)) :=
  match b, ts, args with
  | .len, [t], [x] => match alen E t x with | some v => one (known s.vals v) s | none => none
  | .cap, [t], [x] => match acap E t x with | some v => one v s | none => none
  | .append, [t, u], [x, y] => match E.ti u with
    | some i => match i.desc with
      | .slice _ => aappend E t x y s
      | .string => aappend E t x y s
      | _ => none
    | none => none
  | .copy, t :: _, [x, y] => acopy E t x y s
  | .clear, [t], [x] => aclear E t x s
  | .max, _, xs => match amax true xs with
    | some v => one v s
    | none => match symMax true xs with
      | some v => one (known s.vals v) s
      | none => none
  | .min, _, xs => match amax false xs with
    | some v => one v s
    | none => match symMax false xs with
      | some v => one (known s.vals v) s
      | none => none
  | _, _, _ => none

/- a map keyed by strings: its element type -/
def strMap (E : Env) (t : Nat) : Option TI :=
  match E.ti t with
  | some i => match i.desc with
    | .map k e => match E.ti k with
      | some j => match j.desc with
        | .string => E.ti e
        | _ => none
      | none => none
    | _ => none
  | none => none

def mapFind (k : List UInt8) : List Value → Option Value
  | .string s :: v :: l => if s.data.toList = k then some v else mapFind k l
  | _ => none

abbrev CallF := Nat → List Value → St → Option (List (Value × St))

def acall (E : Env) (cf : CallF) (f : Operand → Value) (c : Call) (s : St) : Option (List (Value × St)) :=
  let args := c.args.toList.map f
  match c.callee with
  | .builtin b => abuiltin E b c.argTypes.toList args s
  | .value g => match f g with
    | .func (.func h) first cap => cf h (first.toList ++ args ++ cap.toList) s
    | _ => none
  | .invoke x name => match f x with
    | .iface t v => match E.meth t name with
      | some g => cf g (v :: args) s
      | none => none
    | _ => none

def oPick (_ : Env) (f : Operand → Value) (s : St) (c : Operand) (a : Operand) (b : Operand) : Option (List (Value × St)) :=
  match truth s.facts (f c) with
  | some true => one (f a) s
  | some false => one (f b) s
  | none => none

def oAlloc (E : Env) (_ : Operand → Value) (s : St) (t : Nat) : Option (List (Value × St)) :=
  match E.ti t with
  | some i => let p := newBlk s i.zero 0; one (.pointer (some p.1)) p.2
  | none => none

def oBox (_ : Env) (f : Operand → Value) (s : St) (x : Operand) : Option (List (Value × St)) :=
  match okR0 (f x) with
  | true => let p := newBlk s (cellsOf (f x)) 0; one (.pointer (some p.1)) p.2
  | false => none

def oBuild (E : Env) (f : Operand → Value) (s : St) (t : Nat) (ps : Array (Nat × Operand)) : Option (List (Value × St)) :=
  match E.ti t with
  | some i => match i.desc with
    | .struct fs => match fillParts (fun j => match fieldAt fs j with | some fd => (sizeOfT E fd.type).map (fun z => (fd.offset, z)) | none => none) i.zero (ps.toList.map fun p => (p.1, f p.2)) with
      | some c => one (.agg ⟨c⟩) s
      | none => none
    | .array _ e => match sizeOfT E e with
      | some z => match fillParts (fun j => some (j * z, z)) i.zero (ps.toList.map fun p => (p.1, f p.2)) with
        | some c => one (.agg ⟨c⟩) s
        | none => none
      | none => none
    | _ => none
  | none => none

def oBuildSlice (E : Env) (f : Operand → Value) (s : St) (t : Nat) (len : Nat) (ps : Array (Nat × Operand)) : Option (List (Value × St)) :=
  match E.ti t with
  | some i => match i.desc with
    | .slice e => match E.ti e with
      | some j => match Nat.ble (len * j.size) 65536 && small len with
        | true => match fillParts (fun k => some (k * j.size, j.size)) (rep j.zero len) (ps.toList.map fun p => (p.1, f p.2)) with
          | some c => let p := newBlk s c 0; one (.slice (some p.1) len len) p.2
          | none => none
        | false => none
      | none => none
    | _ => none
  | none => none

def oLoad (E : Env) (f : Operand → Value) (s : St) (t : Nat) (a : Operand) : Option (List (Value × St)) :=
  match E.ti t, f a with
  | some i, .pointer (some p) => match i.agg with
    | true => match loadN s p i.size with
      | some c => one (.agg ⟨c⟩) s
      | none => none
    | false => match loadN s p 1 with
      | some [v] => one v s
      | _ => none
  | _, _ => none

def oStore (E : Env) (f : Operand → Value) (s : St) (t : Nat) (a : Operand) (x : Operand) : Option (List (Value × St)) :=
  match E.ti t, f a with
  | some i, .pointer (some p) => match okR0 (f x) && Nat.beq (cellsOf (f x)).length i.size with
    | true => match storeN s p (cellsOf (f x)) with
      | some s' => one (.tuple #[]) s'
      | none => none
    | false => none
  | _, _ => none

def oNilCheck (_ : Env) (f : Operand → Value) (s : St) (x : Operand) : Option (List (Value × St)) :=
  match f x with
  | .pointer (some a) => one (.pointer (some a)) s
  | .func (.func h) a b => one (.func (.func h) a b) s
  | .iface t v => one (.iface t v) s
  | _ => none

def oBinOp (E : Env) (f : Operand → Value) (s : St) (op : BinOp) (t : Nat) (x : Operand) (y : Operand) : Option (List (Value × St)) :=
  match abin E t op (f x) (f y) with
  | some v => one v s
  | none => match symBin s.facts op (f x) (f y) with
    | some v => one (known s.vals v) s
    | none => match symAgg E s.facts t op (f x) (f y) with
      | some v => one v s
      | none => none

def oUnOp (_ : Env) (f : Operand → Value) (s : St) (op : UnOp) (x : Operand) : Option (List (Value × St)) :=
  match aun op (f x) with
  | some v => one v s
  | none => match symUn op (f x) with
    | some v => one (known s.vals v) s
    | none => none

def oMakeInterface (E : Env) (f : Operand → Value) (s : St) (t : Nat) (x : Operand) : Option (List (Value × St)) :=
  match okCI (f x), E.ti t with
  | true, some i => match i.desc with
    | .interface _ => none
    | _ => one (.iface t (f x)) s
  | _, _ => none

def oMakeFunc (_ : Env) (f : Operand → Value) (s : St) (h : Fn) (a : Array Operand) (b : Array Operand) : Option (List (Value × St)) :=
  match h, (a.toList.map f).all okC0 && (b.toList.map f).all okC0 with
  | .func g, true => one (.func (.func g) ⟨a.toList.map f⟩ ⟨b.toList.map f⟩) s
  | _, _ => none

def oMakeSlice (E : Env) (f : Operand → Value) (s : St) (t : Nat) (l : Operand) (c : Operand) : Option (List (Value × St)) :=
  match E.ti t, natOf (f l), natOf (f c) with
  | some i, some l, some c => match i.desc with
    | .slice e => match E.ti e with
      | some j => match Nat.ble l c && Nat.ble c 65536 with
        | true => let p := newBlk s (rep j.zero c) 0; one (.slice (some p.1) l c) p.2
        | false => none
      | none => none
    | _ => none
  | _, _, _ => none

def oSlice (E : Env) (f : Operand → Value) (s : St) (t : Nat) (x : Operand) (lo : Option Operand) (hi : Option Operand) (mx : Option Operand) : Option (List (Value × St)) :=
  match aslice E t (f x) (lo.map f) (hi.map f) (mx.map f) with
  | some v => one v s
  | none => match acut E t (f x) (lo.map f) (hi.map f) (mx.map f) with
    | some v => one v s
    | none => none

def oFieldAddr (E : Env) (f : Operand → Value) (s : St) (t : Nat) (x : Operand) (fd : Nat) : Option (List (Value × St)) :=
  match E.ti t, f x with
  | some i, .pointer (some a) => match i.desc with
    | .struct fs => match fieldAt fs fd with
      | some g => one (.pointer (some (addA a g.offset))) s
      | none => none
    | _ => none
  | _, _ => none

def oIndexAddr (E : Env) (f : Operand → Value) (s : St) (t : Nat) (x : Operand) (j : Operand) : Option (List (Value × St)) :=
  match E.ti t, f x, natOf (f j) with
  | some i, .pointer (some a), some n => match i.desc with
    | .array len e => match sizeOfT E e, Nat.ble (n + 1) len with
      | some z, true => one (.pointer (some (addA a (n * z)))) s
      | _, _ => none
    | _ => none
  | some i, .slice (some a) len _, some n => match i.desc with
    | .slice e => match sizeOfT E e, Nat.ble (n + 1) len with
      | some z, true => one (.pointer (some (addA a (n * z)))) s
      | _, _ => none
    | _ => none
  | _, _, _ => none

def oIndex (E : Env) (f : Operand → Value) (s : St) (t : Nat) (x : Operand) (j : Operand) : Option (List (Value × St)) :=
  match f x, natOf (f j), E.ti t with
  | .string b, some n, some i => match i.desc with
    | .string => match b.data.toList[n]? with
      | some c => one (byteVal c) s
      | none => none
    | _ => none
  | _, _, _ => none

def oExtract (_ : Env) (f : Operand → Value) (s : St) (x : Operand) (n : Nat) : Option (List (Value × St)) :=
  match f x with
  | .tuple vs => match getAt vs.toList n with
    | some v => one v s
    | none => none
  | _ => none

def oSliceToArrayPointer (E : Env) (f : Operand → Value) (s : St) (t : Nat) (x : Operand) : Option (List (Value × St)) :=
  match E.ti t, f x with
  | some i, .slice a len _ => match i.desc with
    | .array n _ => if n ≤ len then one (.pointer a) s else none
    | _ => none
  | _, _ => none

def oTypeAssert (E : Env) (f : Operand → Value) (s : St) (x : Operand) (t : Nat) (ok : Bool) : Option (List (Value × St)) :=
  match f x with
  | .iface u v => match E.ti t with
    | some i => match i.desc with
      | .interface _ => match E.impl t u, ok with
        | some true, true => one (.tuple #[.iface u v, .bool true]) s
        | some true, false => one (.iface u v) s
        | some false, true => one (.tuple #[zeroVal i, .bool false]) s
        | _, _ => none
      | _ => match Nat.beq u t, ok with
        | true, true => one (.tuple #[v, .bool true]) s
        | true, false => one v s
        | false, true => one (.tuple #[zeroVal i, .bool false]) s
        | false, false => none
    | none => none
  | _ => none

def oInsert (E : Env) (f : Operand → Value) (s : St) (t : Nat) (m : Operand) (k : Operand) (v : Operand) : Option (List (Value × St)) :=
  match strMap E t, f m, f k with
  | some _, .map (some b), .string key => match s.blk b with
    | some x => match Nat.beq x.kind 2 && okC1 (f v), mapFind key.data.toList x.cells with
      | true, none => one (.tuple #[]) (s.setBlk b ⟨x.cells ++ [.string key, f v], 2⟩)
      | _, _ => none
    | none => none
  | _, _, _ => none

def oLookup (E : Env) (f : Operand → Value) (s : St) (t : Nat) (m : Operand) (k : Operand) (ok : Bool) : Option (List (Value × St)) :=
  match strMap E t, f m, f k with
  | some e, .map (some b), .string key => match s.blk b with
    | some x => match Nat.beq x.kind 2, mapFind key.data.toList x.cells, ok with
      | true, some v, true => one (.tuple #[v, .bool true]) s
      | true, none, true => one (.tuple #[zeroVal e, .bool false]) s
      | _, _, _ => none
    | none => none
  | _, _, _ => none

def aop0 (E : Env) (cf : CallF) (o : Op) (f : Operand → Value) (s : St) : Option (List (Value × St)) :=
  match o with
  | .move x => one (f x) s
  | .assign x => one (f x) s
  | .pick c a b => oPick E f s c a b
  | .alloc t => oAlloc E f s t
  | .box _ x => oBox E f s x
  | .build t ps => oBuild E f s t ps
  | .buildSlice t len ps => oBuildSlice E f s t len ps
  | .load t a => oLoad E f s t a
  | .store t a x => oStore E f s t a x
  | .nilCheck x => oNilCheck E f s x
  | .binOp op t x y _ => oBinOp E f s op t x y
  | .unOp op _ x => oUnOp E f s op x
  | .convert a b x => aconv E a b (f x) s
  | .makeInterface t x => oMakeInterface E f s t x
  | .makeFunc h a b => oMakeFunc E f s h a b
  | .makeSlice t l c => oMakeSlice E f s t l c
  | .slice t x lo hi mx => oSlice E f s t x lo hi mx
  | .fieldAddr t x fd => oFieldAddr E f s t x fd
  | .indexAddr t x j => oIndexAddr E f s t x j
  | .index t x j => oIndex E f s t x j
  | .extract x n => oExtract E f s x n
  | .sliceToArrayPointer t x => oSliceToArrayPointer E f s t x
  | .typeAssert x _ t ok => oTypeAssert E f s x t ok
  | .makeMap _ none => let p := newBlk s [] 2; one (.map (some p.1.block)) p.2
  | .insert t m k v => oInsert E f s t m k v
  | .lookup t m k ok => oLookup E f s t m k ok
  | .call c => acall E cf f c s
  | _ => none

/- the same, in one text -/
def aopT (E : Env) (cf : CallF) (o : Op) (f : Operand → Value) (s : St) : Option (List (Value × St)) :=
  match o with
  | .move x => one (f x) s
  | .assign x => one (f x) s
  | .pick c a b => match truth s.facts (f c) with
    | some true => one (f a) s
    | some false => one (f b) s
    | none => none
  | .alloc t => match E.ti t with
    | some i => let p := newBlk s i.zero 0; one (.pointer (some p.1)) p.2
    | none => none
  | .box _ x => match okR0 (f x) with
    | true => let p := newBlk s (cellsOf (f x)) 0; one (.pointer (some p.1)) p.2
    | false => none
  | .build t ps => match E.ti t with
    | some i => match i.desc with
      | .struct fs => match fillParts (fun j => match fieldAt fs j with | some fd => (sizeOfT E fd.type).map (fun z => (fd.offset, z)) | none => none) i.zero (ps.toList.map fun p => (p.1, f p.2)) with
        | some c => one (.agg ⟨c⟩) s
        | none => none
      | .array _ e => match sizeOfT E e with
        | some z => match fillParts (fun j => some (j * z, z)) i.zero (ps.toList.map fun p => (p.1, f p.2)) with
          | some c => one (.agg ⟨c⟩) s
          | none => none
        | none => none
      | _ => none
    | none => none
  | .buildSlice t len ps => match E.ti t with
    | some i => match i.desc with
      | .slice e => match E.ti e with
        | some j => match Nat.ble (len * j.size) 65536 && small len with
          | true => match fillParts (fun k => some (k * j.size, j.size)) (rep j.zero len) (ps.toList.map fun p => (p.1, f p.2)) with
            | some c => let p := newBlk s c 0; one (.slice (some p.1) len len) p.2
            | none => none
          | false => none
        | none => none
      | _ => none
    | none => none
  | .load t a => match E.ti t, f a with
    | some i, .pointer (some p) => match i.agg with
      | true => match loadN s p i.size with
        | some c => one (.agg ⟨c⟩) s
        | none => none
      | false => match loadN s p 1 with
        | some [v] => one v s
        | _ => none
    | _, _ => none
  | .store t a x => match E.ti t, f a with
    | some i, .pointer (some p) => match okR0 (f x) && Nat.beq (cellsOf (f x)).length i.size with
      | true => match storeN s p (cellsOf (f x)) with
        | some s' => one (.tuple #[]) s'
        | none => none
      | false => none
    | _, _ => none
  | .nilCheck x => match f x with
    | .pointer (some a) => one (.pointer (some a)) s
    | .func (.func h) a b => one (.func (.func h) a b) s
    | .iface t v => one (.iface t v) s
    | _ => none
  | .binOp op t x y _ => match abin E t op (f x) (f y) with
    | some v => one v s
    | none => match symBin s.facts op (f x) (f y) with
      | some v => one (known s.vals v) s
      | none => match symAgg E s.facts t op (f x) (f y) with
        | some v => one v s
        | none => none
  | .unOp op _ x => match aun op (f x) with
    | some v => one v s
    | none => match symUn op (f x) with
      | some v => one (known s.vals v) s
      | none => none
  | .convert a b x => aconv E a b (f x) s
  | .makeInterface t x => match okCI (f x), E.ti t with
    | true, some i => match i.desc with
      | .interface _ => none
      | _ => one (.iface t (f x)) s
    | _, _ => none
  | .makeFunc h a b => match h, (a.toList.map f).all okC0 && (b.toList.map f).all okC0 with
    | .func g, true => one (.func (.func g) ⟨a.toList.map f⟩ ⟨b.toList.map f⟩) s
    | _, _ => none
  | .makeSlice t l c => match E.ti t, natOf (f l), natOf (f c) with
    | some i, some l, some c => match i.desc with
      | .slice e => match E.ti e with
        | some j => match Nat.ble l c && Nat.ble c 65536 with
          | true => let p := newBlk s (rep j.zero c) 0; one (.slice (some p.1) l c) p.2
          | false => none
        | none => none
      | _ => none
    | _, _, _ => none
  | .slice t x lo hi mx => match aslice E t (f x) (lo.map f) (hi.map f) (mx.map f) with
    | some v => one v s
    | none => match acut E t (f x) (lo.map f) (hi.map f) (mx.map f) with
      | some v => one v s
      | none => none
  | .fieldAddr t x fd => match E.ti t, f x with
    | some i, .pointer (some a) => match i.desc with
      | .struct fs => match fieldAt fs fd with
        | some g => one (.pointer (some (addA a g.offset))) s
        | none => none
      | _ => none
    | _, _ => none
  | .indexAddr t x j => match E.ti t, f x, natOf (f j) with
    | some i, .pointer (some a), some n => match i.desc with
      | .array len e => match sizeOfT E e, Nat.ble (n + 1) len with
        | some z, true => one (.pointer (some (addA a (n * z)))) s
        | _, _ => none
      | _ => none
    | some i, .slice (some a) len _, some n => match i.desc with
      | .slice e => match sizeOfT E e, Nat.ble (n + 1) len with
        | some z, true => one (.pointer (some (addA a (n * z)))) s
        | _, _ => none
      | _ => none
    | _, _, _ => none
  | .index t x j => match f x, natOf (f j), E.ti t with
    | .string b, some n, some i => match i.desc with
      | .string => match b.data.toList[n]? with
        | some c => one (byteVal c) s
        | none => none
      | _ => none
    | _, _, _ => none
  | .extract x n => match f x with
    | .tuple vs => match getAt vs.toList n with
      | some v => one v s
      | none => none
    | _ => none
  | .sliceToArrayPointer t x => match E.ti t, f x with
    | some i, .slice a len _ => match i.desc with
      | .array n _ => if n ≤ len then one (.pointer a) s else none
      | _ => none
    | _, _ => none
  | .typeAssert x _ t ok => match f x with
    | .iface u v => match E.ti t with
      | some i => match i.desc with
        | .interface _ => match E.impl t u, ok with
          | some true, true => one (.tuple #[.iface u v, .bool true]) s
          | some true, false => one (.iface u v) s
          | some false, true => one (.tuple #[zeroVal i, .bool false]) s
          | _, _ => none
        | _ => match Nat.beq u t, ok with
          | true, true => one (.tuple #[v, .bool true]) s
          | true, false => one v s
          | false, true => one (.tuple #[zeroVal i, .bool false]) s
          | false, false => none
      | none => none
    | _ => none
  | .makeMap _ none => let p := newBlk s [] 2; one (.map (some p.1.block)) p.2
  | .insert t m k v => match strMap E t, f m, f k with
    | some _, .map (some b), .string key => match s.blk b with
      | some x => match Nat.beq x.kind 2 && okC1 (f v), mapFind key.data.toList x.cells with
        | true, none => one (.tuple #[]) (s.setBlk b ⟨x.cells ++ [.string key, f v], 2⟩)
        | _, _ => none
      | none => none
    | _, _, _ => none
  | .lookup t m k ok => match strMap E t, f m, f k with
    | some e, .map (some b), .string key => match s.blk b with
      | some x => match Nat.beq x.kind 2, mapFind key.data.toList x.cells, ok with
        | true, some v, true => one (.tuple #[v, .bool true]) s
        | true, none, true => one (.tuple #[zeroVal e, .bool false]) s
        | _, _, _ => none
      | none => none
    | _, _, _ => none
  | .call c => acall E cf f c s
  | _ => none

theorem aop_T (E : Env) (cf : CallF) (o : Op) (f : Operand → Value) (s : St) : aop0 E cf o f s = aopT E cf o f s := by
  cases o <;> rfl

/- STRINGS OF KNOWN LENGTH: '.func (.yield _) cells #[.string _]': a cell a byte: a constant of kind u8 or a program of that kind. -/
def isByte : Value → Bool
  | .int .u8 n => decide (0 ≤ n) && decide (n < 256)
  | .func (.yield _) _ sh => match sh.toList with
    | [.int .u8 _] => true
    | _ => false
  | _ => false

def bytesS : Value → Option (List Value)
  | .string s => some (s.data.toList.map byteVal)
  | .func (.yield _) t sh => match sh.toList with
    | [.string _] => some t.toList
    | _ => none
  | _ => none

def constB : List Value → Option (List UInt8)
  | [] => some []
  | .int .u8 n :: l => match constB l with
    | some r => some (UInt8.ofNat n.toNat :: r)
    | none => none
  | _ => none

def mkS (c : List Value) : Value :=
  match constB c with
  | some bs => .string ⟨⟨bs⟩⟩
  | none => .func (.yield 0) ⟨c⟩ #[.string ⟨⟨[]⟩⟩]

def eqB1 : Value → Value → Option Bool
  | .int .u8 m, .int .u8 n => some (m == n)
  | a, b => match eqToks (toks a) (toks b) with
    | true => some true
    | false => none

def eqBL : List Value → List Value → Option Bool
  | [], [] => some true
  | a :: x, b :: y => match eqB1 a b with
    | some true => eqBL x y
    | some false => some false
    | none => none
  | _, _ => some false

def strBin (op : BinOp) (x y : Value) : Option Value :=
  match bytesS x, bytesS y with
  | some a, some b => match op with
    | .add => match Nat.ble (a.length + b.length) 4294967295 with
      | true => some (mkS (a ++ b))
      | false => none
    | .eql => match eqBL a b with
      | some c => some (.bool c)
      | none => none
    | .neq => match eqBL a b with
      | some c => some (.bool (!c))
      | none => none
    | _ => none
  | _, _ => none

def eqCellX (a b : Value) : Option Bool :=
  match eqCell a b with
  | some c => some c
  | none => match bytesS a, bytesS b with
    | some x, some y => eqBL x y
    | _, _ => match kindI a, kindI b with
      | some k, some k' => match decide (k = k') && eqToks (toks a) (toks b) with
        | true => some true
        | false => none
      | _, _ => none

def eqCellsX : List Value → List Value → Option Bool
  | [], [] => some true
  | a :: x, b :: y => match eqCellX a b with
    | some true => eqCellsX x y
    | some false => some false
    | none => none
  | _, _ => none

def likeX : Value → Value → Bool
  | .int k _, v => match kindI v with
    | some k' => decide (k = k')
    | none => false
  | .string _, v => (bytesS v).isSome
  | z, v => likeC z v

def strAgg (E : Env) (t : Nat) (op : BinOp) (x y : Value) : Option Value :=
  match x, y with
  | .agg a, .agg b => match fitsT likeX E t a.toList b.toList with
    | false => none
    | true => match op, eqCellsX a.toList b.toList with
      | .eql, some c => some (.bool c)
      | .neq, some c => some (.bool (!c))
      | _, _ => none
  | _, _ => none

def hexTab : List UInt8 := [48, 49, 50, 51, 52, 53, 54, 55, 56, 57, 97, 98, 99, 100, 101, 102]

/- a program that ends by '& 15' -/
def ends15 : List Value → Bool
  | [] => false
  | [.int _ n, .slice none 5 _] => decide (n = 15)
  | _ :: l => ends15 l

def strIndex (E : Env) (t : Nat) (x j : Value) : Option Value :=
  match x, kindI j, E.ti t with
  | .string b, some _, some i => match i.desc, (b.data.toList == hexTab) && ends15 (toks j) with
    | .string, true => some (symv (.int .u8 0) (toks j ++ [.slice none 107 0]))
    | _, _ => none
  | _, _, _ => none

def strLen (E : Env) (t : Nat) (x : Value) : Option Value :=
  match E.ti t, bytesS x with
  | some i, some c => match i.desc with
    | .string => some (.int .i64 (Int.ofNat c.length))
    | _ => none
  | _, _ => none

def strSlice (E : Env) (t : Nat) (x : Value) (lo hi mx : Option Value) : Option Value :=
  match E.ti t, bytesS x, mx with
  | some i, some c, none => match i.desc with
    | .string => match bound hi c.length c.length with
      | none => none
      | some h => match bound lo 0 h with
        | none => none
        | some l => some (mkS ((c.drop l).take (h - l)))
    | _ => none
  | _, _, _ => none

def strConv (E : Env) (src dst : Nat) (x : Value) (s : St) : Option (List (Value × St)) :=
  match E.ti src, E.ti dst with
  | some i, some j => match i.desc, j.desc, x with
    | .slice e, .string, .slice (some a) n _ => match E.ti e with
      | some ei => match ei.desc with
        | .int .u8 => match loadN s a n with
          | some c => match c.all isByte with
            | true => one (mkS c) s
            | false => none
          | none => none
        | _ => none
      | none => none
    | .slice e, .slice _, .slice (some a) n c => match E.ti e with
      | some ei => match ei.desc, s.blk a.block with
        | .int .u8, some b => match Nat.beq src dst && isCells b.kind with
          | true => one (.slice (some a) n c) s
          | false => none
        | _, _ => none
      | none => none
    | _, _, _ => none
  | _, _ => none

def strOp (E : Env) (o : Op) (f : Operand → Value) (s : St) : Option (List (Value × St)) :=
  match o with
  | .binOp op t x y _ => match strBin op (f x) (f y) with
    | some v => one v s
    | none => match strAgg E t op (f x) (f y) with
      | some v => one v s
      | none => none
  | .index t x j => match strIndex E t (f x) (f j) with
    | some v => one v s
    | none => none
  | .slice t x lo hi mx => match strSlice E t (f x) (lo.map f) (hi.map f) (mx.map f) with
    | some v => one v s
    | none => none
  | .convert a b x => strConv E a b (f x) s
  | .call c => match c.callee, c.argTypes.toList, c.args.toList with
    | .builtin .len, [t], [x] => match strLen E t (f x) with
      | some v => one v s
      | none => none
    | _, _, _ => none
  | _ => none

def aop (E : Env) (cf : CallF) (o : Op) (f : Operand → Value) (s : St) : Option (List (Value × St)) :=
  match aop0 E cf o f s with
  | some r => some r
  | none => strOp E o f s

/- a region, in the text's order -/
def putAll (d : Option Nat) (r : Rg) : List (Value × St) → List (Rg × St)
  | [] => []
  | x :: l => (r.putO d x.1, x.2) :: putAll d r l

def eachRS (f : Rg → St → Option (List (Rg × St))) : List (Rg × St) → Option (List (Rg × St))
  | [] => some []
  | x :: l => match f x.1 x.2 with
    | none => none
    | some a => match l with
      | [] => some a
      | _ => match eachRS f l with
        | none => none
        | some b => some (a ++ b)

def wants (all : List Oper) (fs : List (List Value × Bool)) (r : Rg) (o : Oper) : Option Bool :=
  match o.guard with
  | none => some true
  | some (j, b) => match all[j]? with
    | some p => match p.dst with
      | some d => match r.get d with
        | .bool c => some (c == b)
        | .tuple _ => some false
        | v => match truth fs v with
          | some c => some (c == b)
          | none => none
      | none => some false
    | none => some false

def evDefer (o : Oper) (r : Rg) (k : Rg → Option (List (Rg × St))) : Option (List (Rg × St)) :=
  match o.op with
  | .defer c => match c.callee, c.args.toList with
    | .value f, [] => match r.eval f with
      | .func (.func g) x y => k (Rg.putO ⟨r.nv, r.vars, r.long, r.tmps, .func (.func g) x y :: r.defers⟩ o.dst (.tuple #[]))
      | _ => none
    | _, _ => none
  | _ => none

def evMany (o : Oper) (r : Rg) (k : Rg → St → Option (List (Rg × St))) : List (Value × St) → Option (List (Rg × St))
  | [x] => k (r.putO o.dst x.1) x.2
  | vs => eachRS k (putAll o.dst r vs)

def evalOps (E : Env) (cf : CallF) (all : List Oper) : List Oper → Rg → St → Option (List (Rg × St))
  | [], r, s => some [(r, s)]
  | o :: l, r, s => match wants all s.facts r o with
    | none => none
    | some false => evalOps E cf all l (r.putO o.dst (.tuple #[])) s
    | some true => match aop E cf o.op r.eval s with
      | none => evDefer o r (fun r => evalOps E cf all l r s)
      | some vs => evMany o r (evalOps E cf all l) vs

/- the facts as they stood -/
def keep (s s' : St) : St := ⟨s'.heap, s'.next, s.facts, s.vals⟩

/- a region that draws its order: one leaf an operation -/
def evalOps1 (E : Env) (cf : CallF) (all : List Oper) : List Oper → Rg → St → Option (Rg × St)
  | [], r, s => some (r, s)
  | o :: l, r, s => match wants all s.facts r o with
    | none => none
    | some false => evalOps1 E cf all l (r.putO o.dst (.tuple #[])) s
    | some true => match aop E cf o.op r.eval s with
      | some [(v, s')] => evalOps1 E cf all l (r.putO o.dst v) (keep s s')
      | _ => none

abbrev Leaf := Exit × Rg × St

def toLeaf : List (Rg × St) → List Leaf
  | [] => []
  | x :: l => (.normal, x.1, x.2) :: toLeaf l

def bindL (f : Rg → St → Option (List Leaf)) : List Leaf → Option (List Leaf)
  | [] => some []
  | x :: l => match x.1 with
    | .normal => match f x.2.1 x.2.2 with
      | none => none
      | some a => match l with
        | [] => some a
        | _ => match bindL f l with
          | none => none
          | some b => some (a ++ b)
    | _ => match bindL f l with
      | none => none
      | some b => some (x :: b)

def outOf (id : Nat) : List Leaf → List Leaf
  | [] => []
  | x :: l => (match x.1 with
    | .exit i => match Nat.beq i id with
      | true => (Exit.normal, x.2)
      | false => x
    | _ => x) :: outOf id l

def iter (f : Rg → St → Option (List Leaf)) : Nat → Rg → St → Option (List Leaf)
  | 0, _, _ => none
  | n + 1, r, s => match f r s with
    | none => none
    | some l => bindL (iter f n) l

def hasLabel : Code → Nat → Bool
  | .seq a b, l => hasLabel a l || hasLabel b l
  | .label m, l => Nat.beq m l
  | _, _ => false

def bindG (c : Code) (f : Nat → Rg → St → Option (List Leaf)) : List Leaf → Option (List Leaf)
  | [] => some []
  | x :: l => match x.1 with
    | .goto m => match hasLabel c m with
      | true => match f m x.2.1 x.2.2, bindG c f l with
        | some a, some b => some (a ++ b)
        | _, _ => none
      | false => match bindG c f l with
        | none => none
        | some b => some (x :: b)
    | _ => match bindG c f l with
      | none => none
      | some b => some (x :: b)

def jumps (c : Code) (f : Option Nat → Rg → St → Option (List Leaf)) : Nat → Option Nat → Rg → St → Option (List Leaf)
  | 0, _, _, _ => none
  | n + 1, m, r, s => match f m r s with
    | none => none
    | some l => bindG c (fun k => jumps c f n (some k)) l

def trim (r : Rg) : Rg := ⟨r.nv, r.vars, r.long, [], r.defers⟩

def evRegion (E : Env) (cf : CallF) (g id : Nat) (ops : Array Oper) (draw : Bool) (r : Rg) (s : St) : Option (List Leaf) :=
  match draw with
  | true => match E.bad g id with
    | true => none
    | false => match evalOps1 E cf ops.toList ops.toList (trim r) s with
      | some p => some [(.normal, p.1, p.2)]
      | none => none
  | false => match evalOps E cf ops.toList ops.toList (trim r) s with
    | some l => some (toLeaf l)
    | none => none

def evCond (x y : St → Option (List Leaf)) (s : St) : Value → Option (List Leaf)
  | .bool true => x s
  | .bool false => y s
  | v => match boolS v with
    | none => none
    | some t => match dec s.facts t with
      | some true => x s
      | some false => y s
      | none => match x ⟨s.heap, s.next, (t, true) :: s.facts, s.vals⟩, y ⟨s.heap, s.next, (t, false) :: s.facts, s.vals⟩ with
        | some a, some b => some (a ++ b)
        | _, _ => none

def evalCode (E : Env) (cf : CallF) (g n : Nat) : Code → Option Nat → Rg → St → Option (List Leaf)
  | .skip, none, r, s => some [(.normal, r, s)]
  | .region id ops draw, none, r, s => evRegion E cf g id ops draw r s
  | .seq a b, m, r, s => match m with
    | none => match evalCode E cf g n a none r s with
      | some l => bindL (evalCode E cf g n b none) l
      | none => none
    | some k => match hasLabel a k with
      | true => match evalCode E cf g n a m r s with
        | some l => bindL (evalCode E cf g n b none) l
        | none => none
      | false => evalCode E cf g n b m r s
  | .cond c x y, none, r, s => evCond (evalCode E cf g n x none r) (evalCode E cf g n y none r) s (r.eval c)
  | .block id c, none, r, s => match evalCode E cf g n c none r s with
    | some l => some (outOf id l)
    | none => none
  | .loop c, none, r, s => iter (evalCode E cf g n c none) n r s
  | .exit id, none, r, s => some [(.exit id, r, s)]
  | .scope c, none, r, s => jumps c (evalCode E cf g n c) n none r s
  | .label l, m, r, s => match m with
    | none => some [(.normal, r, s)]
    | some k => match Nat.beq l k with
      | true => some [(.normal, r, s)]
      | false => none
  | .goto l, none, r, s => some [(.goto l, r, s)]
  | .ret, none, r, s => some [(.ret, r, s)]
  | _, _, _, _ => none

def resultOf (E : Env) (r : Rg) (s : St) : ResultVar → Option Value
  | .tmp t => some (r.get t)
  | .cell a t => match E.ti t, r.get a with
    | some i, .pointer (some p) => match i.agg with
      | true => (loadN s p i.size).map fun c => .agg ⟨c⟩
      | false => match loadN s p 1 with
        | some [v] => some v
        | _ => none
    | _, _ => none

def resultList (E : Env) (r : Rg) (s : St) : List ResultVar → Option (List Value)
  | [] => some []
  | x :: l => match resultOf E r s x, resultList E r s l with
    | some v, some vs => some (v :: vs)
    | _, _ => none

def noTuple : Value → Bool
  | .tuple _ => false
  | _ => true

def resultsOf (E : Env) (r : Rg) (s : St) (rs : List ResultVar) : Option Value :=
  match resultList E r s rs with
  | some [v] => some v
  | some vs => match vs.all noTuple with
    | true => some (.tuple ⟨vs⟩)
    | false => none
  | none => none

/- every deferred call is one of a function that does nothing behind a return -/
def allCalm (E : Env) : List Value → Bool
  | [] => true
  | .func (.func g) _ _ :: l => E.calm g && allCalm E l
  | _ => false

def leave (E : Env) (f : Func) : List Leaf → Option (List (Value × St))
  | [] => some []
  | x :: l => match x.1, allCalm E x.2.1.defers with
    | .normal, true => match resultsOf E x.2.1 x.2.2 f.results.toList, leave E f l with
      | some v, some b => some ((v, x.2.2) :: b)
      | _, _ => none
    | .ret, true => match resultsOf E x.2.1 x.2.2 f.results.toList, leave E f l with
      | some v, some b => some ((v, x.2.2) :: b)
      | _, _ => none
    | _, _ => none

def pad : Nat → List Value → List Value
  | 0, _ => []
  | n + 1, [] => any :: pad n []
  | n + 1, x :: l => x :: pad n l

def enter (nv : Nat) (long : List Nat) (args : List Value) : Rg :=
  ⟨nv, pad nv args, long.map (fun t => (t, any)), [], []⟩

def callF (E : Env) (n : Nat) : Nat → CallF
  | 0, _, _, _ => none
  | d + 1, g, args, s => match E.prim g with
    | some f => f args s
    | none => match E.fn g with
      | some f => match f.body with
        | some c => match evalCode E (callF E n d) g n c none (enter (E.nv g) (E.long g) args) s with
          | some l => leave E f l
          | none => none
        | none => none
      | none => none

end Go.Sx
