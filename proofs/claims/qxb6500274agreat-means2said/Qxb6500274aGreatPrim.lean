import Derived.Test.Qxb6500274aGreatSx
namespace Go.Sx
open Go

/- functions of the program that are not run but known by what they answer -/

/- v in n hexadecimal signs -/
def hexD (d : Nat) : UInt8 := if d < 10 then UInt8.ofNat (48 + d) else UInt8.ofNat (87 + d)
def hexL : Nat → Nat → List UInt8
  | _, 0 => []
  | v, n + 1 => hexL (v / 16) n ++ [hexD (v % 16)]

/- a text of eight bytes -/
def eight (fs : List (List Value × Bool)) (x : Value) : Bool :=
  match look (toks x ++ [.slice none 101 0, .int .i64 8, .slice none 12 0]) fs with
  | some false => true
  | _ => false

/- api.Word -/
def primWord : List Value → St → Option (List (Value × St))
  | [x, .int .i64 i], s => match mostS x with
    | some m => match Nat.ble m 9223372036854775807 with
      | true => match decide (1 ≤ i) && eight s.facts x with
        | true => one (.int .u64 0) s
        | false => one (known s.vals (symv (.int .u64 0) (.int .i64 i :: (toks x ++ [.slice none 200 2])))) s
      | false => none
    | none => none
  | _, _ => none

/- api.Hex -/
def primHex : List Value → St → Option (List (Value × St))
  | [.int .u64 v, .int .i64 n], s => match (decide (0 ≤ v) && decide (v < 18446744073709551616)) && (decide (1 ≤ n) && decide (n ≤ 16)) with
    | true => one (.string ⟨⟨hexL v.toNat n.toNat⟩⟩) s
    | false => none
  | [x, .int .i64 n], s => match kindI x, inR x && (decide (1 ≤ n) && decide (n ≤ 16)) with
    | some .u64, true => one (known s.vals (symv (.slice none n.toNat 0) (.int .i64 n :: (toks x ++ [.slice none 201 2])))) s
    | _, _ => none
  | _, _ => none

/- a word's low half -/
def low (v : Value) : Value :=
  match v with
  | .int _ n => .int .u32 (IntKind.u32.wrap n)
  | v => symv (.int .u32 0) (toks v ++ [.slice none 100 6])
def wide (v : Value) : Value :=
  match v with
  | .int _ n => .int .u64 (IntKind.u64.wrap n)
  | v => symv (.int .u64 0) (toks v ++ [.slice none 100 7])
def bin2 (op : BinOp) (x y : Value) : Option Value :=
  match x, y with
  | .int k a, .int k' b => binC op k a k' b
  | x, y => symBin [] op x y
where
  binC (op : BinOp) (k : IntKind) (a : Int) (k' : IntKind) (b : Int) : Option Value :=
    match op with
    | .shl => ishift .shl k a b
    | op => if k = k' then ibin op k a b else none

def is8 : Value → Bool
  | .int .u64 n => decide (n = 8)
  | _ => false

/- num.Apply -/
def primApply : List Value → St → Option (List (Value × St))
  | [.int .i64 o, x, y], s => match kindI x, kindI y, inR x && inR y with
    | some .u64, some .u64, true => match decide (o = 107) with
      | true => applyBin .sub (low x) (low y) s
      | false => match decide (o = 114) with
        | true => applyBin .or (low x) (low y) s
        | false => match decide (o = 116) && is8 y with
          | true => applyBin .shl (low x) (.int .u32 8) s
          | false => one (.tuple #[known s.vals (symv (.int .u64 0) (.int .i64 o :: (toks y ++ (toks x ++ [.slice none 202 3])))), known s.vals (symv (.int .i64 0) (.int .i64 o :: (toks y ++ (toks x ++ [.slice none 203 3]))))]) s
    | _, _, _ => none
  | _, _ => none
where
  applyBin (op : BinOp) (a b : Value) (s : St) : Option (List (Value × St)) :=
    match bin2 op a b with
    | some w => one (.tuple #[wide w, .int .i64 0]) s
    | none => none

/- valid.constOf -/
def primConst : List Value → St → Option (List (Value × St))
  | [.int .u8 n], s => match decide (n < 65) || decide (n > 68) with
    | true => one (.int .u8 0) s
    | false => one (.int .u8 (IntKind.u8.wrap (127 - IntKind.u8.wrap (n - 65)))) s
  | _, _ => none

/- bin.New -/
def primBin : List Value → St → Option (List (Value × St))
  | [], s =>
    let a := newBlk s (rep [.int .u8 0, .int .u32 0, .int .u64 0] 96) 0
    let b := newBlk a.2 (rep [.int .u32 0] 24) 0
    let c := newBlk b.2 [.int .i64 0, .int .i64 0, .int .i64 0, .int .i64 0, .int .i64 0, .int .i64 0, .int .i64 0, .int .i64 0, .int .i64 0, .int .u8 0, .int .u8 0, .int .u8 0, .int .u8 0, .int .u8 0, .int .u8 0, .int .i64 0, .slice (some a.1) 96 96, .int .i64 0, .slice (some b.1) 24 24, .int .i64 0, .slice none 0 0, .slice none 0 0, .slice none 0 0] 0
    one (.pointer (some c.1)) c.2
  | _, _ => none

/- host.New -/
def primHost : List Value → St → Option (List (Value × St))
  | [], s =>
    let a := newBlk s (rep [.nilIface] 4) 0
    let b := newBlk a.2 (rep [.int .u8 0] 864) 0
    let c := newBlk b.2 [.slice (some a.1) 0 4, .int .u64 0, .int .u64 0, .int .u64 0, .int .u64 0, .int .u64 0, .int .u64 0, .int .i64 0, .int .i64 0, .slice (some b.1) 0 864, .int .i64 0] 0
    one (.pointer (some c.1)) c.2
  | _, _ => none

end Go.Sx
