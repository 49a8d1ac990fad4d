import Derived.Test.Qxb6500274aGreatWSx
namespace Go.Sx
open Go

/- functions of the program that are not run but known by what they answer -/

/- v in n hexadecimal signs -/
def hexD (d : Nat) : UInt8 := if d < 10 then UInt8.ofNat (48 + d) else UInt8.ofNat (87 + d)
def hexL : Nat → Nat → List UInt8
  | _, 0 => []
  | v, n + 1 => hexL (v / 16) n ++ [hexD (v % 16)]

/- the eight bytes of the word that u answers -/
def isWord (u : List Value) : Nat → List Value → Bool
  | k, [] => Nat.beq k 8
  | k, c :: l => eqToks (u ++ [.slice none 108 k]) (toks c) && isWord u (k + 1) l

/- api.Word, of a text of known length -/
def primWord : List Value → St → Option (List (Value × St))
  | [x, .int .i64 i], s => match bytesS x, decide (0 ≤ i) with
    | some c, true => match Nat.ble (8 * i.toNat + 8) c.length && Nat.ble c.length 4294967295 with
      | true => match (c.drop (8 * i.toNat)).take 8 with
        | b :: l => match isWord (toks b).dropLast 0 (b :: l) with
          | true => one (symv (.int .u64 0) (toks b).dropLast) s
          | false => none
        | [] => none
      | false => none
    | _, _ => none
  | _, _ => none

/- a word's sign number k, the lowest being 0 -/
def hexCell (t : List Value) (k : Nat) : Value :=
  symv (.int .u8 0) (t ++ [.int .u64 (Int.ofNat (4 * k)), .slice none 9 0, .int .u64 15, .slice none 5 0, .slice none 107 0])
def hexCells (t : List Value) : Nat → List Value
  | 0 => []
  | n + 1 => hexCell t n :: hexCells t n

/- api.Hex -/
def primHex : List Value → St → Option (List (Value × St))
  | [.int .u64 v, .int .i64 n], s => match (decide (0 ≤ v) && decide (v < 18446744073709551616)) && (decide (1 ≤ n) && decide (n ≤ 16)) with
    | true => one (.string ⟨⟨hexL v.toNat n.toNat⟩⟩) s
    | false => none
  | [.func (.yield m) t sh, .int .i64 n], s => match kindI (.func (.yield m) t sh), decide (1 ≤ n) && decide (n ≤ 16) with
    | some .u64, true => one (mkS (hexCells t.toList n.toNat)) s
    | _, _ => none
  | _, _ => none

/- valid.constOf -/
def primConst : List Value → St → Option (List (Value × St))
  | [.int .u8 n], s => match decide (n < 65) || decide (n > 68) with
    | true => one (.int .u8 0) s
    | false => one (.int .u8 (IntKind.u8.wrap (127 - IntKind.u8.wrap (n - 65)))) s
  | _, _ => none

/- bin.New -/
def primBin : List Value → St → Option (List (Value × St))
  | [], s =>
    let a := newBlk s (rep [.int .u8 0, .int .u32 0, .int .u64 0] 96) 0
    let b := newBlk a.2 (rep [.int .u32 0] 24) 0
    let c := newBlk b.2 [.int .i64 0, .int .i64 0, .int .i64 0, .int .i64 0, .int .i64 0, .int .i64 0, .int .i64 0, .int .i64 0, .int .i64 0, .int .u8 0, .int .u8 0, .int .u8 0, .int .u8 0, .int .u8 0, .int .u8 0, .int .i64 0, .slice (some a.1) 96 96, .int .i64 0, .slice (some b.1) 24 24, .int .i64 0, .slice none 0 0, .slice none 0 0, .slice none 0 0] 0
    one (.pointer (some c.1)) c.2
  | _, _ => none

/- host.New -/
def primHost : List Value → St → Option (List (Value × St))
  | [], s =>
    let a := newBlk s (rep [.nilIface] 4) 0
    let b := newBlk a.2 (rep [.int .u8 0] 864) 0
    let c := newBlk b.2 [.slice (some a.1) 0 4, .int .u64 0, .int .u64 0, .int .u64 0, .int .u64 0, .int .u64 0, .int .u64 0, .int .i64 0, .int .i64 0, .slice (some b.1) 0 864, .int .i64 0] 0
    one (.pointer (some c.1)) c.2
  | _, _ => none

end Go.Sx
