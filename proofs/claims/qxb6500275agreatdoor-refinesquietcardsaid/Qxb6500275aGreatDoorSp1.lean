import Derived.Test.Qxb6500275aGreatDoorKp
set_option linter.unusedVariables false
namespace Go.Proofs.Qxb6500275aGreatDoor
open Go Go.RowKit
/- an instruction -/
structure Ins where
  op : Nat
  x : Int
  y : Int
def Ins.val (i : Ins) : Value := .agg #[.int .u8 i.op, .int .u32 i.x, .int .u64 i.y]
/- THE READER, as plain functions: 'R': the value and the next place, or the fault and its place -/
abbrev R (α : Type) := Except (Int × Nat) (α × Nat)
def bAt (s : ByteArray) (p : Nat) : Nat := (s.data.toList.getD p 0).toNat
theorem bAt_get (s : ByteArray) (p : Nat) (h : p < s.size) : s[p].toNat = bAt s p := by
  unfold bAt
  rw [List.getD_eq_getElem?_getD, List.getElem?_eq_getElem (by simpa using h)]
  rfl
theorem bAt_lt (s : ByteArray) (p : Nat) : bAt s p < 256 := by unfold bAt; exact UInt8.toNat_lt _
def nextS (s : ByteArray) (p e : Nat) : R Nat := if p < e then .ok (bAt s p, p + 1) else .error (3, e)
def orAt (v : Int) (k c : Nat) : Int := bits .or .u32 v ((c : Int) % 128 * 2 ^ (7 * k) % 4294967296)
theorem wrap32_r (n : Int) : 0 ≤ IntKind.u32.wrap n ∧ IntKind.u32.wrap n < 4294967296 := by rw [IntKind.wrap_u32]; omega
theorem bits32 (op : BinOp) (a b : Int) : 0 ≤ bits op .u32 a b ∧ bits op .u32 a b < 4294967296 := wrap32_r _
def u32L (s : ByteArray) (e start : Nat) : Nat → Int → Nat → R Int
  | 0, _, _ => .error (4, start)
  | n + 1, v, q => if q < e then (if n = 0 ∧ 15 < bAt s q then .error (4, start) else
      if bAt s q < 128 then .ok (orAt v (4 - n) (bAt s q), q + 1) else u32L s e start n (orAt v (4 - n) (bAt s q)) (q + 1)) else .error (3, e)
def u32S (s : ByteArray) (p e : Nat) : R Int := u32L s e p 5 0 p
theorem u32L_ok (s : ByteArray) (e start : Nat) : ∀ (n : Nat) (v : Int) (q : Nat) (x : Int) (r : Nat), u32L s e start n v q = .ok (x, r) → (0 ≤ x ∧ x < 4294967296) ∧ q < r ∧ r ≤ e
  | 0, v, q, x, r, h => by simp [u32L] at h
  | n + 1, v, q, x, r, h => by
    unfold u32L at h
    split at h
    · split at h
      · simp at h
      · split at h
        · simp at h
          obtain ⟨rfl, rfl⟩ := h
          exact ⟨bits32 _ _ _, by omega, by omega⟩
        · have := u32L_ok s e start n _ _ x r h
          exact ⟨this.1, by omega, this.2.2⟩
    · simp at h
theorem u32S_ok {s : ByteArray} {p e : Nat} {x : Int} {r : Nat} (h : u32S s p e = .ok (x, r)) : (0 ≤ x ∧ x < 4294967296) ∧ p < r ∧ r ≤ e := u32L_ok s e p 5 0 p x r h
def countS (s : ByteArray) (p e : Nat) (mx : Int) : R Int :=
  match u32S s p e with
  | .error f => .error f
  | .ok (n, q) => if n > mx then .error (7, p) else .ok (n, q)
theorem countS_ok {s : ByteArray} {p e : Nat} {mx x : Int} {r : Nat} (h : countS s p e mx = .ok (x, r)) : (0 ≤ x ∧ x ≤ mx) ∧ p < r ∧ r ≤ e := by
  unfold countS at h
  split at h
  · simp at h
  · rename_i n q hu
    have := u32S_ok hu
    split at h
    · simp at h
    · simp at h
      obtain ⟨rfl, rfl⟩ := h
      exact ⟨⟨this.1.1, by omega⟩, this.2⟩
def takeS (s : ByteArray) (p e n : Nat) : R ByteArray := if e - p < n then .error (3, e) else .ok (s.extract p (p + n), p + n)
def nameS (s : ByteArray) (p e : Nat) : R ByteArray :=
  match countS s p e 8 with
  | .error f => .error f
  | .ok (n, q) => takeS s q e n.toNat
def fixedS (s : ByteArray) (p e : Nat) (want : Nat) : R Unit :=
  if p < e then (if bAt s p = want then .ok ((), p + 1) else .error (8, p)) else .error (3, e)
def flagS (s : ByteArray) (p e : Nat) (mx : Nat) : R Nat :=
  if p < e then (if mx < bAt s p then .error (8, p) else .ok (bAt s p, p + 1)) else .error (3, e)
def valtypeS (s : ByteArray) (p e : Nat) : R Nat :=
  if p < e then (if bAt s p < 124 ∨ 127 < bAt s p then .error (9, p) else .ok (bAt s p, p + 1)) else .error (3, e)
/- n value types -/
def valtypesL (s : ByteArray) (e : Nat) : Nat → Nat → Except (Int × Nat) Nat
  | 0, q => .ok q
  | n + 1, q => match valtypeS s q e with
    | .error f => .error f
    | .ok (_, r) => valtypesL s e n r
theorem valtypeS_ok {s : ByteArray} {p e v q : Nat} (h : valtypeS s p e = .ok (v, q)) : q = p + 1 ∧ q ≤ e ∧ v = bAt s p := by
  unfold valtypeS at h
  split at h
  · split at h
    · simp at h
    · simp at h
      obtain ⟨rfl, rfl⟩ := h
      exact ⟨rfl, by omega, rfl⟩
  · simp at h
theorem valtypesL_ok {s : ByteArray} {e : Nat} : ∀ (n p q : Nat), valtypesL s e n p = .ok q → q = p + n
  | 0, p, q, h => by simp [valtypesL] at h; omega
  | n + 1, p, q, h => by
    unfold valtypesL at h
    split at h
    · simp at h
    · rename_i v r hv
      have := valtypesL_ok n r q h
      have := (valtypeS_ok hv).1
      omega
def valtypesS (s : ByteArray) (p e : Nat) (mx : Int) : R ByteArray :=
  match countS s p e mx with
  | .error f => .error f
  | .ok (n, q) => match valtypesL s e n.toNat q with
    | .error f => .error f
    | .ok r => .ok (s.extract q r, r)
def limitsS (s : ByteArray) (p e : Nat) : R (Int × Int) :=
  match flagS s p e 1 with
  | .error f => .error f
  | .ok (f, q) => match u32S s q e with
    | .error f => .error f
    | .ok (lo, r) => if f = 0 then .ok ((lo, -1), r) else match u32S s r e with
      | .error f => .error f
      | .ok (hi, t) => .ok ((lo, hi), t)
/- the content's first byte, and where the window ends -/
def enterS (s : ByteArray) (p e : Nat) : Except (Int × Nat) (Nat × Nat) :=
  match u32S s p e with
  | .error f => .error f
  | .ok (n, q) => if n > (e : Int) - q then .error (3, p) else .ok (q, q + n.toNat)
/- a signed number of bt bits -/
theorem wrap64_r (n : Int) : 0 ≤ IntKind.u64.wrap n ∧ IntKind.u64.wrap n < 18446744073709551616 := by simp only [IntKind.wrap, IntKind.bits, IntKind.signed]; constructor <;> (simp; omega)
theorem bits64 (op : BinOp) (a b : Int) : 0 ≤ bits op .u64 a b ∧ bits op .u64 a b < 18446744073709551616 := wrap64_r _
def or64 (v : Int) (k c : Nat) : Int := bits .or .u64 v (IntKind.u64.wrap ((c : Int) % 128 * 2 ^ (7 * k)))
def xV (v : Int) (k : Nat) : Int := wrap64 (IntKind.u64.wrap (v * 2 ^ (64 - 7 * k))) / 2 ^ (64 - 7 * k)
def slebEnd (bt start k cc : Nat) (v : Int) (q : Nat) : R Int :=
  if 64 < 7 * k then (if cc = 0 ∨ cc = 127 then .ok (v, q) else .error (4, start))
  else if bt = 32 then (if xV v k < -2147483648 ∨ 2147483647 < xV v k then .error (4, start) else .ok (xV v k % 4294967296, q))
  else .ok (IntKind.u64.wrap (xV v k), q)
def slebL (s : ByteArray) (e start bt : Nat) : Nat → Nat → Int → Nat → Except (Int × Nat) (Nat × Nat × Int × Nat)
  | 0, _, _, _ => .error (4, start)
  | n + 1, k, v, q => if bt ≤ 7 * k then .error (4, start) else if q < e then
      (if bAt s q < 128 then .ok (k + 1, bAt s q % 128, or64 v k (bAt s q), q + 1) else slebL s e start bt n (k + 1) (or64 v k (bAt s q)) (q + 1)) else .error (3, e)
def slebS (s : ByteArray) (p e bt : Nat) : R Int :=
  match slebL s e p bt 11 0 0 p with
  | .error f => .error f
  | .ok (k, cc, v, q) => slebEnd bt p k cc v q
theorem slebL_ok (s : ByteArray) (e start bt : Nat) : ∀ (n k : Nat) (v : Int) (q k' cc : Nat) (v' : Int) (q' : Nat), slebL s e start bt n k v q = .ok (k', cc, v', q') → (0 ≤ v' ∧ v' < 18446744073709551616) ∧ q < q' ∧ q' ≤ e
  | 0, k, v, q, k', cc, v', q', h => by simp [slebL] at h
  | n + 1, k, v, q, k', cc, v', q', h => by
    unfold slebL at h
    split at h
    · simp at h
    · split at h
      · split at h
        · simp at h
          obtain ⟨_, _, rfl, rfl⟩ := h
          exact ⟨bits64 _ _ _, by omega, by omega⟩
        · have := slebL_ok s e start bt n _ _ _ _ _ _ _ h
          exact ⟨this.1, by omega, this.2.2⟩
      · simp at h
theorem slebS_ok {s : ByteArray} {p e bt : Nat} {x : Int} {r : Nat} (h : slebS s p e bt = .ok (x, r)) : (0 ≤ x ∧ x < 18446744073709551616) ∧ p < r ∧ r ≤ e := by
  unfold slebS at h
  split at h
  · simp at h
  · rename_i k cc v q hl
    have hb := slebL_ok _ _ _ _ _ _ _ _ _ _ _ _ hl
    unfold slebEnd at h
    split at h
    · split at h
      · simp at h; obtain ⟨rfl, rfl⟩ := h; exact hb
      · simp at h
    · split at h
      · split at h
        · simp at h
        · simp at h; obtain ⟨rfl, rfl⟩ := h; exact ⟨by omega, hb.2⟩
      · simp at h; obtain ⟨rfl, rfl⟩ := h; exact ⟨wrap64_r _, hb.2⟩
/- a word of the bytes of t -/
def byteD (t : ByteArray) (i : Nat) : Nat := if i < t.size then bAt t i else 0
def wordL (t : ByteArray) : Nat → Int
  | 0 => 0
  | j + 1 => bits .or .u64 (IntKind.u64.wrap (wordL t j * 256)) (byteD t (7 - j))
def wordS (s : ByteArray) (p e n : Nat) : R Int :=
  match takeS s p e n with
  | .error f => .error f
  | .ok (t, q) => .ok (wordL t 8, q)
end Go.Proofs.Qxb6500275aGreatDoor
