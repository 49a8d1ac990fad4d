import Derived.Test.Qxb6500274aGreatRe
set_option linter.unusedVariables false
set_option linter.unusedSimpArgs false
set_option maxRecDepth 20000
namespace Go.Proofs.Qxb6500274aGreat
open Go Go.RowKit Go.Sx
theorem and32 (q : Int) (h : 0 ≤ q ∧ q < 18446744073709551616) : bits .and .u64 q 4294967295 = q % 4294967296 := by
  unfold bits
  obtain ⟨n, rfl⟩ : ∃ n : Nat, q = n := ⟨q.toNat, by omega⟩
  have e : (BitVec.ofInt IntKind.u64.bits (n : Int) &&& BitVec.ofInt IntKind.u64.bits 4294967295).toNat = n % 4294967296 := by
    have e1 : (BitVec.ofInt IntKind.u64.bits (n : Int)).toNat = n := by
      show (BitVec.ofInt 64 (n : Int)).toNat = n
      rw [BitVec.toNat_ofInt]
      omega
    rw [BitVec.toNat_and, e1]
    show n &&& 4294967295 = n % 4294967296
    exact Nat.and_two_pow_sub_one_eq_mod n 32
  simp only [e, wrap_u64]
  omega
/- a step's words, and what the programs over them answer -/
structure Syms (n0 : Base) (K : Kx) (S : ByteArray) (A B i kn : Int) : Prop where
  s0 : K.sy 0 = .string S
  s1 : K.sy 1 = .int .i64 A
  s3 : K.sy 3 = .int .i64 B
  s8 : K.sy 8 = .int .i64 i
  s50 : K.sy 50 = .int .i64 kn
  pf : K.pf = n0.pf
  ok : PfOK n0
def wA (S : ByteArray) : Int := wordF S 0 % 4294967296
def wB (S : ByteArray) : Int := wordF S 1 % 4294967296
section
variable {n0 : Base} {K : Kx} {S : ByteArray} {A B i kn : Int}
theorem Syms.mono (h : Syms n0 K S A B i kn) {K' : Kx} (hle : K.le K') : Syms n0 K' S A B i kn :=
  ⟨by rw [hle.sy]; exact h.s0, by rw [hle.sy]; exact h.s1, by rw [hle.sy]; exact h.s3, by rw [hle.sy]; exact h.s8, by rw [hle.sy]; exact h.s50, hle.pf.trans h.pf, h.ok⟩
theorem wA_range (S : ByteArray) : 0 ≤ wA S ∧ wA S < 4294967296 := by unfold wA; omega
theorem wB_range (S : ByteArray) : 0 ≤ wB S ∧ wB S < 4294967296 := by unfold wB; omega
theorem Den_sy {j : Nat} {v : Value} (h : K.sy j = v) : Den K [.chan (some j)] v := fun st => by simp [rpn, tok1, h]
theorem Den_lit {v : Value} (h : ∀ st, tok1 K v st = some (v :: st)) : Den K [v] v := fun st => by simp [rpn, h]
theorem Den_lint {k : IntKind} {n : Int} : Den K [.int k n] (.int k n) := fun _ => rfl
theorem Den_lstr {s : ByteArray} : Den K [.string s] (.string s) := fun _ => rfl
theorem den_word (h : Syms n0 K S A B i kn) (j : Int) : Den K (.int .i64 j :: ([.chan (some 0)] ++ [.slice none 200 2])) (.int .u64 (wordF S j)) :=
  Den_pf2 (by decide) (Den_sy h.s0) (by rw [h.pf]; exact h.ok.word S j)
theorem den_and {t : List Value} {q : Int} (ht : Den K t (.int .u64 q)) (hq : 0 ≤ q ∧ q < 18446744073709551616) : Den K (t ++ ([.int .u64 4294967295] ++ [.slice none 5 0])) (.int .u64 (q % 4294967296)) := by
  refine Den_bin (op := .and) ht Den_lint ?_
  show ibin .and .u64 q 4294967295 = _
  show some (Value.int .u64 (bits .and .u64 q 4294967295)) = _
  rw [and32 q hq]
theorem denA (h : Syms n0 K S A B i kn) : Den K pgA (.int .u64 (wA S)) := den_and (den_word h 0) (wordF_range S 0)
theorem denB (h : Syms n0 K S A B i kn) : Den K pgB (.int .u64 (wB S)) := den_and (den_word h 1) (wordF_range S 1)
theorem den_conv {t : List Value} {k : IntKind} {q : Int} (ht : Den K t (.int k q)) (j : Nat) : Den K (t ++ [.slice none 100 j]) (.int (kindOf j) ((kindOf j).wrap q)) := Den_snoc1 ht (fun st => rfl)
theorem denA64 (h : Syms n0 K S A B i kn) : Den K pgA64 (.int .u64 (wA S)) := by
  have h1 := den_conv (den_conv (denA h) 6) 7
  have hr := wA_range S
  have e : (kindOf 7).wrap ((kindOf 6).wrap (wA S)) = wA S := by
    show IntKind.u64.wrap (IntKind.u32.wrap (wA S)) = wA S
    rw [wrap_u32, wrap_u64]; omega
  rw [e] at h1
  have e2 : pgA64 = pgA ++ [.slice none 100 6] ++ [.slice none 100 7] := rfl
  rw [e2]
  exact h1
theorem den_op {op : BinOp} {t u : List Value} {k : IntKind} {a b : Int} {v : Value} (ht : Den K t (.int k a)) (hu : Den K u (.int k b)) (h1 : op ≠ .shl) (h2 : op ≠ .shr) (h : ibin op k a b = some v) : Den K (t ++ (u ++ [.slice none (opN op) 0])) v :=
  Den_bin ht hu (by rw [binV_int h1 h2]; exact h)
theorem den_len (h : Syms n0 K S A B i kn) : Den K pgLen (.int .i64 S.data.toList.length) := Den_snoc1 (Den_sy h.s0) (fun st => rfl)
theorem den_down (h : Syms n0 K S A B i kn) : ∀ n : Nat, Den K (pgDown n) (.int .u64 ((wB S - n) % 4294967296))
  | 0 => by
    have := denB h
    have hr := wB_range S
    have e : (wB S - ((0 : Nat) : Int)) % 4294967296 = wB S := by omega
    rw [e]
    exact this
  | n + 1 => by
    have h1 := den_conv (den_down h n) 6
    have h2 := den_op (op := .sub) (u := [.int .u32 1]) h1 Den_lint (by decide) (by decide) rfl
    have h3 := den_conv h2 7
    have e : (kindOf 7).wrap (IntKind.u32.wrap ((kindOf 6).wrap ((wB S - (n : Nat)) % 4294967296) - 1)) = (wB S - ((n + 1 : Nat) : Int)) % 4294967296 := by
      show IntKind.u64.wrap (IntKind.u32.wrap (IntKind.u32.wrap ((wB S - (n : Nat)) % 4294967296) - 1)) = _
      rw [wrap_u32, wrap_u32, wrap_u64]; omega
    have h4 : Den K (pgDown n ++ [.slice none 100 6] ++ ([.int .u32 1] ++ [.slice none (opN .sub) 0]) ++ [.slice none 100 7]) (.int .u64 ((wB S - ((n + 1 : Nat) : Int)) % 4294967296)) := by
      rw [← e]; exact h3
    have e2 : pgDown (n + 1) = pgDown n ++ [.slice none 100 6] ++ ([.int .u32 1] ++ [.slice none (opN .sub) 0]) ++ [.slice none 100 7] := by
      simp [pgDown, opN]
    rw [e2]
    exact h4
/- A, less one at 32 bits n times -/
def pgDownA : Nat → List Value
  | 0 => pgA
  | n + 1 => pgDownA n ++ [.slice none 100 6, .int .u32 1, .slice none 1 0, .slice none 100 7]
theorem den_downA (h : Syms n0 K S A B i kn) : ∀ n : Nat, Den K (pgDownA n) (.int .u64 ((wA S - n) % 4294967296))
  | 0 => by
    have := denA h
    have hr := wA_range S
    have e : (wA S - ((0 : Nat) : Int)) % 4294967296 = wA S := by omega
    rw [e]
    exact this
  | n + 1 => by
    have h1 := den_conv (den_downA h n) 6
    have h2 := den_op (op := .sub) (u := [.int .u32 1]) h1 Den_lint (by decide) (by decide) rfl
    have h3 := den_conv h2 7
    have e : (kindOf 7).wrap (IntKind.u32.wrap ((kindOf 6).wrap ((wA S - (n : Nat)) % 4294967296) - 1)) = (wA S - ((n + 1 : Nat) : Int)) % 4294967296 := by
      show IntKind.u64.wrap (IntKind.u32.wrap (IntKind.u32.wrap ((wA S - (n : Nat)) % 4294967296) - 1)) = _
      rw [wrap_u32, wrap_u32, wrap_u64]; omega
    have h4 : Den K (pgDownA n ++ [.slice none 100 6] ++ ([.int .u32 1] ++ [.slice none (opN .sub) 0]) ++ [.slice none 100 7]) (.int .u64 ((wA S - ((n + 1 : Nat) : Int)) % 4294967296)) := by
      rw [← e]; exact h3
    have e2 : pgDownA (n + 1) = pgDownA n ++ [.slice none 100 6] ++ ([.int .u32 1] ++ [.slice none (opN .sub) 0]) ++ [.slice none 100 7] := by
      simp [pgDownA, opN]
    rw [e2]
    exact h4
theorem binV_cat {a b : ByteArray} (h : a.data.toList.length + b.data.toList.length < 4294967296) : binV .add (.string a) (.string b) = some (.string ⟨⟨a.data.toList ++ b.data.toList⟩⟩) := by
  simp only [binV, sbin]
  rw [if_pos h]
/- the answer's text -/
def hexTxt (v : Int) : ByteArray := ⟨⟨[55, 102, 58] ++ hexL v.toNat 16⟩⟩
theorem den_hex (h : Syms n0 K S A B i kn) {t : List Value} {v : Int} (ht : Den K t (.int .u64 v)) : Den K ([.string ⟨⟨[55, 102, 58]⟩⟩, .int .i64 16] ++ (t ++ [.slice none 201 2, .slice none 0 0])) (.string (hexTxt v)) := by
  have h1 : Den K (.int .i64 16 :: (t ++ [.slice none 201 2])) (.string ⟨⟨hexL v.toNat 16⟩⟩) := Den_pf2 (by decide) ht (by rw [h.pf]; exact h.ok.hex v 16)
  have h2 : Den K ([.string ⟨⟨[55, 102, 58]⟩⟩] ++ ((.int .i64 16 :: (t ++ [.slice none 201 2])) ++ [.slice none (opN .add) 0])) (.string (hexTxt v)) := by
    exact Den_bin (op := .add) Den_lstr h1 (binV_cat (by simp [hexL_length]))
  have e : [Value.string ⟨⟨[55, 102, 58]⟩⟩, .int .i64 16] ++ (t ++ [.slice none 201 2, .slice none 0 0]) = [.string ⟨⟨[55, 102, 58]⟩⟩] ++ ((.int .i64 16 :: (t ++ [.slice none 201 2])) ++ [.slice none (opN .add) 0]) := by simp [opN]
  rw [e]
  exact h2
theorem den_neq {x y : List Value} {a b : ByteArray} (hx : Den K x (.string a)) (hy : Den K y (.string b)) : Den K (x ++ (y ++ [.slice none 11 0, .slice none 102 0])) (.bool (!(a.data.toList == b.data.toList))) := by
  have h1 : Den K (x ++ (y ++ [.slice none (opN .eql) 0])) (.bool (a.data.toList == b.data.toList)) := Den_bin (op := .eql) hx hy rfl
  have h2 := Den_snoc1 (o := 102) (a := 0) (d := .bool (!(a.data.toList == b.data.toList))) h1 (fun st => rfl)
  have e : x ++ (y ++ [Value.slice none 11 0, .slice none 102 0]) = x ++ (y ++ [.slice none (opN .eql) 0]) ++ [.slice none 102 0] := by simp [opN]
  rw [e]
  exact h2
theorem no_neq {x y : List Value} {a : ByteArray} (hx : Den K x (.string a)) (hy : Den K y (.string a)) : ¬ Den K (x ++ (y ++ [.slice none 11 0, .slice none 102 0])) (.bool true) := by
  intro hd
  have := (den_neq hx hy).uniq hd
  simp at this
end
end Go.Proofs.Qxb6500274aGreat
