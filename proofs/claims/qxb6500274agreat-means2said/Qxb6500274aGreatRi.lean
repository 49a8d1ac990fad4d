import Derived.Test.Qxb6500274aGreatRh
set_option linter.unusedVariables false
set_option linter.unusedSimpArgs false
set_option maxRecDepth 20000
namespace Go.Proofs.Qxb6500274aGreat
open Go Go.RowKit Go.Sx
theorem or32 (k a c : Nat) (ha : a < 2 ^ k) (h : a + 2 ^ k * c < 4294967296) : ibin .or .u32 (a : Int) ((2 ^ k * c : Nat) : Int) = some (.int .u32 ((a + 2 ^ k * c : Nat) : Int)) := by
  have e1 : (BitVec.ofInt 32 (a : Int)).toNat = a := by rw [BitVec.toNat_ofInt]; omega
  have e2 : (BitVec.ofInt 32 ((2 ^ k * c : Nat) : Int)).toNat = 2 ^ k * c := by rw [BitVec.toNat_ofInt]; omega
  have e3 : (BitVec.ofInt 32 (a : Int) ||| BitVec.ofInt 32 ((2 ^ k * c : Nat) : Int)).toNat = a + 2 ^ k * c := by
    rw [BitVec.toNat_or, e1, e2, Nat.or_comm, ← Nat.two_pow_add_eq_or_of_lt ha, Nat.add_comm]
  show some (Value.int .u32 (IntKind.u32.wrap ((BitVec.ofInt 32 (a : Int) ||| BitVec.ofInt 32 ((2 ^ k * c : Nat) : Int)).toNat : Int))) = _
  rw [e3, wrap_u32]
  congr 2
  omega
def pgFour : List Value :=
  pgB ++ [.slice none 100 6] ++ [.slice none 100 4] ++ [.slice none 100 6] ++
    ((pgB ++ [.slice none 100 6] ++ ([.int .u64 8] ++ [.slice none 9 0]) ++ [.slice none 100 4] ++ [.slice none 100 6] ++ ([.int .u64 8] ++ [.slice none 8 0])) ++ [.slice none 6 0]) ++
    ((pgB ++ [.slice none 100 6] ++ ([.int .u64 8] ++ [.slice none 9 0]) ++ ([.int .u64 8] ++ [.slice none 9 0]) ++ [.slice none 100 4] ++ [.slice none 100 6] ++ ([.int .u64 16] ++ [.slice none 8 0])) ++ [.slice none 6 0]) ++
    ((pgB ++ [.slice none 100 6] ++ ([.int .u64 8] ++ [.slice none 9 0]) ++ ([.int .u64 8] ++ [.slice none 9 0]) ++ ([.int .u64 8] ++ [.slice none 9 0]) ++ [.slice none 100 4] ++ [.slice none 100 6] ++ ([.int .u64 24] ++ [.slice none 8 0])) ++ [.slice none 6 0]) ++
    [.slice none 100 7]
theorem badM_eq : badM = [(([.string ⟨⟨[55, 102, 58]⟩⟩, .int .i64 16] ++ (pgFour ++ [.slice none 201 2, .slice none 0 0])) ++ (([.string ⟨⟨[55, 102, 58]⟩⟩, .int .i64 16] ++ (pgB ++ [.slice none 201 2, .slice none 0 0])) ++ [.slice none 11 0, .slice none 102 0]), true)] := by kernel_rfl
section
variable {n0 : Base} {K : Kx} {S : ByteArray} {A B i kn : Int}
theorem den_shr {t : List Value} {n : Nat} (ht : Den K t (.int .u32 (n : Int))) : Den K (t ++ ([.int .u64 8] ++ [.slice none 9 0])) (.int .u32 ((n / 256 : Nat) : Int)) := by
  refine Den_bin (op := .shr) ht Den_lint ?_
  show ishift .shr .u32 (n : Int) 8 = _
  show (if (8 : Int) < 0 then none else some (Value.int .u32 ((n : Int).fdiv (2 ^ (min (8 : Int).toNat 32))))) = _
  rw [if_neg (by decide)]
  have : (2 : Int) ^ (min (8 : Int).toNat 32) = 256 := by decide
  rw [this, Int.fdiv_eq_ediv_of_nonneg _ (by decide)]
  rfl
theorem den_byte {t : List Value} {n : Nat} (ht : Den K t (.int .u32 (n : Int))) : Den K (t ++ [.slice none 100 4] ++ [.slice none 100 6]) (.int .u32 ((n % 256 : Nat) : Int)) := by
  have h := den_conv (den_conv ht 4) 6
  have e : (kindOf 6).wrap ((kindOf 4).wrap (n : Int)) = ((n % 256 : Nat) : Int) := by
    show IntKind.u32.wrap (IntKind.u8.wrap (n : Int)) = _
    rw [wrap_u8, wrap_u32]; omega
  rw [e] at h
  exact h
theorem den_shl {t : List Value} {n : Nat} (k : Nat) (hk : k ≤ 24) (hn : n < 256) (ht : Den K t (.int .u32 (n : Int))) : Den K (t ++ ([.int .u64 (k : Int)] ++ [.slice none 8 0])) (.int .u32 ((2 ^ k * n : Nat) : Int)) := by
  refine Den_bin (op := .shl) ht Den_lint ?_
  show ishift .shl .u32 (n : Int) (k : Int) = _
  show (if (k : Int) < 0 then none else some (Value.int .u32 (IntKind.u32.wrap ((n : Int) * 2 ^ (min (k : Int).toNat 32))))) = _
  rw [if_neg (by omega)]
  have e1 : min (k : Int).toNat 32 = k := by omega
  have e2 : (n : Int) * 2 ^ k = ((2 ^ k * n : Nat) : Int) := by
    rw [Int.natCast_mul, Int.mul_comm]; simp
  have h3 : 2 ^ k ≤ 2 ^ 24 := Nat.pow_le_pow_right (by decide) hk
  have h4 : 2 ^ k * n ≤ 2 ^ 24 * 255 := Nat.mul_le_mul h3 (by omega)
  rw [e1, e2, wrap_u32]
  congr 2
  omega
theorem den_four (h : Syms n0 K S A B i kn) : Den K pgFour (.int .u64 (wB S)) := by
  have hr := wB_range S
  obtain ⟨n, hn⟩ : ∃ n : Nat, wB S = n := ⟨(wB S).toNat, by omega⟩
  have hlt : n < 4294967296 := by omega
  have h0 := denB h
  rw [hn] at h0
  have q := den_conv h0 6
  have eq : (kindOf 6).wrap (n : Int) = (n : Int) := by show IntKind.u32.wrap (n : Int) = _; rw [wrap_u32]; omega
  rw [eq] at q
  have q : Den K (pgB ++ [.slice none 100 6]) (.int .u32 (n : Int)) := q
  have t0 := den_byte q
  have t1 := den_shl 8 (by decide) (Nat.mod_lt _ (by decide)) (den_byte (den_shr q))
  have t2 := den_shl 16 (by decide) (Nat.mod_lt _ (by decide)) (den_byte (den_shr (den_shr q)))
  have t3 := den_shl 24 (by decide) (Nat.mod_lt _ (by decide)) (den_byte (den_shr (den_shr (den_shr q))))
  have o1 := den_op (op := .or) t0 t1 (by decide) (by decide) (or32 8 (n % 256) (n / 256 % 256) (by omega) (by omega))
  have o2 := den_op (op := .or) o1 t2 (by decide) (by decide) (or32 16 (n % 256 + 2 ^ 8 * (n / 256 % 256)) (n / 256 / 256 % 256) (by omega) (by omega))
  have o3 := den_op (op := .or) o2 t3 (by decide) (by decide) (or32 24 (n % 256 + 2 ^ 8 * (n / 256 % 256) + 2 ^ 16 * (n / 256 / 256 % 256)) (n / 256 / 256 / 256 % 256) (by omega) (by omega))
  have o4 := den_conv o3 7
  have e4 : (kindOf 7).wrap ((n % 256 + 2 ^ 8 * (n / 256 % 256) + 2 ^ 16 * (n / 256 / 256 % 256) + 2 ^ 24 * (n / 256 / 256 / 256 % 256) : Nat) : Int) = wB S := by
    show IntKind.u64.wrap _ = _
    rw [wrap_u64, hn]; omega
  rw [e4] at o4
  exact o4
theorem bad_mem (h : Syms n0 K S A B i kn) (f) (hf : f ∈ badM) : ¬ Den K f.1 (.bool f.2) := by
  rw [badM_eq] at hf
  have e := List.mem_singleton.1 hf
  subst e
  exact no_neq (den_hex h (den_four h)) (den_hex h (denB h))
end
end Go.Proofs.Qxb6500274aGreat
