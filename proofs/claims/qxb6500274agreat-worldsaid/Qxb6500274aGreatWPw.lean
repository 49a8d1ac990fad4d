import Derived.Test.Qxb6500274aGreatNum1
import Derived.Test.Qxb6500274aGreatWSxCov2
set_option linter.unusedVariables false
set_option linter.unusedSimpArgs false
set_option maxRecDepth 20000
namespace Go.Proofs.Qxb6500274aGreat
open Go Go.RowKit Go.Sx

/- api.Word -/
def wordN (s : ByteArray) (b : Nat) : Nat → Int
  | 0 => 0
  | t + 1 => bits .or .u64 (IntKind.u64.wrap (wordN s b t * 256)) (IntKind.u64.wrap ((s.data.toList.getD (b + (7 - t)) 0).toNat : Int))
def wordF (s : ByteArray) (i : Int) : Int := if i < 0 ∨ (s.size / 8 : Nat) ≤ i then 0 else wordN s (8 * i.toNat) 8

set_option maxHeartbeats 1000000 in
theorem word_any (s : ByteArray) (i : Int) (hs : s.size ≤ 9223372036854775807) (w : World) :
    Calls Tryz.prog 64 #[.string s, .int .i64 i] w fun e w' => e = .returned (.int .u64 (wordF s i)) ∧ w' = w := by
  unfold wordF
  by_cases h1 : i < 0
  · rw [if_pos (.inl h1)]
    go_enter Tryz.func64, Tryz.ntmps64
    go_wp2
    go_ret
    exact ⟨rfl, rfl⟩
  by_cases h2 : (s.size / 8 : Nat) ≤ i
  · rw [if_pos (.inr h2)]
    go_enter Tryz.func64, Tryz.ntmps64
    go_wp2
    go_ret
    exact ⟨rfl, rfl⟩
  rw [if_neg (by omega)]
  obtain ⟨n, rfl⟩ : ∃ n : Nat, i = n := ⟨i.toNat, by omega⟩
  go_enter Tryz.func64, Tryz.ntmps64
  go_wp2
  go_loop [5, 6] (fun v k => ∃ t : Nat, t ≤ 8 ∧ k = .int .i64 (7 - (t : Int)) ∧ v = .int .u64 (wordN s (8 * n) t)) (fun _ k => (intOf k + 1).toNat)
  case atStart => exact ⟨0, by omega, rfl, rfl⟩
  case round =>
    obtain ⟨t, ht, rfl, rfl⟩ := hrel
    by_cases hlt : t < 8
    · have hb : 8 * n + (7 - t) < s.size := by omega
      have hg : s.data.toList.getD (8 * n + (7 - t)) 0 = s[8 * n + (7 - t)] := by
        rw [List.getD_eq_getElem?_getD, List.getElem?_eq_getElem (by simpa using hb)]
        rfl
      have HG : Hid (wordN s (8 * n) (t + 1) = bits .or .u64 (IntKind.u64.wrap (wordN s (8 * n) t * 256)) (IntKind.u64.wrap (s[8 * n + (7 - t)].toNat : Int))) := by
        show bits .or .u64 _ _ = _
        rw [hg]
      clear hg
      go_wp2
      go_round
      case rel => exact ⟨t + 1, by omega, by go_num, by rw [HG.out]⟩
      case measure => simp [intOf]; omega
    · have e : t = 8 := by omega
      subst e
      go_wp2
      go_ret
      exact ⟨rfl, rfl⟩
theorem wordF_range (s : ByteArray) (i : Int) : 0 ≤ wordF s i ∧ wordF s i < 18446744073709551616 := by
  unfold wordF
  split
  · decide
  · exact ⟨bits_u64_nonneg _ _ _, bits_u64_lt _ _ _⟩
theorem or_bytes (q c : Nat) (hq : q * 256 + c < 18446744073709551616) (hc : c < 256) : bits .or .u64 (IntKind.u64.wrap ((q : Int) * 256)) (IntKind.u64.wrap (c : Int)) = ((q * 256 + c : Nat) : Int) := by
  have e1 : IntKind.u64.wrap ((q : Int) * 256) = ((q * 256 : Nat) : Int) := by rw [wrap_u64]; omega
  have e2 : IntKind.u64.wrap (c : Int) = (c : Int) := by rw [wrap_u64]; omega
  rw [e1, e2]
  unfold bits
  have f1 : (BitVec.ofInt IntKind.u64.bits ((q * 256 : Nat) : Int)).toNat = q * 256 := by
    show (BitVec.ofInt 64 ((q * 256 : Nat) : Int)).toNat = _
    rw [BitVec.toNat_ofInt]
    omega
  have f2 : (BitVec.ofInt IntKind.u64.bits (c : Int)).toNat = c := by
    show (BitVec.ofInt 64 (c : Int)).toNat = _
    rw [BitVec.toNat_ofInt]
    omega
  have f3 : q * 256 ||| c = q * 256 + c := by
    have := Nat.shiftLeft_add_eq_or_of_lt (a := q) (b := c) (i := 8) (by simpa using hc)
    rw [Nat.shiftLeft_eq] at this
    exact this.symm
  have f4 : (BitVec.ofInt IntKind.u64.bits ((q * 256 : Nat) : Int) ||| BitVec.ofInt IntKind.u64.bits (c : Int)).toNat = q * 256 + c := by
    rw [BitVec.toNat_or, f1, f2, f3]
  simp only [f4, wrap_u64]
  omega
theorem word_of_bytes (s : ByteArray) (b n : Nat) (hn : n < 18446744073709551616) (h : ∀ k, k < 8 → (s.data.toList.getD (b + k) 0).toNat = n / 256 ^ k % 256) : ∀ t, t ≤ 8 → wordN s b t = ((n / 256 ^ (8 - t) : Nat) : Int)
  | 0, _ => by
    show (0 : Int) = _
    have : n / 256 ^ 8 = 0 := Nat.div_eq_of_lt (by simpa using hn)
    rw [show 8 - 0 = 8 by rfl, this]
    rfl
  | t + 1, ht => by
    have ih := word_of_bytes s b n hn h t (by omega)
    show bits .or .u64 _ _ = _
    rw [ih, h (7 - t) (by omega)]
    have hp : n / 256 ^ (8 - t) = n / 256 ^ (7 - t) / 256 := by
      rw [Nat.div_div_eq_div_mul, ← Nat.pow_succ]
      congr 2
      omega
    have hle : n / 256 ^ (7 - t) ≤ n := Nat.div_le_self _ _
    have he : 8 - (t + 1) = 7 - t := by omega
    rw [hp, he]
    generalize n / 256 ^ (7 - t) = q at hle
    rw [or_bytes (q / 256) (q % 256) (by omega) (by omega)]
    congr 1
    omega
theorem wordF_bytes (s : ByteArray) (i n : Nat) (hn : n < 18446744073709551616) (hs : 8 * i + 8 ≤ s.size) (h : ∀ k, k < 8 → (s.data.toList.getD (8 * i + k) 0).toNat = n / 256 ^ k % 256) : wordF s i = n := by
  unfold wordF
  rw [if_neg (by omega), Int.toNat_natCast, word_of_bytes s (8 * i) n hn h 8 (by omega)]
  simp
end Go.Proofs.Qxb6500274aGreat
