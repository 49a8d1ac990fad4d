import Derived.Test.Qxb6500275aGreatDoorNqA
set_option maxRecDepth 100000
set_option linter.unusedVariables false
set_option linter.unusedSimpArgs false
namespace Go.Proofs.Qxb6500275aGreatDoor
open Go Go.RowKit
def clzN (n a : Nat) : Nat := if a = 0 then n else n - 1 - a.log2
def ctzF : Nat → Nat → Nat
  | 0, _ => 0
  | k + 1, a => if a % 2 = 0 then 1 + ctzF k (a / 2) else 0
def popF : Nat → Nat → Nat
  | 0, _ => 0
  | k + 1, a => a % 2 + popF k (a / 2)
theorem ctz_at (a : Nat) : ∀ (i n : Nat), i ≤ n → a % 2 ^ i = 0 → ctzF n a = i + ctzF (n - i) (a / 2 ^ i)
  | 0, n, _, _ => by rw [Nat.pow_zero, Nat.div_one, Nat.sub_zero, Nat.zero_add]
  | i + 1, n, h, hm => by
    have h1 : a % 2 ^ i = 0 := by
      have : 2 ^ i ∣ a := Nat.dvd_trans (Nat.pow_dvd_pow 2 (Nat.le_succ i)) (Nat.dvd_of_mod_eq_zero hm)
      exact Nat.mod_eq_zero_of_dvd this
    rw [ctz_at a i n (by omega) h1]
    have h2 : a / 2 ^ i % 2 = 0 := by
      obtain ⟨c, rfl⟩ := Nat.dvd_of_mod_eq_zero hm
      rw [Nat.pow_succ, Nat.mul_assoc, Nat.mul_div_cancel_left _ (Nat.two_pow_pos i)]
      exact Nat.mul_mod_right 2 c
    obtain ⟨m, hmm⟩ : ∃ m, n - i = m + 1 := ⟨n - i - 1, by omega⟩
    rw [hmm, ctzF, if_pos h2, Nat.div_div_eq_div_mul, show (2 : Nat) ^ i * 2 = 2 ^ (i + 1) from (Nat.pow_succ ..).symm, show n - (i + 1) = m by omega]
    omega
theorem pop_at (a : Nat) : ∀ (i n : Nat), i ≤ n → popF n a = popF i a + popF (n - i) (a / 2 ^ i)
  | 0, n, _ => by rw [Nat.pow_zero, Nat.div_one, Nat.sub_zero, popF, Nat.zero_add]
  | i + 1, n, h => by
    have e : popF (i + 1) a = popF i a + a / 2 ^ i % 2 := by
      rw [pop_at a i (i + 1) (by omega), show i + 1 - i = 1 by omega, popF, popF, Nat.add_zero]
    rw [pop_at a i n (by omega), e]
    obtain ⟨m, hmm⟩ : ∃ m, n - i = m + 1 := ⟨n - i - 1, by omega⟩
    rw [hmm, popF, Nat.div_div_eq_div_mul, show (2 : Nat) ^ i * 2 = 2 ^ (i + 1) from (Nat.pow_succ ..).symm, show n - (i + 1) = m by omega]
    omega
theorem pop_le (a : Nat) : ∀ n, popF n a ≤ n
  | 0 => by rw [popF]; omega
  | n + 1 => by
    have : popF (n + 1) a = popF n a + a / 2 ^ n % 2 := by
      rw [pop_at a n (n + 1) (by omega), show n + 1 - n = 1 by omega, popF, popF, Nat.add_zero]
    have h2 := pop_le a n
    omega
theorem bit_one (y : Nat) (hy : y < 18446744073709551616) : bits .and .u64 (y : Int) 1 = ((y % 2 : Nat) : Int) := by
  have := and_mask (y : Int) 1 1 (by decide) (by decide) (by omega)
  rw [Int.toNat_natCast, Nat.pow_one] at this
  exact this
set_option maxHeartbeats 4000000 in
theorem intUn_32_0 (a : Nat) (ha : a < 4294967296) (w : World) : Calls Tryz.prog 287 #[.int .i64 0, .int .i64 32, .int .u64 a] w (Pq w (.int .u64 ((clzN 32 a : Nat) : Int))) := by
  obtain ⟨Z, HZ⟩ : ∃ Z : Nat, Hid (Z = clzN 32 a) := ⟨_, rfl⟩
  rw [← HZ.out]
  have ha2 : a < 18446744073709551616 := by omega
  go_enter Tryz.func287, Tryz.ntmps287
  go_wp2_with fail
  go_loopw [7, 8] (fun cc ii u => ∃ (c : Nat) (v : Int), v + c + 1 = 32 ∧ c ≤ 32 ∧ ii = .int .i64 v ∧ cc = .int .u64 c ∧ u = w ∧ Hid (a < 2 ^ (32 - c))) (fun _ ii _ => (intOf ii + 1).toNat)
  case atStart => exact ⟨0, 31, by omega, by omega, rfl, rfl, rfl, ha⟩
  case round =>
    obtain ⟨c, v, hvc, hcn, rfl, rfl, rfl, HA⟩ := hrel
    by_cases hv : 0 ≤ v
    · obtain ⟨j, rfl⟩ : ∃ j : Nat, v = (j : Int) := ⟨v.toNat, by omega⟩
      have hjl : j < 32 := by omega
      have hlt := HA.out
      rw [show 32 - c = j + 1 by omega, Nat.pow_succ] at hlt
      obtain ⟨y, hy⟩ : ∃ y : Nat, a / 2 ^ j = y := ⟨_, rfl⟩
      have hyi : (a : Int) / 2 ^ j = (y : Int) := by rw [← hy]; simp
      have hyl : y < 2 := by
        rw [← hy, Nat.div_lt_iff_lt_mul (Nat.two_pow_pos j)]; omega
      have hbit := bit_one y (by omega)
      have hvi : (0 : Int) ≤ (j : Int) := by omega
      by_cases hy0 : y = 0
      · have H2 : Hid (a < 2 ^ (32 - (c + 1))) := by
          show a < _
          rw [show 32 - (c + 1) = j by omega]
          rw [hy0] at hy
          exact (Nat.div_eq_zero_iff_lt (Nat.two_pow_pos j)).1 hy
        subst hy0
        have hbit0 : bits .and .u64 0 1 = 0 := hbit
        clear hy hlt hbit
        go_wp2_with fail
        go_roundw
        case rel =>
          refine ⟨c + 1, (j : Int) - 1, by omega, by omega, rfl, ?_, by trivial, H2⟩
          exact congrArg _ (by omega)
        case measure => first | (simp [intOf]; done) | (simp [intOf]; omega)
      · have hy1 : y = 1 := by omega
        have hge : 2 ^ j ≤ a := by
          have := (Nat.le_div_iff_mul_le (Nat.two_pow_pos j) (x := 1) (y := a)).1 (by omega)
          omega
        have hz := HZ.out
        have hlog : a.log2 = j := by
          have h0 : a ≠ 0 := by have := Nat.two_pow_pos j; omega
          have a1 := (Nat.le_log2 (k := j) h0).2 hge
          have a2 := (Nat.log2_lt (k := j + 1) h0).2 (by rw [Nat.pow_succ]; exact hlt)
          omega
        have hZc : (c : Int) = (Z : Int) := by
          rw [hz]
          unfold clzN
          have h0 : a ≠ 0 := by have := Nat.two_pow_pos j; omega
          rw [if_neg h0, hlog]
          omega
        subst hy1
        have hbit1 : bits .and .u64 1 1 = 1 := hbit
        clear hy hlt hz hlog hge hbit
        have HZc : Hid ((c : Int) = (Z : Int)) := hZc
        clear hZc
        go_wp2_with fail
        refine bodyPost_ret (v := .int .u64 (c : Int)) (by simp [results, Tryz.results287, go_sem]) rfl ?_
        exact ⟨u64_eqa HZc.out, rfl⟩
    · have hv1 : v = -1 := by omega
      have hc1 : c = 32 := by omega
      subst hv1 hc1
      have hz := HZ.out
      have ha0 : a = 0 := by
        have := HA.out
        rw [show 32 - 32 = 0 by decide, Nat.pow_zero] at this
        omega
      have HZc : Hid (Z = 32) := by
        show Z = _
        rw [hz]; unfold clzN; rw [if_pos ha0]
      clear hz ha0
      go_wp2_with fail
      refine bodyPost_ret (v := .int .u64 32) (by simp [results, Tryz.results287, go_sem]) rfl ?_
      exact ⟨u64_eqa (by rw [HZc.out]; rfl), rfl⟩
set_option maxHeartbeats 4000000 in
theorem intUn_32_1 (a : Nat) (ha : a < 4294967296) (w : World) : Calls Tryz.prog 287 #[.int .i64 1, .int .i64 32, .int .u64 a] w (Pq w (.int .u64 ((ctzF 32 a : Nat) : Int))) := by
  obtain ⟨Z, HZ⟩ : ∃ Z : Nat, Hid (Z = ctzF 32 a) := ⟨_, rfl⟩
  rw [← HZ.out]
  have ha2 : a < 18446744073709551616 := by omega
  go_enter Tryz.func287, Tryz.ntmps287
  go_wp2_with fail
  go_loopw [7, 9] (fun cc ii u => ∃ (c : Nat), c ≤ 32 ∧ ii = .int .i64 c ∧ cc = .int .u64 c ∧ u = w ∧ Hid (a % 2 ^ c = 0)) (fun _ ii _ => (32 - intOf ii).toNat)
  case atStart => exact ⟨0, by omega, rfl, rfl, rfl, by show _ = _; rw [Nat.pow_zero, Nat.mod_one]⟩
  case round =>
    obtain ⟨c, hcn, rfl, rfl, rfl, HA⟩ := hrel
    by_cases hv : c < 32
    · have hvi : (c : Int) < 32 := by omega
      obtain ⟨y, hy⟩ : ∃ y : Nat, a / 2 ^ c = y := ⟨_, rfl⟩
      have hyi : (a : Int) / 2 ^ c = (y : Int) := by rw [← hy]; simp
      have hyl : y < 18446744073709551616 := by rw [← hy]; exact Nat.lt_of_le_of_lt (Nat.div_le_self _ _) ha2
      have hbit := bit_one y hyl
      by_cases hy0 : y % 2 = 0
      · have H2 : Hid (a % 2 ^ (c + 1) = 0) := by
          show _ = _
          rw [Nat.pow_succ, Nat.mod_mul, hy, hy0, HA.out, Nat.mul_zero]
        rw [hy0] at hbit
        have hbit0 : bits .and .u64 (y : Int) 1 = 0 := hbit
        clear hy hbit
        go_wp2_with fail
        go_roundw
        case rel =>
          refine ⟨c + 1, by omega, ?_, ?_, by trivial, H2⟩
          · exact congrArg _ (by omega)
          · exact congrArg _ (by omega)
        case measure => first | (simp [intOf]; done) | (simp [intOf]; omega)
      · have hy1 : y % 2 = 1 := by omega
        rw [hy1] at hbit
        have hbit1 : bits .and .u64 (y : Int) 1 = 1 := hbit
        have HZc : Hid ((c : Int) = (Z : Int)) := by
          show _ = _
          rw [HZ.out, ctz_at a c 32 hcn HA.out, hy]
          obtain ⟨m, hm⟩ : ∃ m, 32 - c = m + 1 := ⟨32 - c - 1, by omega⟩
          rw [hm, ctzF, if_neg hy0]
          rfl
        clear hy hbit
        go_wp2_with fail
        refine bodyPost_ret (v := .int .u64 (c : Int)) (by simp [results, Tryz.results287, go_sem]) rfl ?_
        exact ⟨u64_eqa HZc.out, rfl⟩
    · have hc1 : c = 32 := by omega
      subst hc1
      have HZc : Hid (Z = 32) := by
        show Z = _
        rw [HZ.out, ctz_at a 32 32 hcn HA.out, Nat.sub_self, ctzF]
      go_wp2_with fail
      refine bodyPost_ret (v := .int .u64 32) (by simp [results, Tryz.results287, go_sem]) rfl ?_
      exact ⟨u64_eqa (by rw [HZc.out]; rfl), rfl⟩
set_option maxHeartbeats 4000000 in
theorem intUn_32_2 (a : Nat) (ha : a < 4294967296) (w : World) : Calls Tryz.prog 287 #[.int .i64 2, .int .i64 32, .int .u64 a] w (Pq w (.int .u64 ((popF 32 a : Nat) : Int))) := by
  obtain ⟨Z, HZ⟩ : ∃ Z : Nat, Hid (Z = popF 32 a) := ⟨_, rfl⟩
  rw [← HZ.out]
  have ha2 : a < 18446744073709551616 := by omega
  go_enter Tryz.func287, Tryz.ntmps287
  go_wp2_with fail
  go_loopw [7, 10] (fun cc ii u => ∃ (i c : Nat), i ≤ 32 ∧ c ≤ 32 ∧ ii = .int .i64 i ∧ cc = .int .u64 c ∧ u = w ∧ Hid (c = popF i a)) (fun _ ii _ => (32 - intOf ii).toNat)
  case atStart => exact ⟨0, 0, by omega, by omega, rfl, rfl, rfl, rfl⟩
  case round =>
    obtain ⟨i, c, hin, hcn, rfl, rfl, rfl, HA⟩ := hrel
    by_cases hv : i < 32
    · have hvi : (i : Int) < 32 := by omega
      obtain ⟨y, hy⟩ : ∃ y : Nat, a / 2 ^ i = y := ⟨_, rfl⟩
      have hyi : (a : Int) / 2 ^ i = (y : Int) := by rw [← hy]; simp
      have hyl : y < 18446744073709551616 := by rw [← hy]; exact Nat.lt_of_le_of_lt (Nat.div_le_self _ _) ha2
      have hbit := bit_one y hyl
      have hp1 : c + y % 2 = popF (i + 1) a := by
        rw [pop_at a i (i + 1) (by omega), show i + 1 - i = 1 by omega, popF, popF, Nat.add_zero, hy, ← HA.out]
      have hp2 := pop_le a (i + 1)
      have H2 : Hid (c + y % 2 = popF (i + 1) a) := hp1
      have hcl : c + y % 2 ≤ 32 := by omega
      have hm2 : y % 2 < 2 := Nat.mod_lt _ (by decide)
      clear hy hp1 hp2
      generalize y % 2 = p at *
      go_wp2_with fail
      go_roundw
      case rel =>
        refine ⟨i + 1, c + p, by omega, by omega, ?_, ?_, by trivial, H2⟩
        · exact congrArg _ (by omega)
        · exact congrArg _ (by omega)
      case measure => first | (simp [intOf]; done) | (simp [intOf]; omega)
    · have hc1 : i = 32 := by omega
      subst hc1
      have HZc : Hid ((c : Int) = (Z : Int)) := by
        show _ = _
        rw [HZ.out, HA.out]
      go_wp2_with fail
      refine bodyPost_ret (v := .int .u64 (c : Int)) (by simp [results, Tryz.results287, go_sem]) rfl ?_
      exact ⟨u64_eqa HZc.out, rfl⟩
set_option maxHeartbeats 4000000 in
theorem intUn_64_0 (a : Nat) (ha : a < 18446744073709551616) (w : World) : Calls Tryz.prog 287 #[.int .i64 0, .int .i64 64, .int .u64 a] w (Pq w (.int .u64 ((clzN 64 a : Nat) : Int))) := by
  obtain ⟨Z, HZ⟩ : ∃ Z : Nat, Hid (Z = clzN 64 a) := ⟨_, rfl⟩
  rw [← HZ.out]
  have ha2 : a < 18446744073709551616 := by omega
  go_enter Tryz.func287, Tryz.ntmps287
  go_wp2_with fail
  go_loopw [7, 8] (fun cc ii u => ∃ (c : Nat) (v : Int), v + c + 1 = 64 ∧ c ≤ 64 ∧ ii = .int .i64 v ∧ cc = .int .u64 c ∧ u = w ∧ Hid (a < 2 ^ (64 - c))) (fun _ ii _ => (intOf ii + 1).toNat)
  case atStart => exact ⟨0, 63, by omega, by omega, rfl, rfl, rfl, ha⟩
  case round =>
    obtain ⟨c, v, hvc, hcn, rfl, rfl, rfl, HA⟩ := hrel
    by_cases hv : 0 ≤ v
    · obtain ⟨j, rfl⟩ : ∃ j : Nat, v = (j : Int) := ⟨v.toNat, by omega⟩
      have hjl : j < 64 := by omega
      have hlt := HA.out
      rw [show 64 - c = j + 1 by omega, Nat.pow_succ] at hlt
      obtain ⟨y, hy⟩ : ∃ y : Nat, a / 2 ^ j = y := ⟨_, rfl⟩
      have hyi : (a : Int) / 2 ^ j = (y : Int) := by rw [← hy]; simp
      have hyl : y < 2 := by
        rw [← hy, Nat.div_lt_iff_lt_mul (Nat.two_pow_pos j)]; omega
      have hbit := bit_one y (by omega)
      have hvi : (0 : Int) ≤ (j : Int) := by omega
      by_cases hy0 : y = 0
      · have H2 : Hid (a < 2 ^ (64 - (c + 1))) := by
          show a < _
          rw [show 64 - (c + 1) = j by omega]
          rw [hy0] at hy
          exact (Nat.div_eq_zero_iff_lt (Nat.two_pow_pos j)).1 hy
        subst hy0
        have hbit0 : bits .and .u64 0 1 = 0 := hbit
        clear hy hlt hbit
        go_wp2_with fail
        go_roundw
        case rel =>
          refine ⟨c + 1, (j : Int) - 1, by omega, by omega, rfl, ?_, by trivial, H2⟩
          exact congrArg _ (by omega)
        case measure => first | (simp [intOf]; done) | (simp [intOf]; omega)
      · have hy1 : y = 1 := by omega
        have hge : 2 ^ j ≤ a := by
          have := (Nat.le_div_iff_mul_le (Nat.two_pow_pos j) (x := 1) (y := a)).1 (by omega)
          omega
        have hz := HZ.out
        have hlog : a.log2 = j := by
          have h0 : a ≠ 0 := by have := Nat.two_pow_pos j; omega
          have a1 := (Nat.le_log2 (k := j) h0).2 hge
          have a2 := (Nat.log2_lt (k := j + 1) h0).2 (by rw [Nat.pow_succ]; exact hlt)
          omega
        have hZc : (c : Int) = (Z : Int) := by
          rw [hz]
          unfold clzN
          have h0 : a ≠ 0 := by have := Nat.two_pow_pos j; omega
          rw [if_neg h0, hlog]
          omega
        subst hy1
        have hbit1 : bits .and .u64 1 1 = 1 := hbit
        clear hy hlt hz hlog hge hbit
        have HZc : Hid ((c : Int) = (Z : Int)) := hZc
        clear hZc
        go_wp2_with fail
        refine bodyPost_ret (v := .int .u64 (c : Int)) (by simp [results, Tryz.results287, go_sem]) rfl ?_
        exact ⟨u64_eqa HZc.out, rfl⟩
    · have hv1 : v = -1 := by omega
      have hc1 : c = 64 := by omega
      subst hv1 hc1
      have hz := HZ.out
      have ha0 : a = 0 := by
        have := HA.out
        rw [show 64 - 64 = 0 by decide, Nat.pow_zero] at this
        omega
      have HZc : Hid (Z = 64) := by
        show Z = _
        rw [hz]; unfold clzN; rw [if_pos ha0]
      clear hz ha0
      go_wp2_with fail
      refine bodyPost_ret (v := .int .u64 64) (by simp [results, Tryz.results287, go_sem]) rfl ?_
      exact ⟨u64_eqa (by rw [HZc.out]; rfl), rfl⟩
set_option maxHeartbeats 4000000 in
theorem intUn_64_1 (a : Nat) (ha : a < 18446744073709551616) (w : World) : Calls Tryz.prog 287 #[.int .i64 1, .int .i64 64, .int .u64 a] w (Pq w (.int .u64 ((ctzF 64 a : Nat) : Int))) := by
  obtain ⟨Z, HZ⟩ : ∃ Z : Nat, Hid (Z = ctzF 64 a) := ⟨_, rfl⟩
  rw [← HZ.out]
  have ha2 : a < 18446744073709551616 := by omega
  go_enter Tryz.func287, Tryz.ntmps287
  go_wp2_with fail
  go_loopw [7, 9] (fun cc ii u => ∃ (c : Nat), c ≤ 64 ∧ ii = .int .i64 c ∧ cc = .int .u64 c ∧ u = w ∧ Hid (a % 2 ^ c = 0)) (fun _ ii _ => (64 - intOf ii).toNat)
  case atStart => exact ⟨0, by omega, rfl, rfl, rfl, by show _ = _; rw [Nat.pow_zero, Nat.mod_one]⟩
  case round =>
    obtain ⟨c, hcn, rfl, rfl, rfl, HA⟩ := hrel
    by_cases hv : c < 64
    · have hvi : (c : Int) < 64 := by omega
      obtain ⟨y, hy⟩ : ∃ y : Nat, a / 2 ^ c = y := ⟨_, rfl⟩
      have hyi : (a : Int) / 2 ^ c = (y : Int) := by rw [← hy]; simp
      have hyl : y < 18446744073709551616 := by rw [← hy]; exact Nat.lt_of_le_of_lt (Nat.div_le_self _ _) ha2
      have hbit := bit_one y hyl
      by_cases hy0 : y % 2 = 0
      · have H2 : Hid (a % 2 ^ (c + 1) = 0) := by
          show _ = _
          rw [Nat.pow_succ, Nat.mod_mul, hy, hy0, HA.out, Nat.mul_zero]
        rw [hy0] at hbit
        have hbit0 : bits .and .u64 (y : Int) 1 = 0 := hbit
        clear hy hbit
        go_wp2_with fail
        go_roundw
        case rel =>
          refine ⟨c + 1, by omega, ?_, ?_, by trivial, H2⟩
          · exact congrArg _ (by omega)
          · exact congrArg _ (by omega)
        case measure => first | (simp [intOf]; done) | (simp [intOf]; omega)
      · have hy1 : y % 2 = 1 := by omega
        rw [hy1] at hbit
        have hbit1 : bits .and .u64 (y : Int) 1 = 1 := hbit
        have HZc : Hid ((c : Int) = (Z : Int)) := by
          show _ = _
          rw [HZ.out, ctz_at a c 64 hcn HA.out, hy]
          obtain ⟨m, hm⟩ : ∃ m, 64 - c = m + 1 := ⟨64 - c - 1, by omega⟩
          rw [hm, ctzF, if_neg hy0]
          rfl
        clear hy hbit
        go_wp2_with fail
        refine bodyPost_ret (v := .int .u64 (c : Int)) (by simp [results, Tryz.results287, go_sem]) rfl ?_
        exact ⟨u64_eqa HZc.out, rfl⟩
    · have hc1 : c = 64 := by omega
      subst hc1
      have HZc : Hid (Z = 64) := by
        show Z = _
        rw [HZ.out, ctz_at a 64 64 hcn HA.out, Nat.sub_self, ctzF]
      go_wp2_with fail
      refine bodyPost_ret (v := .int .u64 64) (by simp [results, Tryz.results287, go_sem]) rfl ?_
      exact ⟨u64_eqa (by rw [HZc.out]; rfl), rfl⟩
set_option maxHeartbeats 4000000 in
theorem intUn_64_2 (a : Nat) (ha : a < 18446744073709551616) (w : World) : Calls Tryz.prog 287 #[.int .i64 2, .int .i64 64, .int .u64 a] w (Pq w (.int .u64 ((popF 64 a : Nat) : Int))) := by
  obtain ⟨Z, HZ⟩ : ∃ Z : Nat, Hid (Z = popF 64 a) := ⟨_, rfl⟩
  rw [← HZ.out]
  have ha2 : a < 18446744073709551616 := by omega
  go_enter Tryz.func287, Tryz.ntmps287
  go_wp2_with fail
  go_loopw [7, 10] (fun cc ii u => ∃ (i c : Nat), i ≤ 64 ∧ c ≤ 64 ∧ ii = .int .i64 i ∧ cc = .int .u64 c ∧ u = w ∧ Hid (c = popF i a)) (fun _ ii _ => (64 - intOf ii).toNat)
  case atStart => exact ⟨0, 0, by omega, by omega, rfl, rfl, rfl, rfl⟩
  case round =>
    obtain ⟨i, c, hin, hcn, rfl, rfl, rfl, HA⟩ := hrel
    by_cases hv : i < 64
    · have hvi : (i : Int) < 64 := by omega
      obtain ⟨y, hy⟩ : ∃ y : Nat, a / 2 ^ i = y := ⟨_, rfl⟩
      have hyi : (a : Int) / 2 ^ i = (y : Int) := by rw [← hy]; simp
      have hyl : y < 18446744073709551616 := by rw [← hy]; exact Nat.lt_of_le_of_lt (Nat.div_le_self _ _) ha2
      have hbit := bit_one y hyl
      have hp1 : c + y % 2 = popF (i + 1) a := by
        rw [pop_at a i (i + 1) (by omega), show i + 1 - i = 1 by omega, popF, popF, Nat.add_zero, hy, ← HA.out]
      have hp2 := pop_le a (i + 1)
      have H2 : Hid (c + y % 2 = popF (i + 1) a) := hp1
      have hcl : c + y % 2 ≤ 64 := by omega
      have hm2 : y % 2 < 2 := Nat.mod_lt _ (by decide)
      clear hy hp1 hp2
      generalize y % 2 = p at *
      go_wp2_with fail
      go_roundw
      case rel =>
        refine ⟨i + 1, c + p, by omega, by omega, ?_, ?_, by trivial, H2⟩
        · exact congrArg _ (by omega)
        · exact congrArg _ (by omega)
      case measure => first | (simp [intOf]; done) | (simp [intOf]; omega)
    · have hc1 : i = 64 := by omega
      subst hc1
      have HZc : Hid ((c : Int) = (Z : Int)) := by
        show _ = _
        rw [HZ.out, HA.out]
      go_wp2_with fail
      refine bodyPost_ret (v := .int .u64 (c : Int)) (by simp [results, Tryz.results287, go_sem]) rfl ?_
      exact ⟨u64_eqa HZc.out, rfl⟩
end Go.Proofs.Qxb6500275aGreatDoor
