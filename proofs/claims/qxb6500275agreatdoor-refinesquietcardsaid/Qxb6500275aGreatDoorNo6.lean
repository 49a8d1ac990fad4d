import Derived.Test.Qxb6500275aGreatDoorNo4
set_option maxRecDepth 100000
set_option linter.unusedVariables false
set_option linter.unusedSimpArgs false
namespace Go.Proofs.Qxb6500275aGreatDoor
open Go Go.RowKit
set_option maxHeartbeats 4000000 in
theorem ri64_121 (a b : Nat) (ha : a < 18446744073709551616) (hb : b < 18446744073709551616) (w : World) : Calls Tryz.prog 175 #[.int .i64 121, .int .u64 (a : Int), .int .u64 (b : Int)] w fun e' w' => e' = .returned (.tuple #[.int .u64 (((iunM 64 0 a, 0).1 : Nat) : Int), .int .i64 (((iunM 64 0 a, 0).2 : Nat) : Int)]) ∧ w' = w := by
  unfold iunM
  rw [if_pos rfl]
  have hc := fun w => clz64_x a ha w
  generalize clzN 64 a = c at *
  go_enter Tryz.func175, Tryz.ntmps175
  go_wp2_with (first | (go_at_call 218; refine (hc _).mono ?_; rintro e w2 ⟨rfl, rfl⟩))
  go_ret2
  refine ⟨ret2_eq ?_ rfl, rfl⟩
  rfl
set_option maxHeartbeats 4000000 in
theorem ri64_122 (a b : Nat) (ha : a < 18446744073709551616) (hb : b < 18446744073709551616) (w : World) : Calls Tryz.prog 175 #[.int .i64 122, .int .u64 (a : Int), .int .u64 (b : Int)] w fun e' w' => e' = .returned (.tuple #[.int .u64 (((iunM 64 1 a, 0).1 : Nat) : Int), .int .i64 (((iunM 64 1 a, 0).2 : Nat) : Int)]) ∧ w' = w := by
  unfold iunM
  rw [if_neg (by decide), if_pos rfl]
  have hcp := ctz_pop 64 a ha
  have hx : 18446744073709551615 ^^^ a = 18446744073709551615 - a := xor_ones 64 a ha
  have f1 := bits_xor_n 18446744073709551615 a (by decide) ha
  rw [hx] at f1
  have f1' : bits .xor .u64 IntKind.u64.max (a : Int) = ((18446744073709551615 - a : Nat) : Int) := f1
  rw [show (2 : Nat) ^ 64 - 1 = 18446744073709551615 by decide, show (2 : Nat) ^ 64 = 18446744073709551616 by decide] at hcp
  have hml : (a + 18446744073709551615) % 18446744073709551616 < 18446744073709551616 := Nat.mod_lt _ (by decide)
  have f2 := bits_and_n (18446744073709551615 - a) ((a + 18446744073709551615) % 18446744073709551616) (by omega) hml
  have f3 : IntKind.u64.wrap ((a : Int) - 1) = (((a + 18446744073709551615) % 18446744073709551616 : Nat) : Int) := by rw [wrap_u64]; omega
  obtain ⟨z, hz⟩ : ∃ z : Nat, (18446744073709551615 - a) &&& ((a + 18446744073709551615) % 18446744073709551616) = z := ⟨_, rfl⟩
  have hzl : z < 18446744073709551616 := by rw [← hz]; exact Nat.lt_of_le_of_lt Nat.and_le_left (by omega)
  rw [hz] at f2 hcp
  obtain ⟨u, hu⟩ : ∃ u : Nat, 18446744073709551615 - a = u := ⟨_, rfl⟩
  have hul : u < 18446744073709551616 := by omega
  rw [hu] at f1' f2
  generalize (a + 18446744073709551615) % 18446744073709551616 = v at *
  have hc := fun w => pop64_x z hzl w
  rw [hcp] at hc
  generalize ctzF 64 a = c at *
  clear hz hcp hx f1 hu
  go_enter Tryz.func175, Tryz.ntmps175
  go_wp2_with fail
  refine (hc _).mono ?_
  rintro e w2 ⟨rfl, rfl⟩
  go_wp2_with fail
  go_ret2
  refine ⟨ret2_eq ?_ rfl, rfl⟩
  rfl
set_option maxHeartbeats 4000000 in
theorem ri64_123 (a b : Nat) (ha : a < 18446744073709551616) (hb : b < 18446744073709551616) (w : World) : Calls Tryz.prog 175 #[.int .i64 123, .int .u64 (a : Int), .int .u64 (b : Int)] w fun e' w' => e' = .returned (.tuple #[.int .u64 (((iunM 64 2 a, 0).1 : Nat) : Int), .int .i64 (((iunM 64 2 a, 0).2 : Nat) : Int)]) ∧ w' = w := by
  unfold iunM
  rw [if_neg (by decide), if_neg (by decide)]
  have hc := fun w => pop64_x a ha w
  generalize popF 64 a = c at *
  go_enter Tryz.func175, Tryz.ntmps175
  go_wp2_with (first | (go_at_call 219; refine (hc _).mono ?_; rintro e w2 ⟨rfl, rfl⟩))
  go_ret2
  refine ⟨ret2_eq ?_ rfl, rfl⟩
  rfl
set_option maxHeartbeats 4000000 in
theorem ri64_124 (a b : Nat) (ha : a < 18446744073709551616) (hb : b < 18446744073709551616) (w : World) : Calls Tryz.prog 175 #[.int .i64 124, .int .u64 (a : Int), .int .u64 (b : Int)] w fun e' w' => e' = .returned (.tuple #[.int .u64 (((ibinM 64 0 a b).1 : Nat) : Int), .int .i64 (((ibinM 64 0 a b).2 : Nat) : Int)]) ∧ w' = w := by
  unfold ibinM
  rw [if_pos rfl]
  rw [show (2 : Nat) ^ 64 = 18446744073709551616 by decide]
  dsimp only
  go_enter Tryz.func175, Tryz.ntmps175
  go_wp2
  go_ret2
  refine ⟨ret2_eq ?_ rfl, rfl⟩
  rw [wrap_u64]
  omega
set_option maxHeartbeats 4000000 in
theorem ri64_125 (a b : Nat) (ha : a < 18446744073709551616) (hb : b < 18446744073709551616) (w : World) : Calls Tryz.prog 175 #[.int .i64 125, .int .u64 (a : Int), .int .u64 (b : Int)] w fun e' w' => e' = .returned (.tuple #[.int .u64 (((ibinM 64 1 a b).1 : Nat) : Int), .int .i64 (((ibinM 64 1 a b).2 : Nat) : Int)]) ∧ w' = w := by
  unfold ibinM
  rw [if_neg (by decide), if_pos rfl]
  rw [show (2 : Nat) ^ 64 = 18446744073709551616 by decide]
  dsimp only
  go_enter Tryz.func175, Tryz.ntmps175
  go_wp2
  go_ret2
  refine ⟨ret2_eq ?_ rfl, rfl⟩
  rw [wrap_u64]
  omega
set_option maxHeartbeats 4000000 in
theorem ri64_126 (a b : Nat) (ha : a < 18446744073709551616) (hb : b < 18446744073709551616) (w : World) : Calls Tryz.prog 175 #[.int .i64 126, .int .u64 (a : Int), .int .u64 (b : Int)] w fun e' w' => e' = .returned (.tuple #[.int .u64 (((ibinM 64 2 a b).1 : Nat) : Int), .int .i64 (((ibinM 64 2 a b).2 : Nat) : Int)]) ∧ w' = w := by
  unfold ibinM
  rw [if_neg (by decide), if_neg (by decide), if_pos rfl]
  rw [show (2 : Nat) ^ 64 = 18446744073709551616 by decide]
  dsimp only
  go_enter Tryz.func175, Tryz.ntmps175
  go_wp2
  go_ret2
  refine ⟨ret2_eq ?_ rfl, rfl⟩
  rw [wrap_u64]
  simp
set_option maxHeartbeats 4000000 in
theorem ri64_127 (a b : Nat) (ha : a < 18446744073709551616) (hb : b < 18446744073709551616) (w : World) : Calls Tryz.prog 175 #[.int .i64 127, .int .u64 (a : Int), .int .u64 (b : Int)] w fun e' w' => e' = .returned (.tuple #[.int .u64 (((ibinM 64 3 a b).1 : Nat) : Int), .int .i64 (((ibinM 64 3 a b).2 : Nat) : Int)]) ∧ w' = w := by
  unfold ibinM
  rw [if_neg (by decide), if_neg (by decide), if_neg (by decide), if_pos rfl]
  by_cases h0 : b = 0
  · subst h0
    have e : divM true 64 a 0 = (0, 39) := by unfold divM; rw [if_pos rfl]
    rw [e]
    go_enter Tryz.func175, Tryz.ntmps175
    go_wp2
    go_ret2
    refine ⟨ret2_eq ?_ rfl, rfl⟩
    rfl
  obtain ⟨d1, d2, d3⟩ := dv_64 a b ha hb h0
  have hzi : ¬ (b : Int) = 0 := by omega
  have hz : ¬ wrap64 (b : Int) = 0 := by unfold wrap64; omega
  by_cases h1 : a = 9223372036854775808
  · subst h1
    by_cases h2 : b = 18446744073709551615
    · subst h2
      rw [d2 ⟨rfl, rfl⟩]
      clear d1 d2 d3
      go_enter Tryz.func175, Tryz.ntmps175
      go_wp2
      go_ret2
      refine ⟨ret2_eq ?_ rfl, rfl⟩
      rfl
    · rw [d1 (by omega)]
      have h2i : ¬ (b : Int) = 18446744073709551615 := by omega
      dsimp only
      obtain ⟨T, hT⟩ : ∃ T : Int, (wrap64 ((9223372036854775808 : Nat) : Int)).tdiv (wrap64 (b : Int)) = T := ⟨_, rfl⟩
      rw [hT]
      have hw : wrap64 ((9223372036854775808 : Nat) : Int) = -9223372036854775808 := by unfold wrap64; omega
      have hw2 : wrap64 9223372036854775808 = -9223372036854775808 := hw
      rw [hw] at hT
      clear d1 d2 d3
      go_enter Tryz.func175, Tryz.ntmps175
      go_wp2
      go_ret2
      refine ⟨ret2_eq ?_ rfl, rfl⟩
      rw [wrap_u64]
      first | (unfold wrap64; omega) | (rw [hT]; unfold wrap64; omega) | (rw [hw2, hT]; unfold wrap64; omega)
  · rw [d1 (by omega)]
    have h1i : ¬ (a : Int) = 9223372036854775808 := by omega
    dsimp only
    obtain ⟨T, hT⟩ : ∃ T : Int, (wrap64 (a : Int)).tdiv (wrap64 (b : Int)) = T := ⟨_, rfl⟩
    rw [hT]
    clear d1 d2 d3
    go_enter Tryz.func175, Tryz.ntmps175
    go_wp2
    go_ret2
    refine ⟨ret2_eq ?_ rfl, rfl⟩
    rw [wrap_u64]
    first | (unfold wrap64; omega) | (rw [hT]; unfold wrap64; omega)
set_option maxHeartbeats 4000000 in
theorem ri64_128 (a b : Nat) (ha : a < 18446744073709551616) (hb : b < 18446744073709551616) (w : World) : Calls Tryz.prog 175 #[.int .i64 128, .int .u64 (a : Int), .int .u64 (b : Int)] w fun e' w' => e' = .returned (.tuple #[.int .u64 (((ibinM 64 4 a b).1 : Nat) : Int), .int .i64 (((ibinM 64 4 a b).2 : Nat) : Int)]) ∧ w' = w := by
  unfold ibinM
  rw [if_neg (by decide), if_neg (by decide), if_neg (by decide), if_neg (by decide), if_pos rfl]
  by_cases h0 : b = 0
  · rw [if_pos h0]
    subst h0
    go_enter Tryz.func175, Tryz.ntmps175
    go_wp2
    go_ret2
    refine ⟨ret2_eq ?_ rfl, rfl⟩
    rfl
  · rw [if_neg h0]
    have hzi : ¬ (b : Int) = 0 := by omega
    dsimp only
    obtain ⟨q, hq⟩ : ∃ q : Nat, a / b = q := ⟨_, rfl⟩
    have hqi : (a : Int) / (b : Int) = (q : Int) := by rw [← hq]; simp
    have hqt : (a : Int).tdiv (b : Int) = (q : Int) := by rw [tdiv_nat, hq]
    have hql : q ≤ a := by rw [← hq]; exact Nat.div_le_self _ _
    rw [hq]
    clear hq
    go_enter Tryz.func175, Tryz.ntmps175
    go_wp2
    go_ret2
    refine ⟨ret2_eq ?_ rfl, rfl⟩
    first | rfl | omega | (rw [wrap_u64]; omega)
set_option maxHeartbeats 4000000 in
theorem ri64_129 (a b : Nat) (ha : a < 18446744073709551616) (hb : b < 18446744073709551616) (w : World) : Calls Tryz.prog 175 #[.int .i64 129, .int .u64 (a : Int), .int .u64 (b : Int)] w fun e' w' => e' = .returned (.tuple #[.int .u64 (((ibinM 64 5 a b).1 : Nat) : Int), .int .i64 (((ibinM 64 5 a b).2 : Nat) : Int)]) ∧ w' = w := by
  unfold ibinM
  rw [if_neg (by decide), if_neg (by decide), if_neg (by decide), if_neg (by decide), if_neg (by decide), if_pos rfl]
  by_cases h0 : b = 0
  · subst h0
    have e : divM false 64 a 0 = (0, 39) := by unfold divM; rw [if_pos rfl]
    rw [e]
    go_enter Tryz.func175, Tryz.ntmps175
    go_wp2
    go_ret2
    refine ⟨ret2_eq ?_ rfl, rfl⟩
    rfl
  obtain ⟨d1, d2, d3⟩ := dv_64 a b ha hb h0
  have hzi : ¬ (b : Int) = 0 := by omega
  have hz : ¬ wrap64 (b : Int) = 0 := by unfold wrap64; omega
  rw [d3]
  dsimp only
  obtain ⟨T, hT⟩ : ∃ T : Int, (wrap64 (a : Int)).tmod (wrap64 (b : Int)) = T := ⟨_, rfl⟩
  rw [hT]
  clear d1 d2 d3
  go_enter Tryz.func175, Tryz.ntmps175
  go_wp2
  go_ret2
  refine ⟨ret2_eq ?_ rfl, rfl⟩
  rw [wrap_u64]
  first | omega | (rw [hT]; omega)
set_option maxHeartbeats 4000000 in
theorem ri64_130 (a b : Nat) (ha : a < 18446744073709551616) (hb : b < 18446744073709551616) (w : World) : Calls Tryz.prog 175 #[.int .i64 130, .int .u64 (a : Int), .int .u64 (b : Int)] w fun e' w' => e' = .returned (.tuple #[.int .u64 (((ibinM 64 6 a b).1 : Nat) : Int), .int .i64 (((ibinM 64 6 a b).2 : Nat) : Int)]) ∧ w' = w := by
  unfold ibinM
  rw [if_neg (by decide), if_neg (by decide), if_neg (by decide), if_neg (by decide), if_neg (by decide), if_neg (by decide), if_pos rfl]
  by_cases h0 : b = 0
  · rw [if_pos h0]
    subst h0
    go_enter Tryz.func175, Tryz.ntmps175
    go_wp2
    go_ret2
    refine ⟨ret2_eq ?_ rfl, rfl⟩
    rfl
  · rw [if_neg h0]
    have hzi : ¬ (b : Int) = 0 := by omega
    dsimp only
    obtain ⟨q, hq⟩ : ∃ q : Nat, a % b = q := ⟨_, rfl⟩
    have hqi : (a : Int) % (b : Int) = (q : Int) := by rw [← hq]; simp
    have hqt : (a : Int).tmod (b : Int) = (q : Int) := by rw [tmod_nat, hq]
    have hql : q ≤ a := by rw [← hq]; exact Nat.mod_le _ _
    rw [hq]
    clear hq
    go_enter Tryz.func175, Tryz.ntmps175
    go_wp2
    go_ret2
    refine ⟨ret2_eq ?_ rfl, rfl⟩
    first | rfl | omega | (rw [wrap_u64]; omega)
set_option maxHeartbeats 4000000 in
theorem ri64_131 (a b : Nat) (ha : a < 18446744073709551616) (hb : b < 18446744073709551616) (w : World) : Calls Tryz.prog 175 #[.int .i64 131, .int .u64 (a : Int), .int .u64 (b : Int)] w fun e' w' => e' = .returned (.tuple #[.int .u64 (((ibinM 64 7 a b).1 : Nat) : Int), .int .i64 (((ibinM 64 7 a b).2 : Nat) : Int)]) ∧ w' = w := by
  unfold ibinM
  rw [if_neg (by decide), if_neg (by decide), if_neg (by decide), if_neg (by decide), if_neg (by decide), if_neg (by decide), if_neg (by decide), if_pos rfl]
  dsimp only
  have h1 := bits_and_n a b ha hb
  go_enter Tryz.func175, Tryz.ntmps175
  go_wp2
  go_ret2
  refine ⟨ret2_eq ?_ rfl, rfl⟩
  first | rfl | exact h1
set_option maxHeartbeats 4000000 in
theorem ri64_132 (a b : Nat) (ha : a < 18446744073709551616) (hb : b < 18446744073709551616) (w : World) : Calls Tryz.prog 175 #[.int .i64 132, .int .u64 (a : Int), .int .u64 (b : Int)] w fun e' w' => e' = .returned (.tuple #[.int .u64 (((ibinM 64 8 a b).1 : Nat) : Int), .int .i64 (((ibinM 64 8 a b).2 : Nat) : Int)]) ∧ w' = w := by
  unfold ibinM
  rw [if_neg (by decide), if_neg (by decide), if_neg (by decide), if_neg (by decide), if_neg (by decide), if_neg (by decide), if_neg (by decide), if_neg (by decide), if_pos rfl]
  dsimp only
  have h1 := bits_or_n a b ha hb
  go_enter Tryz.func175, Tryz.ntmps175
  go_wp2
  go_ret2
  refine ⟨ret2_eq ?_ rfl, rfl⟩
  first | rfl | exact h1
set_option maxHeartbeats 4000000 in
theorem ri64_133 (a b : Nat) (ha : a < 18446744073709551616) (hb : b < 18446744073709551616) (w : World) : Calls Tryz.prog 175 #[.int .i64 133, .int .u64 (a : Int), .int .u64 (b : Int)] w fun e' w' => e' = .returned (.tuple #[.int .u64 (((ibinM 64 9 a b).1 : Nat) : Int), .int .i64 (((ibinM 64 9 a b).2 : Nat) : Int)]) ∧ w' = w := by
  unfold ibinM
  rw [if_neg (by decide), if_neg (by decide), if_neg (by decide), if_neg (by decide), if_neg (by decide), if_neg (by decide), if_neg (by decide), if_neg (by decide), if_neg (by decide), if_pos rfl]
  dsimp only
  have h1 := bits_xor_n a b ha hb
  go_enter Tryz.func175, Tryz.ntmps175
  go_wp2
  go_ret2
  refine ⟨ret2_eq ?_ rfl, rfl⟩
  first | rfl | exact h1
set_option maxHeartbeats 4000000 in
theorem ri64_134 (a b : Nat) (ha : a < 18446744073709551616) (hb : b < 18446744073709551616) (w : World) : Calls Tryz.prog 175 #[.int .i64 134, .int .u64 (a : Int), .int .u64 (b : Int)] w fun e' w' => e' = .returned (.tuple #[.int .u64 (((ibinM 64 10 a b).1 : Nat) : Int), .int .i64 (((ibinM 64 10 a b).2 : Nat) : Int)]) ∧ w' = w := by
  unfold ibinM
  rw [if_neg (by decide), if_neg (by decide), if_neg (by decide), if_neg (by decide), if_neg (by decide), if_neg (by decide), if_neg (by decide), if_neg (by decide), if_neg (by decide), if_neg (by decide), if_pos rfl]
  obtain ⟨c, hc⟩ : ∃ c : Nat, b % 64 = c := ⟨_, rfl⟩
  have hcl : c < 64 := by rw [← hc]; exact Nat.mod_lt _ (by decide)
  have hci := and_mask (b : Int) 6 63 (by decide) (by decide) (by omega)
  rw [Int.toNat_natCast, show b % 2 ^ 6 = b % 64 by rfl, hc] at hci
  have hcm : min c 64 = c := by omega
  rw [hc]
  dsimp only
  rw [show (2 : Nat) ^ 64 = 18446744073709551616 by decide]
  go_enter Tryz.func175, Tryz.ntmps175
  go_wp2
  go_ret2
  refine ⟨ret2_eq ?_ rfl, rfl⟩
  try rw [hc]
  try simp only [hcm]
  rw [wrap_u64]
  simp
set_option maxHeartbeats 4000000 in
theorem ri64_135 (a b : Nat) (ha : a < 18446744073709551616) (hb : b < 18446744073709551616) (w : World) : Calls Tryz.prog 175 #[.int .i64 135, .int .u64 (a : Int), .int .u64 (b : Int)] w fun e' w' => e' = .returned (.tuple #[.int .u64 (((ibinM 64 11 a b).1 : Nat) : Int), .int .i64 (((ibinM 64 11 a b).2 : Nat) : Int)]) ∧ w' = w := by
  unfold ibinM
  rw [if_neg (by decide), if_neg (by decide), if_neg (by decide), if_neg (by decide), if_neg (by decide), if_neg (by decide), if_neg (by decide), if_neg (by decide), if_neg (by decide), if_neg (by decide), if_neg (by decide), if_pos rfl]
  obtain ⟨c, hc⟩ : ∃ c : Nat, b % 64 = c := ⟨_, rfl⟩
  have hcl : c < 64 := by rw [← hc]; exact Nat.mod_lt _ (by decide)
  have hci := and_mask (b : Int) 6 63 (by decide) (by decide) (by omega)
  rw [Int.toNat_natCast, show b % 2 ^ 6 = b % 64 by rfl, hc] at hci
  have hcm : min c 64 = c := by omega
  rw [hc]
  dsimp only
  have hsh := sh_64 a c ha hcl
  go_enter Tryz.func175, Tryz.ntmps175
  go_wp2
  go_ret2
  refine ⟨ret2_eq ?_ rfl, rfl⟩
  try rw [hc]
  try simp only [hcm]
  rw [wrap_u64]
  exact hsh
set_option maxHeartbeats 4000000 in
theorem ri64_136 (a b : Nat) (ha : a < 18446744073709551616) (hb : b < 18446744073709551616) (w : World) : Calls Tryz.prog 175 #[.int .i64 136, .int .u64 (a : Int), .int .u64 (b : Int)] w fun e' w' => e' = .returned (.tuple #[.int .u64 (((ibinM 64 12 a b).1 : Nat) : Int), .int .i64 (((ibinM 64 12 a b).2 : Nat) : Int)]) ∧ w' = w := by
  unfold ibinM
  rw [if_neg (by decide), if_neg (by decide), if_neg (by decide), if_neg (by decide), if_neg (by decide), if_neg (by decide), if_neg (by decide), if_neg (by decide), if_neg (by decide), if_neg (by decide), if_neg (by decide), if_neg (by decide), if_pos rfl]
  obtain ⟨c, hc⟩ : ∃ c : Nat, b % 64 = c := ⟨_, rfl⟩
  have hcl : c < 64 := by rw [← hc]; exact Nat.mod_lt _ (by decide)
  have hci := and_mask (b : Int) 6 63 (by decide) (by decide) (by omega)
  rw [Int.toNat_natCast, show b % 2 ^ 6 = b % 64 by rfl, hc] at hci
  have hcm : min c 64 = c := by omega
  rw [hc]
  dsimp only
  go_enter Tryz.func175, Tryz.ntmps175
  go_wp2
  go_ret2
  refine ⟨ret2_eq ?_ rfl, rfl⟩
  try rw [hc]
  try simp only [hcm]
  simp
set_option maxHeartbeats 4000000 in
theorem ri64_137 (a b : Nat) (ha : a < 18446744073709551616) (hb : b < 18446744073709551616) (w : World) : Calls Tryz.prog 175 #[.int .i64 137, .int .u64 (a : Int), .int .u64 (b : Int)] w fun e' w' => e' = .returned (.tuple #[.int .u64 (((ibinM 64 13 a b).1 : Nat) : Int), .int .i64 (((ibinM 64 13 a b).2 : Nat) : Int)]) ∧ w' = w := by
  unfold ibinM
  rw [if_neg (by decide), if_neg (by decide), if_neg (by decide), if_neg (by decide), if_neg (by decide), if_neg (by decide), if_neg (by decide), if_neg (by decide), if_neg (by decide), if_neg (by decide), if_neg (by decide), if_neg (by decide), if_neg (by decide), if_pos rfl]
  obtain ⟨c, hc⟩ : ∃ c : Nat, b % 64 = c := ⟨_, rfl⟩
  have hcl : c < 64 := by rw [← hc]; exact Nat.mod_lt _ (by decide)
  have hci := and_mask (b : Int) 6 63 (by decide) (by decide) (by omega)
  rw [Int.toNat_natCast, show b % 2 ^ 6 = b % 64 by rfl, hc] at hci
  have hcm : min c 64 = c := by omega
  rw [hc]
  dsimp only
  rw [show (2 : Nat) ^ 64 = 18446744073709551616 by decide]
  have hrot := rt64_l a c ha hcl
  have hneg := ng_64 c hcl
  obtain ⟨d, hd⟩ : ∃ d : Nat, (64 - c) % 64 = d := ⟨_, rfl⟩
  have hdl : d < 64 := by rw [← hd]; exact Nat.mod_lt _ (by decide)
  rw [hd] at hneg hrot
  have hdm : min d 64 = d := by omega
  generalize (a * 2 ^ c + a / 2 ^ (64 - c)) % 18446744073709551616 = Z at hrot ⊢
  clear hd
  go_enter Tryz.func175, Tryz.ntmps175
  go_wp2
  go_ret2
  refine ⟨ret2_eq ?_ rfl, rfl⟩
  first | exact hrot | (simp only [hc, hci, hneg, hdm, Int.toNat_natCast]; done) | (simp only [hc, hci, hneg, hdm, Int.toNat_natCast]; exact hrot) | (simp only [hc, hci, hneg, hcm, hdm, Int.toNat_natCast]; done) | (simp only [hc, hci, hneg, hcm, hdm, Int.toNat_natCast]; exact hrot)
set_option maxHeartbeats 4000000 in
theorem ri64_138 (a b : Nat) (ha : a < 18446744073709551616) (hb : b < 18446744073709551616) (w : World) : Calls Tryz.prog 175 #[.int .i64 138, .int .u64 (a : Int), .int .u64 (b : Int)] w fun e' w' => e' = .returned (.tuple #[.int .u64 (((ibinM 64 14 a b).1 : Nat) : Int), .int .i64 (((ibinM 64 14 a b).2 : Nat) : Int)]) ∧ w' = w := by
  unfold ibinM
  rw [if_neg (by decide), if_neg (by decide), if_neg (by decide), if_neg (by decide), if_neg (by decide), if_neg (by decide), if_neg (by decide), if_neg (by decide), if_neg (by decide), if_neg (by decide), if_neg (by decide), if_neg (by decide), if_neg (by decide), if_neg (by decide)]
  obtain ⟨c, hc⟩ : ∃ c : Nat, b % 64 = c := ⟨_, rfl⟩
  have hcl : c < 64 := by rw [← hc]; exact Nat.mod_lt _ (by decide)
  have hci := and_mask (b : Int) 6 63 (by decide) (by decide) (by omega)
  rw [Int.toNat_natCast, show b % 2 ^ 6 = b % 64 by rfl, hc] at hci
  have hcm : min c 64 = c := by omega
  rw [hc]
  dsimp only
  rw [show (2 : Nat) ^ 64 = 18446744073709551616 by decide]
  have hrot := rt64_r a c ha hcl
  have hneg := ng_64 c hcl
  obtain ⟨d, hd⟩ : ∃ d : Nat, (64 - c) % 64 = d := ⟨_, rfl⟩
  have hdl : d < 64 := by rw [← hd]; exact Nat.mod_lt _ (by decide)
  rw [hd] at hneg hrot
  have hdm : min d 64 = d := by omega
  generalize (a / 2 ^ c + a * 2 ^ (64 - c)) % 18446744073709551616 = Z at hrot ⊢
  clear hd
  go_enter Tryz.func175, Tryz.ntmps175
  go_wp2
  go_ret2
  refine ⟨ret2_eq ?_ rfl, rfl⟩
  first | exact hrot | (simp only [hc, hci, hneg, hdm, Int.toNat_natCast]; done) | (simp only [hc, hci, hneg, hdm, Int.toNat_natCast]; exact hrot) | (simp only [hc, hci, hneg, hcm, hdm, Int.toNat_natCast]; done) | (simp only [hc, hci, hneg, hcm, hdm, Int.toNat_natCast]; exact hrot)
end Go.Proofs.Qxb6500275aGreatDoor
