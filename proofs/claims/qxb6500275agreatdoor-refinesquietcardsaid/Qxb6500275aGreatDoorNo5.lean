import Derived.Test.Qxb6500275aGreatDoorNo4
set_option maxRecDepth 100000
set_option linter.unusedVariables false
set_option linter.unusedSimpArgs false
namespace Go.Proofs.Qxb6500275aGreatDoor
open Go Go.RowKit
set_option maxHeartbeats 4000000 in
theorem ri32_103 (a b : Nat) (ha : a < 4294967296) (hb : b < 4294967296) (w : World) : Calls Tryz.prog 174 #[.int .i64 103, .int .u32 (a : Int), .int .u32 (b : Int)] w fun e' w' => e' = .returned (.tuple #[.int .u32 (((iunM 32 0 a, 0).1 : Nat) : Int), .int .i64 (((iunM 32 0 a, 0).2 : Nat) : Int)]) ∧ w' = w := by
  unfold iunM
  rw [if_pos rfl]
  have hc := fun w => clz32_x a ha w
  generalize clzN 32 a = c at *
  go_enter Tryz.func174, Tryz.ntmps174
  go_wp2_with (first | (go_at_call 216; refine (hc _).mono ?_; rintro e w2 ⟨rfl, rfl⟩))
  go_ret2
  refine ⟨ret2_eq ?_ rfl, rfl⟩
  rfl
set_option maxHeartbeats 4000000 in
theorem ri32_104 (a b : Nat) (ha : a < 4294967296) (hb : b < 4294967296) (w : World) : Calls Tryz.prog 174 #[.int .i64 104, .int .u32 (a : Int), .int .u32 (b : Int)] w fun e' w' => e' = .returned (.tuple #[.int .u32 (((iunM 32 1 a, 0).1 : Nat) : Int), .int .i64 (((iunM 32 1 a, 0).2 : Nat) : Int)]) ∧ w' = w := by
  unfold iunM
  rw [if_neg (by decide), if_pos rfl]
  have hcp := ctz_pop 32 a ha
  have hx : 4294967295 ^^^ a = 4294967295 - a := xor_ones 32 a ha
  have f1 := bits_xor_32 4294967295 a (by decide) ha
  rw [hx] at f1
  have f1' : bits .xor .u32 IntKind.u32.max (a : Int) = ((4294967295 - a : Nat) : Int) := f1
  rw [show (2 : Nat) ^ 32 - 1 = 4294967295 by decide, show (2 : Nat) ^ 32 = 4294967296 by decide] at hcp
  have hml : (a + 4294967295) % 4294967296 < 4294967296 := Nat.mod_lt _ (by decide)
  have f2 := bits_and_32 (4294967295 - a) ((a + 4294967295) % 4294967296) (by omega) hml
  have f3 : ((a : Int) - 1) % 4294967296 = (((a + 4294967295) % 4294967296 : Nat) : Int) := by omega
  obtain ⟨z, hz⟩ : ∃ z : Nat, (4294967295 - a) &&& ((a + 4294967295) % 4294967296) = z := ⟨_, rfl⟩
  have hzl : z < 4294967296 := by rw [← hz]; exact Nat.lt_of_le_of_lt Nat.and_le_left (by omega)
  rw [hz] at f2 hcp
  obtain ⟨u, hu⟩ : ∃ u : Nat, 4294967295 - a = u := ⟨_, rfl⟩
  have hul : u < 4294967296 := by omega
  rw [hu] at f1' f2
  generalize (a + 4294967295) % 4294967296 = v at *
  have hc := fun w => pop32_x z hzl w
  rw [hcp] at hc
  generalize ctzF 32 a = c at *
  clear hz hcp hx f1 hu
  go_enter Tryz.func174, Tryz.ntmps174
  go_wp2_with fail
  refine (hc _).mono ?_
  rintro e w2 ⟨rfl, rfl⟩
  go_wp2_with fail
  go_ret2
  refine ⟨ret2_eq ?_ rfl, rfl⟩
  rfl
set_option maxHeartbeats 4000000 in
theorem ri32_105 (a b : Nat) (ha : a < 4294967296) (hb : b < 4294967296) (w : World) : Calls Tryz.prog 174 #[.int .i64 105, .int .u32 (a : Int), .int .u32 (b : Int)] w fun e' w' => e' = .returned (.tuple #[.int .u32 (((iunM 32 2 a, 0).1 : Nat) : Int), .int .i64 (((iunM 32 2 a, 0).2 : Nat) : Int)]) ∧ w' = w := by
  unfold iunM
  rw [if_neg (by decide), if_neg (by decide)]
  have hc := fun w => pop32_x a ha w
  generalize popF 32 a = c at *
  go_enter Tryz.func174, Tryz.ntmps174
  go_wp2_with (first | (go_at_call 217; refine (hc _).mono ?_; rintro e w2 ⟨rfl, rfl⟩))
  go_ret2
  refine ⟨ret2_eq ?_ rfl, rfl⟩
  rfl
set_option maxHeartbeats 4000000 in
theorem ri32_106 (a b : Nat) (ha : a < 4294967296) (hb : b < 4294967296) (w : World) : Calls Tryz.prog 174 #[.int .i64 106, .int .u32 (a : Int), .int .u32 (b : Int)] w fun e' w' => e' = .returned (.tuple #[.int .u32 (((ibinM 32 0 a b).1 : Nat) : Int), .int .i64 (((ibinM 32 0 a b).2 : Nat) : Int)]) ∧ w' = w := by
  unfold ibinM
  rw [if_pos rfl]
  rw [show (2 : Nat) ^ 32 = 4294967296 by decide]
  dsimp only
  go_enter Tryz.func174, Tryz.ntmps174
  go_wp2
  go_ret2
  refine ⟨ret2_eq ?_ rfl, rfl⟩
  omega
set_option maxHeartbeats 4000000 in
theorem ri32_107 (a b : Nat) (ha : a < 4294967296) (hb : b < 4294967296) (w : World) : Calls Tryz.prog 174 #[.int .i64 107, .int .u32 (a : Int), .int .u32 (b : Int)] w fun e' w' => e' = .returned (.tuple #[.int .u32 (((ibinM 32 1 a b).1 : Nat) : Int), .int .i64 (((ibinM 32 1 a b).2 : Nat) : Int)]) ∧ w' = w := by
  unfold ibinM
  rw [if_neg (by decide), if_pos rfl]
  rw [show (2 : Nat) ^ 32 = 4294967296 by decide]
  dsimp only
  go_enter Tryz.func174, Tryz.ntmps174
  go_wp2
  go_ret2
  refine ⟨ret2_eq ?_ rfl, rfl⟩
  omega
set_option maxHeartbeats 4000000 in
theorem ri32_108 (a b : Nat) (ha : a < 4294967296) (hb : b < 4294967296) (w : World) : Calls Tryz.prog 174 #[.int .i64 108, .int .u32 (a : Int), .int .u32 (b : Int)] w fun e' w' => e' = .returned (.tuple #[.int .u32 (((ibinM 32 2 a b).1 : Nat) : Int), .int .i64 (((ibinM 32 2 a b).2 : Nat) : Int)]) ∧ w' = w := by
  unfold ibinM
  rw [if_neg (by decide), if_neg (by decide), if_pos rfl]
  rw [show (2 : Nat) ^ 32 = 4294967296 by decide]
  dsimp only
  go_enter Tryz.func174, Tryz.ntmps174
  go_wp2
  go_ret2
  refine ⟨ret2_eq ?_ rfl, rfl⟩
  simp
set_option maxHeartbeats 4000000 in
theorem ri32_109 (a b : Nat) (ha : a < 4294967296) (hb : b < 4294967296) (w : World) : Calls Tryz.prog 174 #[.int .i64 109, .int .u32 (a : Int), .int .u32 (b : Int)] w fun e' w' => e' = .returned (.tuple #[.int .u32 (((ibinM 32 3 a b).1 : Nat) : Int), .int .i64 (((ibinM 32 3 a b).2 : Nat) : Int)]) ∧ w' = w := by
  unfold ibinM
  rw [if_neg (by decide), if_neg (by decide), if_neg (by decide), if_pos rfl]
  by_cases h0 : b = 0
  · subst h0
    have e : divM true 32 a 0 = (0, 39) := by unfold divM; rw [if_pos rfl]
    rw [e]
    go_enter Tryz.func174, Tryz.ntmps174
    go_wp2
    go_ret2
    refine ⟨ret2_eq ?_ rfl, rfl⟩
    rfl
  obtain ⟨d1, d2, d3⟩ := dv_32 a b ha hb h0
  have hzi : ¬ (b : Int) = 0 := by omega
  have hz : ¬ wrap32 (b : Int) = 0 := by unfold wrap32; omega
  by_cases h1 : a = 2147483648
  · subst h1
    by_cases h2 : b = 4294967295
    · subst h2
      rw [d2 ⟨rfl, rfl⟩]
      clear d1 d2 d3
      go_enter Tryz.func174, Tryz.ntmps174
      go_wp2
      go_ret2
      refine ⟨ret2_eq ?_ rfl, rfl⟩
      rfl
    · rw [d1 (by omega)]
      have h2i : ¬ (b : Int) = 4294967295 := by omega
      dsimp only
      obtain ⟨T, hT⟩ : ∃ T : Int, (wrap32 ((2147483648 : Nat) : Int)).tdiv (wrap32 (b : Int)) = T := ⟨_, rfl⟩
      rw [hT]
      have hw : wrap32 ((2147483648 : Nat) : Int) = -2147483648 := by unfold wrap32; omega
      have hw2 : wrap32 2147483648 = -2147483648 := hw
      rw [hw] at hT
      clear d1 d2 d3
      go_enter Tryz.func174, Tryz.ntmps174
      go_wp2
      go_ret2
      refine ⟨ret2_eq ?_ rfl, rfl⟩
      first | (unfold wrap32; omega) | (rw [hT]; unfold wrap32; omega) | (rw [hw2, hT]; unfold wrap32; omega)
  · rw [d1 (by omega)]
    have h1i : ¬ (a : Int) = 2147483648 := by omega
    dsimp only
    obtain ⟨T, hT⟩ : ∃ T : Int, (wrap32 (a : Int)).tdiv (wrap32 (b : Int)) = T := ⟨_, rfl⟩
    rw [hT]
    clear d1 d2 d3
    go_enter Tryz.func174, Tryz.ntmps174
    go_wp2
    go_ret2
    refine ⟨ret2_eq ?_ rfl, rfl⟩
    first | (unfold wrap32; omega) | (rw [hT]; unfold wrap32; omega)
set_option maxHeartbeats 4000000 in
theorem ri32_110 (a b : Nat) (ha : a < 4294967296) (hb : b < 4294967296) (w : World) : Calls Tryz.prog 174 #[.int .i64 110, .int .u32 (a : Int), .int .u32 (b : Int)] w fun e' w' => e' = .returned (.tuple #[.int .u32 (((ibinM 32 4 a b).1 : Nat) : Int), .int .i64 (((ibinM 32 4 a b).2 : Nat) : Int)]) ∧ w' = w := by
  unfold ibinM
  rw [if_neg (by decide), if_neg (by decide), if_neg (by decide), if_neg (by decide), if_pos rfl]
  by_cases h0 : b = 0
  · rw [if_pos h0]
    subst h0
    go_enter Tryz.func174, Tryz.ntmps174
    go_wp2
    go_ret2
    refine ⟨ret2_eq ?_ rfl, rfl⟩
    rfl
  · rw [if_neg h0]
    have hzi : ¬ (b : Int) = 0 := by omega
    dsimp only
    obtain ⟨q, hq⟩ : ∃ q : Nat, a / b = q := ⟨_, rfl⟩
    have hqi : (a : Int) / (b : Int) = (q : Int) := by rw [← hq]; simp
    have hqt : (a : Int).tdiv (b : Int) = (q : Int) := by rw [tdiv_nat, hq]
    have hql : q ≤ a := by rw [← hq]; exact Nat.div_le_self _ _
    rw [hq]
    clear hq
    go_enter Tryz.func174, Tryz.ntmps174
    go_wp2
    go_ret2
    refine ⟨ret2_eq ?_ rfl, rfl⟩
    first | rfl | omega | (rw [wrap_u64]; omega)
set_option maxHeartbeats 4000000 in
theorem ri32_111 (a b : Nat) (ha : a < 4294967296) (hb : b < 4294967296) (w : World) : Calls Tryz.prog 174 #[.int .i64 111, .int .u32 (a : Int), .int .u32 (b : Int)] w fun e' w' => e' = .returned (.tuple #[.int .u32 (((ibinM 32 5 a b).1 : Nat) : Int), .int .i64 (((ibinM 32 5 a b).2 : Nat) : Int)]) ∧ w' = w := by
  unfold ibinM
  rw [if_neg (by decide), if_neg (by decide), if_neg (by decide), if_neg (by decide), if_neg (by decide), if_pos rfl]
  by_cases h0 : b = 0
  · subst h0
    have e : divM false 32 a 0 = (0, 39) := by unfold divM; rw [if_pos rfl]
    rw [e]
    go_enter Tryz.func174, Tryz.ntmps174
    go_wp2
    go_ret2
    refine ⟨ret2_eq ?_ rfl, rfl⟩
    rfl
  obtain ⟨d1, d2, d3⟩ := dv_32 a b ha hb h0
  have hzi : ¬ (b : Int) = 0 := by omega
  have hz : ¬ wrap32 (b : Int) = 0 := by unfold wrap32; omega
  rw [d3]
  dsimp only
  obtain ⟨T, hT⟩ : ∃ T : Int, (wrap32 (a : Int)).tmod (wrap32 (b : Int)) = T := ⟨_, rfl⟩
  rw [hT]
  clear d1 d2 d3
  go_enter Tryz.func174, Tryz.ntmps174
  go_wp2
  go_ret2
  refine ⟨ret2_eq ?_ rfl, rfl⟩
  first | omega | (rw [hT]; omega)
set_option maxHeartbeats 4000000 in
theorem ri32_112 (a b : Nat) (ha : a < 4294967296) (hb : b < 4294967296) (w : World) : Calls Tryz.prog 174 #[.int .i64 112, .int .u32 (a : Int), .int .u32 (b : Int)] w fun e' w' => e' = .returned (.tuple #[.int .u32 (((ibinM 32 6 a b).1 : Nat) : Int), .int .i64 (((ibinM 32 6 a b).2 : Nat) : Int)]) ∧ w' = w := by
  unfold ibinM
  rw [if_neg (by decide), if_neg (by decide), if_neg (by decide), if_neg (by decide), if_neg (by decide), if_neg (by decide), if_pos rfl]
  by_cases h0 : b = 0
  · rw [if_pos h0]
    subst h0
    go_enter Tryz.func174, Tryz.ntmps174
    go_wp2
    go_ret2
    refine ⟨ret2_eq ?_ rfl, rfl⟩
    rfl
  · rw [if_neg h0]
    have hzi : ¬ (b : Int) = 0 := by omega
    dsimp only
    obtain ⟨q, hq⟩ : ∃ q : Nat, a % b = q := ⟨_, rfl⟩
    have hqi : (a : Int) % (b : Int) = (q : Int) := by rw [← hq]; simp
    have hqt : (a : Int).tmod (b : Int) = (q : Int) := by rw [tmod_nat, hq]
    have hql : q ≤ a := by rw [← hq]; exact Nat.mod_le _ _
    rw [hq]
    clear hq
    go_enter Tryz.func174, Tryz.ntmps174
    go_wp2
    go_ret2
    refine ⟨ret2_eq ?_ rfl, rfl⟩
    first | rfl | omega | (rw [wrap_u64]; omega)
set_option maxHeartbeats 4000000 in
theorem ri32_113 (a b : Nat) (ha : a < 4294967296) (hb : b < 4294967296) (w : World) : Calls Tryz.prog 174 #[.int .i64 113, .int .u32 (a : Int), .int .u32 (b : Int)] w fun e' w' => e' = .returned (.tuple #[.int .u32 (((ibinM 32 7 a b).1 : Nat) : Int), .int .i64 (((ibinM 32 7 a b).2 : Nat) : Int)]) ∧ w' = w := by
  unfold ibinM
  rw [if_neg (by decide), if_neg (by decide), if_neg (by decide), if_neg (by decide), if_neg (by decide), if_neg (by decide), if_neg (by decide), if_pos rfl]
  dsimp only
  have h1 := bits_and_32 a b ha hb
  go_enter Tryz.func174, Tryz.ntmps174
  go_wp2
  go_ret2
  refine ⟨ret2_eq ?_ rfl, rfl⟩
  first | rfl | exact h1
set_option maxHeartbeats 4000000 in
theorem ri32_114 (a b : Nat) (ha : a < 4294967296) (hb : b < 4294967296) (w : World) : Calls Tryz.prog 174 #[.int .i64 114, .int .u32 (a : Int), .int .u32 (b : Int)] w fun e' w' => e' = .returned (.tuple #[.int .u32 (((ibinM 32 8 a b).1 : Nat) : Int), .int .i64 (((ibinM 32 8 a b).2 : Nat) : Int)]) ∧ w' = w := by
  unfold ibinM
  rw [if_neg (by decide), if_neg (by decide), if_neg (by decide), if_neg (by decide), if_neg (by decide), if_neg (by decide), if_neg (by decide), if_neg (by decide), if_pos rfl]
  dsimp only
  have h1 := bits_or_32 a b ha hb
  go_enter Tryz.func174, Tryz.ntmps174
  go_wp2
  go_ret2
  refine ⟨ret2_eq ?_ rfl, rfl⟩
  first | rfl | exact h1
set_option maxHeartbeats 4000000 in
theorem ri32_115 (a b : Nat) (ha : a < 4294967296) (hb : b < 4294967296) (w : World) : Calls Tryz.prog 174 #[.int .i64 115, .int .u32 (a : Int), .int .u32 (b : Int)] w fun e' w' => e' = .returned (.tuple #[.int .u32 (((ibinM 32 9 a b).1 : Nat) : Int), .int .i64 (((ibinM 32 9 a b).2 : Nat) : Int)]) ∧ w' = w := by
  unfold ibinM
  rw [if_neg (by decide), if_neg (by decide), if_neg (by decide), if_neg (by decide), if_neg (by decide), if_neg (by decide), if_neg (by decide), if_neg (by decide), if_neg (by decide), if_pos rfl]
  dsimp only
  have h1 := bits_xor_32 a b ha hb
  go_enter Tryz.func174, Tryz.ntmps174
  go_wp2
  go_ret2
  refine ⟨ret2_eq ?_ rfl, rfl⟩
  first | rfl | exact h1
set_option maxHeartbeats 4000000 in
theorem ri32_116 (a b : Nat) (ha : a < 4294967296) (hb : b < 4294967296) (w : World) : Calls Tryz.prog 174 #[.int .i64 116, .int .u32 (a : Int), .int .u32 (b : Int)] w fun e' w' => e' = .returned (.tuple #[.int .u32 (((ibinM 32 10 a b).1 : Nat) : Int), .int .i64 (((ibinM 32 10 a b).2 : Nat) : Int)]) ∧ w' = w := by
  unfold ibinM
  rw [if_neg (by decide), if_neg (by decide), if_neg (by decide), if_neg (by decide), if_neg (by decide), if_neg (by decide), if_neg (by decide), if_neg (by decide), if_neg (by decide), if_neg (by decide), if_pos rfl]
  obtain ⟨c, hc⟩ : ∃ c : Nat, b % 32 = c := ⟨_, rfl⟩
  have hcl : c < 32 := by rw [← hc]; exact Nat.mod_lt _ (by decide)
  have hci : (b : Int) % 32 = (c : Int) := by omega
  rw [hc]
  dsimp only
  rw [show (2 : Nat) ^ 32 = 4294967296 by decide]
  go_enter Tryz.func174, Tryz.ntmps174
  go_wp2
  go_ret2
  refine ⟨ret2_eq ?_ rfl, rfl⟩
  try rw [hc]
  try simp only [hcm]
  simp
set_option maxHeartbeats 4000000 in
theorem ri32_117 (a b : Nat) (ha : a < 4294967296) (hb : b < 4294967296) (w : World) : Calls Tryz.prog 174 #[.int .i64 117, .int .u32 (a : Int), .int .u32 (b : Int)] w fun e' w' => e' = .returned (.tuple #[.int .u32 (((ibinM 32 11 a b).1 : Nat) : Int), .int .i64 (((ibinM 32 11 a b).2 : Nat) : Int)]) ∧ w' = w := by
  unfold ibinM
  rw [if_neg (by decide), if_neg (by decide), if_neg (by decide), if_neg (by decide), if_neg (by decide), if_neg (by decide), if_neg (by decide), if_neg (by decide), if_neg (by decide), if_neg (by decide), if_neg (by decide), if_pos rfl]
  obtain ⟨c, hc⟩ : ∃ c : Nat, b % 32 = c := ⟨_, rfl⟩
  have hcl : c < 32 := by rw [← hc]; exact Nat.mod_lt _ (by decide)
  have hci : (b : Int) % 32 = (c : Int) := by omega
  rw [hc]
  dsimp only
  have hsh := sh_32 a c ha hcl
  go_enter Tryz.func174, Tryz.ntmps174
  go_wp2
  go_ret2
  refine ⟨ret2_eq ?_ rfl, rfl⟩
  try rw [hc]
  try simp only [hcm]
  exact hsh
set_option maxHeartbeats 4000000 in
theorem ri32_118 (a b : Nat) (ha : a < 4294967296) (hb : b < 4294967296) (w : World) : Calls Tryz.prog 174 #[.int .i64 118, .int .u32 (a : Int), .int .u32 (b : Int)] w fun e' w' => e' = .returned (.tuple #[.int .u32 (((ibinM 32 12 a b).1 : Nat) : Int), .int .i64 (((ibinM 32 12 a b).2 : Nat) : Int)]) ∧ w' = w := by
  unfold ibinM
  rw [if_neg (by decide), if_neg (by decide), if_neg (by decide), if_neg (by decide), if_neg (by decide), if_neg (by decide), if_neg (by decide), if_neg (by decide), if_neg (by decide), if_neg (by decide), if_neg (by decide), if_neg (by decide), if_pos rfl]
  obtain ⟨c, hc⟩ : ∃ c : Nat, b % 32 = c := ⟨_, rfl⟩
  have hcl : c < 32 := by rw [← hc]; exact Nat.mod_lt _ (by decide)
  have hci : (b : Int) % 32 = (c : Int) := by omega
  rw [hc]
  dsimp only
  go_enter Tryz.func174, Tryz.ntmps174
  go_wp2
  go_ret2
  refine ⟨ret2_eq ?_ rfl, rfl⟩
  try rw [hc]
  try simp only [hcm]
  simp
set_option maxHeartbeats 4000000 in
theorem ri32_119 (a b : Nat) (ha : a < 4294967296) (hb : b < 4294967296) (w : World) : Calls Tryz.prog 174 #[.int .i64 119, .int .u32 (a : Int), .int .u32 (b : Int)] w fun e' w' => e' = .returned (.tuple #[.int .u32 (((ibinM 32 13 a b).1 : Nat) : Int), .int .i64 (((ibinM 32 13 a b).2 : Nat) : Int)]) ∧ w' = w := by
  unfold ibinM
  rw [if_neg (by decide), if_neg (by decide), if_neg (by decide), if_neg (by decide), if_neg (by decide), if_neg (by decide), if_neg (by decide), if_neg (by decide), if_neg (by decide), if_neg (by decide), if_neg (by decide), if_neg (by decide), if_neg (by decide), if_pos rfl]
  obtain ⟨c, hc⟩ : ∃ c : Nat, b % 32 = c := ⟨_, rfl⟩
  have hcl : c < 32 := by rw [← hc]; exact Nat.mod_lt _ (by decide)
  have hci : (b : Int) % 32 = (c : Int) := by omega
  rw [hc]
  dsimp only
  rw [show (2 : Nat) ^ 32 = 4294967296 by decide]
  have hrot := rt32_l a c ha hcl
  have hneg := ng_32 c hcl
  obtain ⟨d, hd⟩ : ∃ d : Nat, (32 - c) % 32 = d := ⟨_, rfl⟩
  have hdl : d < 32 := by rw [← hd]; exact Nat.mod_lt _ (by decide)
  rw [hd] at hneg hrot
  have hdm : min d 32 = d := by omega
  generalize (a * 2 ^ c + a / 2 ^ (32 - c)) % 4294967296 = Z at hrot ⊢
  clear hd
  go_enter Tryz.func174, Tryz.ntmps174
  go_wp2
  go_ret2
  refine ⟨ret2_eq ?_ rfl, rfl⟩
  first | exact hrot | (simp only [hc, hci, hneg, hdm, Int.toNat_natCast]; done) | (simp only [hc, hci, hneg, hdm, Int.toNat_natCast]; exact hrot)
set_option maxHeartbeats 4000000 in
theorem ri32_120 (a b : Nat) (ha : a < 4294967296) (hb : b < 4294967296) (w : World) : Calls Tryz.prog 174 #[.int .i64 120, .int .u32 (a : Int), .int .u32 (b : Int)] w fun e' w' => e' = .returned (.tuple #[.int .u32 (((ibinM 32 14 a b).1 : Nat) : Int), .int .i64 (((ibinM 32 14 a b).2 : Nat) : Int)]) ∧ w' = w := by
  unfold ibinM
  rw [if_neg (by decide), if_neg (by decide), if_neg (by decide), if_neg (by decide), if_neg (by decide), if_neg (by decide), if_neg (by decide), if_neg (by decide), if_neg (by decide), if_neg (by decide), if_neg (by decide), if_neg (by decide), if_neg (by decide), if_neg (by decide)]
  obtain ⟨c, hc⟩ : ∃ c : Nat, b % 32 = c := ⟨_, rfl⟩
  have hcl : c < 32 := by rw [← hc]; exact Nat.mod_lt _ (by decide)
  have hci : (b : Int) % 32 = (c : Int) := by omega
  rw [hc]
  dsimp only
  rw [show (2 : Nat) ^ 32 = 4294967296 by decide]
  have hrot := rt32_r a c ha hcl
  have hneg := ng_32 c hcl
  obtain ⟨d, hd⟩ : ∃ d : Nat, (32 - c) % 32 = d := ⟨_, rfl⟩
  have hdl : d < 32 := by rw [← hd]; exact Nat.mod_lt _ (by decide)
  rw [hd] at hneg hrot
  have hdm : min d 32 = d := by omega
  generalize (a / 2 ^ c + a * 2 ^ (32 - c)) % 4294967296 = Z at hrot ⊢
  clear hd
  go_enter Tryz.func174, Tryz.ntmps174
  go_wp2
  go_ret2
  refine ⟨ret2_eq ?_ rfl, rfl⟩
  first | exact hrot | (simp only [hc, hci, hneg, hdm, Int.toNat_natCast]; done) | (simp only [hc, hci, hneg, hdm, Int.toNat_natCast]; exact hrot)
end Go.Proofs.Qxb6500275aGreatDoor
