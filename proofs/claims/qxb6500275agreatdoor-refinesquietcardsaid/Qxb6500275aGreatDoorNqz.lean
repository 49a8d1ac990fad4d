import Derived.Test.Qxb6500275aGreatDoorNqy
set_option maxRecDepth 100000
set_option linter.unusedVariables false
set_option linter.unusedSimpArgs false
namespace Go.Proofs.Qxb6500275aGreatDoor
open Go Go.RowKit
theorem or_sum (x y c : Nat) (h : y < 2 ^ c) (hx : x % 2 ^ c = 0) : x ||| y = x + y := by
  have e : x = 2 ^ c * (x / 2 ^ c) := by
    have := Nat.div_add_mod x (2 ^ c)
    omega
  have := Nat.two_pow_add_eq_or_of_lt h (x / 2 ^ c)
  rw [← e] at this
  exact this.symm
def shrsM (n a c : Nat) : Nat := if 2 ^ (n - 1) ≤ a then a / 2 ^ c + (2 ^ n - 2 ^ (n - c)) else a / 2 ^ c
def ibinM (n k a b : Nat) : Nat × Nat :=
  if k = 0 then ((a + b) % 2 ^ n, 0) else if k = 1 then ((a + (2 ^ n - b) % 2 ^ n) % 2 ^ n, 0) else if k = 2 then (a * b % 2 ^ n, 0)
  else if k = 3 then divM true n a b else if k = 4 then (if b = 0 then (0, 39) else (a / b, 0)) else if k = 5 then divM false n a b else if k = 6 then (if b = 0 then (0, 39) else (a % b, 0))
  else if k = 7 then (a &&& b, 0) else if k = 8 then (a ||| b, 0) else if k = 9 then (a ^^^ b, 0)
  else if k = 10 then (a * 2 ^ (b % n) % 2 ^ n, 0) else if k = 11 then (shrsM n a (b % n), 0) else if k = 12 then (a / 2 ^ (b % n), 0)
  else if k = 13 then ((a * 2 ^ (b % n) + a / 2 ^ (n - b % n)) % 2 ^ n, 0) else ((a / 2 ^ (b % n) + a * 2 ^ (n - b % n)) % 2 ^ n, 0)
set_option maxHeartbeats 4000000 in
theorem intBin_32_0 (a b : Nat) (ha : a < 4294967296) (hb : b < 4294967296) (w : World) : Calls Tryz.prog 288 #[.int .i64 0, .int .i64 32, .int .u64 a, .int .u64 b] w (Pq w (fitV (ibinM 32 0 a b))) := by
  unfold ibinM fitV
  rw [if_pos rfl]
  rw [show (2 : Nat) ^ 32 = 4294967296 by decide]
  dsimp only
  have h1 := and_mask ((a : Int) + (b : Int)) 32 4294967295 (by decide) (by decide) (by omega)
  rw [show ((a : Int) + (b : Int)).toNat % 2 ^ 32 = (a + b) % 4294967296 by omega] at h1
  generalize (a + b) % 4294967296 = X at *
  go_enter Tryz.func288, Tryz.ntmps288
  go_wp2_with (first | (go_at_call 294; refine (mask_32 _).mono ?_; rintro en w2 ⟨rfl, rfl⟩))
  refine bodyPost_ret (v := .tuple #[.int .u64 (X : Int), .int .i64 0]) (by simp [results, Tryz.results288, go_sem]) rfl ?_
  exact ⟨rfl, rfl⟩
set_option maxHeartbeats 4000000 in
theorem intBin_32_1 (a b : Nat) (ha : a < 4294967296) (hb : b < 4294967296) (w : World) : Calls Tryz.prog 288 #[.int .i64 1, .int .i64 32, .int .u64 a, .int .u64 b] w (Pq w (fitV (ibinM 32 1 a b))) := by
  unfold ibinM fitV
  rw [if_neg (by decide), if_pos rfl]
  rw [show (2 : Nat) ^ 32 = 4294967296 by decide]
  dsimp only
  have hmi := fun w => minus_32 b hb w
  have hY : (4294967296 - b) % 4294967296 < 4294967296 := Nat.mod_lt _ (by decide)
  generalize (4294967296 - b) % 4294967296 = Y at *
  have h1 := and_mask ((a : Int) + (Y : Int)) 32 4294967295 (by decide) (by decide) (by omega)
  rw [show ((a : Int) + (Y : Int)).toNat % 2 ^ 32 = (a + Y) % 4294967296 by omega] at h1
  generalize (a + Y) % 4294967296 = X at *
  go_enter Tryz.func288, Tryz.ntmps288
  go_wp2_with (first | (go_at_call 294; refine (mask_32 _).mono ?_; rintro en w2 ⟨rfl, rfl⟩) | (go_at_call 298; refine (hmi _).mono ?_; rintro en w2 ⟨rfl, rfl⟩))
  refine bodyPost_ret (v := .tuple #[.int .u64 (X : Int), .int .i64 0]) (by simp [results, Tryz.results288, go_sem]) rfl ?_
  exact ⟨rfl, rfl⟩
set_option maxHeartbeats 4000000 in
theorem intBin_32_2 (a b : Nat) (ha : a < 4294967296) (hb : b < 4294967296) (w : World) : Calls Tryz.prog 288 #[.int .i64 2, .int .i64 32, .int .u64 a, .int .u64 b] w (Pq w (fitV (ibinM 32 2 a b))) := by
  unfold ibinM fitV
  rw [if_neg (by decide), if_neg (by decide), if_pos rfl]
  rw [show (2 : Nat) ^ 32 = 4294967296 by decide]
  dsimp only
  have h1 : IntKind.u64.wrap ((a : Int) * (b : Int)) = ((a * b % 18446744073709551616 : Nat) : Int) := by rw [wrap_u64]; simp
  have hY : a * b % 18446744073709551616 < 18446744073709551616 := Nat.mod_lt _ (by decide)
  have e : a * b % 4294967296 = a * b % 18446744073709551616 % 4294967296 := by omega
  rw [e]
  clear e
  generalize a * b % 18446744073709551616 = Y at *
  have h3 := and_mask (Y : Int) 32 4294967295 (by decide) (by decide) (by omega)
  rw [Int.toNat_natCast, show (2 : Nat) ^ 32 = 4294967296 by decide] at h3
  generalize Y % 4294967296 = X at *
  go_enter Tryz.func288, Tryz.ntmps288
  go_wp2_with (first | (go_at_call 294; refine (mask_32 _).mono ?_; rintro en w2 ⟨rfl, rfl⟩))
  refine bodyPost_ret (v := .tuple #[.int .u64 (X : Int), .int .i64 0]) (by simp [results, Tryz.results288, go_sem]) rfl ?_
  exact ⟨rfl, rfl⟩
set_option maxHeartbeats 4000000 in
theorem intBin_32_3 (a b : Nat) (ha : a < 4294967296) (hb : b < 4294967296) (w : World) : Calls Tryz.prog 288 #[.int .i64 3, .int .i64 32, .int .u64 a, .int .u64 b] w (Pq w (fitV (ibinM 32 3 a b))) := by
  unfold ibinM fitV
  rw [if_neg (by decide), if_neg (by decide), if_neg (by decide), if_pos rfl]
  have hd := fun w => divS_32_true a b ha hb w
  generalize divM true 32 a b = X at hd ⊢
  obtain ⟨x1, x2⟩ := X
  unfold fitV at hd
  dsimp only at hd ⊢
  go_enter Tryz.func288, Tryz.ntmps288
  go_wp2_with (first | (go_at_call 294; refine (mask_32 _).mono ?_; rintro en w2 ⟨rfl, rfl⟩) | (go_at_call 299; refine (hd _).mono ?_; rintro en w2 ⟨rfl, rfl⟩))
  refine bodyPost_ret (v := .tuple #[.int .u64 (x1 : Int), .int .i64 (x2 : Int)]) (by simp [results, Tryz.results288, go_sem]) rfl ?_
  exact ⟨rfl, rfl⟩
set_option maxHeartbeats 4000000 in
theorem intBin_32_5 (a b : Nat) (ha : a < 4294967296) (hb : b < 4294967296) (w : World) : Calls Tryz.prog 288 #[.int .i64 5, .int .i64 32, .int .u64 a, .int .u64 b] w (Pq w (fitV (ibinM 32 5 a b))) := by
  unfold ibinM fitV
  rw [if_neg (by decide), if_neg (by decide), if_neg (by decide), if_neg (by decide), if_neg (by decide), if_pos rfl]
  have hd := fun w => divS_32_false a b ha hb w
  generalize divM false 32 a b = X at hd ⊢
  obtain ⟨x1, x2⟩ := X
  unfold fitV at hd
  dsimp only at hd ⊢
  go_enter Tryz.func288, Tryz.ntmps288
  go_wp2_with (first | (go_at_call 294; refine (mask_32 _).mono ?_; rintro en w2 ⟨rfl, rfl⟩) | (go_at_call 299; refine (hd _).mono ?_; rintro en w2 ⟨rfl, rfl⟩))
  refine bodyPost_ret (v := .tuple #[.int .u64 (x1 : Int), .int .i64 (x2 : Int)]) (by simp [results, Tryz.results288, go_sem]) rfl ?_
  exact ⟨rfl, rfl⟩
set_option maxHeartbeats 4000000 in
theorem intBin_32_4 (a b : Nat) (ha : a < 4294967296) (hb : b < 4294967296) (w : World) : Calls Tryz.prog 288 #[.int .i64 4, .int .i64 32, .int .u64 a, .int .u64 b] w (Pq w (fitV (ibinM 32 4 a b))) := by
  unfold ibinM fitV
  rw [if_neg (by decide), if_neg (by decide), if_neg (by decide), if_neg (by decide), if_pos rfl]
  by_cases h0 : b = 0
  · rw [if_pos h0]
    subst h0
    dsimp only
    go_enter Tryz.func288, Tryz.ntmps288
    go_wp2_with (first | (go_at_call 294; refine (mask_32 _).mono ?_; rintro en w2 ⟨rfl, rfl⟩))
    refine bodyPost_ret (v := .tuple #[.int .u64 0, .int .i64 39]) (by simp [results, Tryz.results288, go_sem]) rfl ?_
    exact ⟨rfl, rfl⟩
  · rw [if_neg h0]
    have h0b : ((b : Int) == 0) = false := by rw [beq_eq_false_iff_ne]; omega
    dsimp only
    obtain ⟨q, hq⟩ : ∃ q : Nat, a / b = q := ⟨_, rfl⟩
    have hqi : (a : Int).tdiv (b : Int) = (q : Int) := by rw [Int.tdiv_eq_ediv_of_nonneg (by omega), ← hq]; simp
    have hqd : (a : Int) / (b : Int) = (q : Int) := by rw [← hq]; simp
    have hql : q < 18446744073709551616 := by rw [← hq]; exact Nat.lt_of_le_of_lt (Nat.div_le_self _ _) (by omega)
    rw [hq]
    clear hq
    go_enter Tryz.func288, Tryz.ntmps288
    go_wp2_with (first | (go_at_call 294; refine (mask_32 _).mono ?_; rintro en w2 ⟨rfl, rfl⟩))
    refine bodyPost_ret (v := .tuple #[.int .u64 (q : Int), .int .i64 0]) (by simp [results, Tryz.results288, go_sem]) rfl ?_
    exact ⟨rfl, rfl⟩
set_option maxHeartbeats 4000000 in
theorem intBin_32_6 (a b : Nat) (ha : a < 4294967296) (hb : b < 4294967296) (w : World) : Calls Tryz.prog 288 #[.int .i64 6, .int .i64 32, .int .u64 a, .int .u64 b] w (Pq w (fitV (ibinM 32 6 a b))) := by
  unfold ibinM fitV
  rw [if_neg (by decide), if_neg (by decide), if_neg (by decide), if_neg (by decide), if_neg (by decide), if_neg (by decide), if_pos rfl]
  by_cases h0 : b = 0
  · rw [if_pos h0]
    subst h0
    dsimp only
    go_enter Tryz.func288, Tryz.ntmps288
    go_wp2_with (first | (go_at_call 294; refine (mask_32 _).mono ?_; rintro en w2 ⟨rfl, rfl⟩))
    refine bodyPost_ret (v := .tuple #[.int .u64 0, .int .i64 39]) (by simp [results, Tryz.results288, go_sem]) rfl ?_
    exact ⟨rfl, rfl⟩
  · rw [if_neg h0]
    have h0b : ((b : Int) == 0) = false := by rw [beq_eq_false_iff_ne]; omega
    dsimp only
    obtain ⟨q, hq⟩ : ∃ q : Nat, a % b = q := ⟨_, rfl⟩
    have hqi : (a : Int).tmod (b : Int) = (q : Int) := by rw [Int.tmod_eq_emod_of_nonneg (by omega), ← hq]; simp
    have hqd : (a : Int) % (b : Int) = (q : Int) := by rw [← hq]; simp
    have hql : q < 18446744073709551616 := by rw [← hq]; exact Nat.lt_of_le_of_lt (Nat.mod_le _ _) (by omega)
    rw [hq]
    clear hq
    go_enter Tryz.func288, Tryz.ntmps288
    go_wp2_with (first | (go_at_call 294; refine (mask_32 _).mono ?_; rintro en w2 ⟨rfl, rfl⟩))
    refine bodyPost_ret (v := .tuple #[.int .u64 (q : Int), .int .i64 0]) (by simp [results, Tryz.results288, go_sem]) rfl ?_
    exact ⟨rfl, rfl⟩
set_option maxHeartbeats 4000000 in
theorem intBin_32_7 (a b : Nat) (ha : a < 4294967296) (hb : b < 4294967296) (w : World) : Calls Tryz.prog 288 #[.int .i64 7, .int .i64 32, .int .u64 a, .int .u64 b] w (Pq w (fitV (ibinM 32 7 a b))) := by
  unfold ibinM fitV
  rw [if_neg (by decide), if_neg (by decide), if_neg (by decide), if_neg (by decide), if_neg (by decide), if_neg (by decide), if_neg (by decide), if_pos rfl]
  dsimp only
  have h1 := bits_and_n a b (by omega) (by omega)
  generalize a &&& b = X at *
  go_enter Tryz.func288, Tryz.ntmps288
  go_wp2_with (first | (go_at_call 294; refine (mask_32 _).mono ?_; rintro en w2 ⟨rfl, rfl⟩))
  refine bodyPost_ret (v := .tuple #[.int .u64 (X : Int), .int .i64 0]) (by simp [results, Tryz.results288, go_sem]) rfl ?_
  exact ⟨rfl, rfl⟩
set_option maxHeartbeats 4000000 in
theorem intBin_32_8 (a b : Nat) (ha : a < 4294967296) (hb : b < 4294967296) (w : World) : Calls Tryz.prog 288 #[.int .i64 8, .int .i64 32, .int .u64 a, .int .u64 b] w (Pq w (fitV (ibinM 32 8 a b))) := by
  unfold ibinM fitV
  rw [if_neg (by decide), if_neg (by decide), if_neg (by decide), if_neg (by decide), if_neg (by decide), if_neg (by decide), if_neg (by decide), if_neg (by decide), if_pos rfl]
  dsimp only
  have h1 := bits_or_n a b (by omega) (by omega)
  generalize a ||| b = X at *
  go_enter Tryz.func288, Tryz.ntmps288
  go_wp2_with (first | (go_at_call 294; refine (mask_32 _).mono ?_; rintro en w2 ⟨rfl, rfl⟩))
  refine bodyPost_ret (v := .tuple #[.int .u64 (X : Int), .int .i64 0]) (by simp [results, Tryz.results288, go_sem]) rfl ?_
  exact ⟨rfl, rfl⟩
set_option maxHeartbeats 4000000 in
theorem intBin_32_9 (a b : Nat) (ha : a < 4294967296) (hb : b < 4294967296) (w : World) : Calls Tryz.prog 288 #[.int .i64 9, .int .i64 32, .int .u64 a, .int .u64 b] w (Pq w (fitV (ibinM 32 9 a b))) := by
  unfold ibinM fitV
  rw [if_neg (by decide), if_neg (by decide), if_neg (by decide), if_neg (by decide), if_neg (by decide), if_neg (by decide), if_neg (by decide), if_neg (by decide), if_neg (by decide), if_pos rfl]
  dsimp only
  have h1 := bits_xor_n a b (by omega) (by omega)
  generalize a ^^^ b = X at *
  go_enter Tryz.func288, Tryz.ntmps288
  go_wp2_with (first | (go_at_call 294; refine (mask_32 _).mono ?_; rintro en w2 ⟨rfl, rfl⟩))
  refine bodyPost_ret (v := .tuple #[.int .u64 (X : Int), .int .i64 0]) (by simp [results, Tryz.results288, go_sem]) rfl ?_
  exact ⟨rfl, rfl⟩
set_option maxHeartbeats 4000000 in
theorem intBin_32_10 (a b : Nat) (ha : a < 4294967296) (hb : b < 4294967296) (w : World) : Calls Tryz.prog 288 #[.int .i64 10, .int .i64 32, .int .u64 a, .int .u64 b] w (Pq w (fitV (ibinM 32 10 a b))) := by
  unfold ibinM fitV
  rw [if_neg (by decide), if_neg (by decide), if_neg (by decide), if_neg (by decide), if_neg (by decide), if_neg (by decide), if_neg (by decide), if_neg (by decide), if_neg (by decide), if_neg (by decide), if_pos rfl]
  obtain ⟨c, hc⟩ : ∃ c : Nat, b % 32 = c := ⟨_, rfl⟩
  have hci : (b : Int) % 32 = (c : Int) := by omega
  have hcl : c < 32 := by rw [← hc]; exact Nat.mod_lt _ (by decide)
  rw [hc]
  clear hc
  dsimp only
  rw [show (2 : Nat) ^ 32 = 4294967296 by decide]
  have h1 : IntKind.u64.wrap ((a : Int) * 2 ^ c) = ((a * 2 ^ c % 18446744073709551616 : Nat) : Int) := by rw [wrap_u64]; simp
  have hY : a * 2 ^ c % 18446744073709551616 < 18446744073709551616 := Nat.mod_lt _ (by decide)
  have e : a * 2 ^ c % 4294967296 = a * 2 ^ c % 18446744073709551616 % 4294967296 := by omega
  rw [e]
  clear e
  generalize a * 2 ^ c % 18446744073709551616 = Y at *
  have h3 := and_mask (Y : Int) 32 4294967295 (by decide) (by decide) (by omega)
  rw [Int.toNat_natCast, show (2 : Nat) ^ 32 = 4294967296 by decide] at h3
  generalize Y % 4294967296 = X at *
  go_enter Tryz.func288, Tryz.ntmps288
  go_wp2_with (first | (go_at_call 294; refine (mask_32 _).mono ?_; rintro en w2 ⟨rfl, rfl⟩))
  refine bodyPost_ret (v := .tuple #[.int .u64 (X : Int), .int .i64 0]) (by simp [results, Tryz.results288, go_sem]) rfl ?_
  exact ⟨rfl, rfl⟩
set_option maxHeartbeats 4000000 in
theorem intBin_32_12 (a b : Nat) (ha : a < 4294967296) (hb : b < 4294967296) (w : World) : Calls Tryz.prog 288 #[.int .i64 12, .int .i64 32, .int .u64 a, .int .u64 b] w (Pq w (fitV (ibinM 32 12 a b))) := by
  unfold ibinM fitV
  rw [if_neg (by decide), if_neg (by decide), if_neg (by decide), if_neg (by decide), if_neg (by decide), if_neg (by decide), if_neg (by decide), if_neg (by decide), if_neg (by decide), if_neg (by decide), if_neg (by decide), if_neg (by decide), if_pos rfl]
  obtain ⟨c, hc⟩ : ∃ c : Nat, b % 32 = c := ⟨_, rfl⟩
  have hci : (b : Int) % 32 = (c : Int) := by omega
  have hcl : c < 32 := by rw [← hc]; exact Nat.mod_lt _ (by decide)
  rw [hc]
  clear hc
  dsimp only
  obtain ⟨q, hq⟩ : ∃ q : Nat, a / 2 ^ c = q := ⟨_, rfl⟩
  have hqi : (a : Int) / 2 ^ c = (q : Int) := by rw [← hq]; simp
  have hql : q < 18446744073709551616 := by rw [← hq]; exact Nat.lt_of_le_of_lt (Nat.div_le_self _ _) (by omega)
  rw [hq]
  clear hq
  go_enter Tryz.func288, Tryz.ntmps288
  go_wp2_with (first | (go_at_call 294; refine (mask_32 _).mono ?_; rintro en w2 ⟨rfl, rfl⟩))
  refine bodyPost_ret (v := .tuple #[.int .u64 (q : Int), .int .i64 0]) (by simp [results, Tryz.results288, go_sem]) rfl ?_
  exact ⟨rfl, rfl⟩
set_option maxHeartbeats 4000000 in
theorem intBin_32_11 (a b : Nat) (ha : a < 4294967296) (hb : b < 4294967296) (w : World) : Calls Tryz.prog 288 #[.int .i64 11, .int .i64 32, .int .u64 a, .int .u64 b] w (Pq w (fitV (ibinM 32 11 a b))) := by
  unfold ibinM fitV
  rw [if_neg (by decide), if_neg (by decide), if_neg (by decide), if_neg (by decide), if_neg (by decide), if_neg (by decide), if_neg (by decide), if_neg (by decide), if_neg (by decide), if_neg (by decide), if_neg (by decide), if_pos rfl]
  obtain ⟨c, hc⟩ : ∃ c : Nat, b % 32 = c := ⟨_, rfl⟩
  have hci : (b : Int) % 32 = (c : Int) := by omega
  have hcl : c < 32 := by rw [← hc]; exact Nat.mod_lt _ (by decide)
  rw [hc]
  clear hc
  dsimp only
  unfold shrsM
  rw [show (2 : Nat) ^ (32 - 1) = 2147483648 by decide, show (2 : Nat) ^ 32 = 4294967296 by decide]
  obtain ⟨q, hq⟩ : ∃ q : Nat, a / 2 ^ c = q := ⟨_, rfl⟩
  have hqi : (a : Int) / 2 ^ c = (q : Int) := by rw [← hq]; simp
  have hql : q < 18446744073709551616 := by rw [← hq]; exact Nat.lt_of_le_of_lt (Nat.div_le_self _ _) (by omega)
  rw [hq]
  by_cases c1 : 2147483648 ≤ a
  · rw [if_pos c1]
    have c1i : (2147483648 : Int) ≤ (a : Int) := by omega
    have hsp : 4294967296 = 2 ^ (32 - c) * 2 ^ c := by rw [← Nat.pow_add, show 32 - c + c = 32 by omega]
    have hcp : 0 < 2 ^ c := Nat.two_pow_pos c
    have hdp : 0 < 2 ^ (32 - c) := Nat.two_pow_pos _
    have hmq : 4294967295 / 2 ^ c = 2 ^ (32 - c) - 1 := by
      rw [show (4294967295 : Nat) = 2 ^ (32 - c) * 2 ^ c - 1 by rw [← hsp]]
      obtain ⟨D, hD⟩ : ∃ D, 2 ^ (32 - c) = D + 1 := ⟨2 ^ (32 - c) - 1, by omega⟩
      rw [hD, Nat.add_sub_cancel, Nat.add_mul, Nat.one_mul]
      refine Nat.div_eq_of_lt_le (by omega) ?_
      rw [Nat.add_mul]
      omega
    have hqlt : q < 2 ^ (32 - c) := by
      rw [← hq, Nat.div_lt_iff_lt_mul hcp, ← hsp]
      exact ha
    have hmi : (4294967295 : Int) / 2 ^ c = ((2 ^ (32 - c) - 1 : Nat) : Int) := by
      rw [← hmq]; simp
    have hle : 2 ^ (32 - c) ≤ 4294967296 := by rw [hsp]; exact Nat.le_mul_of_pos_right _ hcp
    have hor := bits_or_n q (4294967296 - 2 ^ (32 - c)) hql (by omega)
    have hmul : (4294967296 - 2 ^ (32 - c)) % 2 ^ (32 - c) = 0 := by
      rw [hsp]
      have : 2 ^ (32 - c) * 2 ^ c - 2 ^ (32 - c) = 2 ^ (32 - c) * (2 ^ c - 1) := by rw [Nat.mul_sub, Nat.mul_one]
      rw [this, Nat.mul_mod_right]
    rw [Nat.or_comm, or_sum _ q (32 - c) hqlt hmul, Nat.add_comm] at hor
    have hZ : q + (4294967296 - 2 ^ (32 - c)) < 4294967296 := by omega
    obtain ⟨G, hG⟩ : ∃ G : Nat, 2 ^ (32 - c) = G := ⟨_, rfl⟩
    rw [hG] at hor hZ hmi hle hdp ⊢
    have hmi2 : (4294967295 : Int) / 2 ^ c = (G : Int) - 1 := by omega
    have hsb : (4294967295 : Int) - ((G : Int) - 1) = ((4294967296 - G : Nat) : Int) := by omega
    generalize q + (4294967296 - G) = Z at *
    obtain ⟨V, hV⟩ : ∃ V : Nat, 4294967296 - G = V := ⟨_, rfl⟩
    rw [hV] at hor hsb
    obtain ⟨mq, hmq2⟩ : ∃ mq : Nat, G - 1 = mq := ⟨_, rfl⟩
    rw [hmq2] at hmi
    have hsb2 : (4294967295 : Int) - (mq : Int) = (V : Int) := by omega
    have hVl : V < 18446744073709551616 := by omega
    clear hsp hmq hmul hG hqlt hq hmi2 hsb hV hmq2 hle
    go_enter Tryz.func288, Tryz.ntmps288
    go_wp2_with (first | (go_at_call 294; refine (mask_32 _).mono ?_; rintro en w2 ⟨rfl, rfl⟩) | (go_at_call 293; refine (top_32 _).mono ?_; rintro en w2 ⟨rfl, rfl⟩))
    refine bodyPost_ret (v := .tuple #[.int .u64 (Z : Int), .int .i64 0]) (by simp [results, Tryz.results288, go_sem]) rfl ?_
    exact ⟨rfl, rfl⟩
  · rw [if_neg c1]
    have c1i : ¬ (2147483648 : Int) ≤ (a : Int) := by omega
    have c1d : decide ((2147483648 : Int) ≤ (a : Int)) = false := decide_eq_false c1i
    clear hq
    go_enter Tryz.func288, Tryz.ntmps288
    go_wp2_with (first | (go_at_call 294; refine (mask_32 _).mono ?_; rintro en w2 ⟨rfl, rfl⟩) | (go_at_call 293; refine (top_32 _).mono ?_; rintro en w2 ⟨rfl, rfl⟩))
    refine bodyPost_ret (v := .tuple #[.int .u64 (q : Int), .int .i64 0]) (by simp [results, Tryz.results288, go_sem]) rfl ?_
    exact ⟨rfl, rfl⟩
set_option maxHeartbeats 4000000 in
theorem intBin_32_13 (a b : Nat) (ha : a < 4294967296) (hb : b < 4294967296) (w : World) : Calls Tryz.prog 288 #[.int .i64 13, .int .i64 32, .int .u64 a, .int .u64 b] w (Pq w (fitV (ibinM 32 13 a b))) := by
  unfold ibinM fitV
  rw [if_neg (by decide), if_neg (by decide), if_neg (by decide), if_neg (by decide), if_neg (by decide), if_neg (by decide), if_neg (by decide), if_neg (by decide), if_neg (by decide), if_neg (by decide), if_neg (by decide), if_neg (by decide), if_neg (by decide), if_pos rfl]
  obtain ⟨c, hc⟩ : ∃ c : Nat, b % 32 = c := ⟨_, rfl⟩
  have hci : (b : Int) % 32 = (c : Int) := by omega
  have hcl : c < 32 := by rw [← hc]; exact Nat.mod_lt _ (by decide)
  rw [hc]
  clear hc
  dsimp only
  rw [show (2 : Nat) ^ 32 = 4294967296 by decide]
  obtain ⟨d, hd⟩ : ∃ d : Nat, 32 - c = d := ⟨_, rfl⟩
  have hdi : (32 : Int) - (c : Int) = (d : Int) := by omega
  have hdl : 1 ≤ d ∧ d ≤ 32 := by omega
  rw [hd]
  have hcd : c + d = 32 := by omega
  clear hd
  have hsp : 4294967296 = 2 ^ d * 2 ^ c := by rw [← Nat.pow_add, show d + c = 32 by omega]
  have hcp : 0 < 2 ^ c := Nat.two_pow_pos c
  have hdp : 0 < 2 ^ d := Nat.two_pow_pos d
  obtain ⟨q, hq⟩ : ∃ q : Nat, a / 2 ^ d = q := ⟨_, rfl⟩
  have hqi : (a : Int) / 2 ^ d = (q : Int) := by rw [← hq]; simp
  have hqs : q < 2 ^ c := by
    rw [← hq, Nat.div_lt_iff_lt_mul (Nat.two_pow_pos _)]
    have : 2 ^ c * 2 ^ d = 4294967296 := by rw [hsp]; rw [Nat.mul_comm]
    rw [this]
    exact ha
  have hql : q < 18446744073709551616 := by rw [← hq]; exact Nat.lt_of_le_of_lt (Nat.div_le_self _ _) (by omega)
  rw [hq]
  have h1 : IntKind.u64.wrap ((a : Int) * 2 ^ c) = ((a * 2 ^ c % 18446744073709551616 : Nat) : Int) := by rw [wrap_u64]; simp
  have hY : a * 2 ^ c % 18446744073709551616 < 18446744073709551616 := Nat.mod_lt _ (by decide)
  have hYm : a * 2 ^ c % 18446744073709551616 % 2 ^ c = 0 := by
    have hsq : 18446744073709551616 = 2 ^ c * 2 ^ (64 - c) := by rw [← Nat.pow_add, show c + (64 - c) = 64 by omega]
    rw [hsq, Nat.mod_mul_right_mod, Nat.mul_mod_left]
  have hor := bits_or_n (a * 2 ^ c % 18446744073709551616) q hY hql
  rw [or_sum _ q c hqs hYm] at hor
  have hor2 : bits .or .u64 (q : Int) ((a * 2 ^ c % 18446744073709551616 : Nat) : Int) = ((a * 2 ^ c % 18446744073709551616 + q : Nat) : Int) := by
    have := bits_or_n q (a * 2 ^ c % 18446744073709551616) hql hY
    rw [Nat.or_comm, or_sum _ q c hqs hYm] at this
    exact this
  have hZ : a * 2 ^ c % 18446744073709551616 + q < 18446744073709551616 := by
    have := Nat.or_lt_two_pow (n := 64) hY hql
    rw [or_sum _ q c hqs hYm] at this
    exact this
  have e : (a * 2 ^ c + q) % 4294967296 = (a * 2 ^ c % 18446744073709551616 + q) % 4294967296 := by omega
  rw [e]
  clear hYm hsp e
  generalize a * 2 ^ c % 18446744073709551616 = Y at *
  generalize Y + q = Z at *
  have h3 := and_mask (Z : Int) 32 4294967295 (by decide) (by decide) (by omega)
  rw [Int.toNat_natCast, show (2 : Nat) ^ 32 = 4294967296 by decide] at h3
  generalize Z % 4294967296 = X at *
  clear hq hqs hcp hdp
  go_enter Tryz.func288, Tryz.ntmps288
  go_wp2_with (first | (go_at_call 294; refine (mask_32 _).mono ?_; rintro en w2 ⟨rfl, rfl⟩))
  refine bodyPost_ret (v := .tuple #[.int .u64 (X : Int), .int .i64 0]) (by simp [results, Tryz.results288, go_sem]) rfl ?_
  exact ⟨rfl, rfl⟩
set_option maxHeartbeats 4000000 in
theorem intBin_32_14 (a b : Nat) (ha : a < 4294967296) (hb : b < 4294967296) (w : World) : Calls Tryz.prog 288 #[.int .i64 14, .int .i64 32, .int .u64 a, .int .u64 b] w (Pq w (fitV (ibinM 32 14 a b))) := by
  unfold ibinM fitV
  rw [if_neg (by decide), if_neg (by decide), if_neg (by decide), if_neg (by decide), if_neg (by decide), if_neg (by decide), if_neg (by decide), if_neg (by decide), if_neg (by decide), if_neg (by decide), if_neg (by decide), if_neg (by decide), if_neg (by decide), if_neg (by decide)]
  obtain ⟨c, hc⟩ : ∃ c : Nat, b % 32 = c := ⟨_, rfl⟩
  have hci : (b : Int) % 32 = (c : Int) := by omega
  have hcl : c < 32 := by rw [← hc]; exact Nat.mod_lt _ (by decide)
  rw [hc]
  clear hc
  dsimp only
  rw [show (2 : Nat) ^ 32 = 4294967296 by decide]
  obtain ⟨d, hd⟩ : ∃ d : Nat, 32 - c = d := ⟨_, rfl⟩
  have hdi : (32 : Int) - (c : Int) = (d : Int) := by omega
  have hdl : 1 ≤ d ∧ d ≤ 32 := by omega
  rw [hd]
  have hcd : c + d = 32 := by omega
  clear hd
  have hsp : 4294967296 = 2 ^ d * 2 ^ c := by rw [← Nat.pow_add, show d + c = 32 by omega]
  have hcp : 0 < 2 ^ c := Nat.two_pow_pos c
  have hdp : 0 < 2 ^ d := Nat.two_pow_pos d
  obtain ⟨q, hq⟩ : ∃ q : Nat, a / 2 ^ c = q := ⟨_, rfl⟩
  have hqi : (a : Int) / 2 ^ c = (q : Int) := by rw [← hq]; simp
  have hqs : q < 2 ^ d := by
    rw [← hq, Nat.div_lt_iff_lt_mul (Nat.two_pow_pos _)]
    have : 2 ^ d * 2 ^ c = 4294967296 := by rw [hsp]
    rw [this]
    exact ha
  have hql : q < 18446744073709551616 := by rw [← hq]; exact Nat.lt_of_le_of_lt (Nat.div_le_self _ _) (by omega)
  rw [hq]
  have h1 : IntKind.u64.wrap ((a : Int) * 2 ^ d) = ((a * 2 ^ d % 18446744073709551616 : Nat) : Int) := by rw [wrap_u64]; simp
  have hY : a * 2 ^ d % 18446744073709551616 < 18446744073709551616 := Nat.mod_lt _ (by decide)
  have hYm : a * 2 ^ d % 18446744073709551616 % 2 ^ d = 0 := by
    have hsq : 18446744073709551616 = 2 ^ d * 2 ^ (64 - d) := by rw [← Nat.pow_add, show d + (64 - d) = 64 by omega]
    rw [hsq, Nat.mod_mul_right_mod, Nat.mul_mod_left]
  have hor := bits_or_n (a * 2 ^ d % 18446744073709551616) q hY hql
  rw [or_sum _ q d hqs hYm] at hor
  have hor2 : bits .or .u64 (q : Int) ((a * 2 ^ d % 18446744073709551616 : Nat) : Int) = ((a * 2 ^ d % 18446744073709551616 + q : Nat) : Int) := by
    have := bits_or_n q (a * 2 ^ d % 18446744073709551616) hql hY
    rw [Nat.or_comm, or_sum _ q d hqs hYm] at this
    exact this
  have hZ : a * 2 ^ d % 18446744073709551616 + q < 18446744073709551616 := by
    have := Nat.or_lt_two_pow (n := 64) hY hql
    rw [or_sum _ q d hqs hYm] at this
    exact this
  have e : (q + a * 2 ^ d) % 4294967296 = (a * 2 ^ d % 18446744073709551616 + q) % 4294967296 := by omega
  rw [e]
  clear hYm hsp e
  generalize a * 2 ^ d % 18446744073709551616 = Y at *
  generalize Y + q = Z at *
  have h3 := and_mask (Z : Int) 32 4294967295 (by decide) (by decide) (by omega)
  rw [Int.toNat_natCast, show (2 : Nat) ^ 32 = 4294967296 by decide] at h3
  generalize Z % 4294967296 = X at *
  clear hq hqs hcp hdp
  go_enter Tryz.func288, Tryz.ntmps288
  go_wp2_with (first | (go_at_call 294; refine (mask_32 _).mono ?_; rintro en w2 ⟨rfl, rfl⟩))
  refine bodyPost_ret (v := .tuple #[.int .u64 (X : Int), .int .i64 0]) (by simp [results, Tryz.results288, go_sem]) rfl ?_
  exact ⟨rfl, rfl⟩
end Go.Proofs.Qxb6500275aGreatDoor
