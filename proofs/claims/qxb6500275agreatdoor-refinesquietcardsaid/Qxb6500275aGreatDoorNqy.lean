import Derived.Test.Qxb6500275aGreatDoorNqx
set_option maxRecDepth 100000
set_option linter.unusedVariables false
set_option linter.unusedSimpArgs false
namespace Go.Proofs.Qxb6500275aGreatDoor
open Go Go.RowKit
theorem ofInt_nat (x : Nat) (hx : x < 18446744073709551616) : (BitVec.ofInt IntKind.u64.bits (x : Int)).toNat = x := by
  show (BitVec.ofInt 64 (x : Int)).toNat = x
  rw [BitVec.toNat_ofInt]
  omega
theorem bits_and_n (x y : Nat) (hx : x < 18446744073709551616) (hy : y < 18446744073709551616) : bits .and .u64 (x : Int) (y : Int) = ((x &&& y : Nat) : Int) := by
  unfold bits
  have e : (BitVec.ofInt IntKind.u64.bits (x : Int) &&& BitVec.ofInt IntKind.u64.bits (y : Int)).toNat = x &&& y := by rw [BitVec.toNat_and, ofInt_nat x hx, ofInt_nat y hy]
  have hl : x &&& y < 2 ^ 64 := Nat.and_lt_two_pow _ hy
  simp only [e, wrap_u64]
  omega
theorem bits_or_n (x y : Nat) (hx : x < 18446744073709551616) (hy : y < 18446744073709551616) : bits .or .u64 (x : Int) (y : Int) = ((x ||| y : Nat) : Int) := by
  unfold bits
  have e : (BitVec.ofInt IntKind.u64.bits (x : Int) ||| BitVec.ofInt IntKind.u64.bits (y : Int)).toNat = x ||| y := by rw [BitVec.toNat_or, ofInt_nat x hx, ofInt_nat y hy]
  have hl : x ||| y < 2 ^ 64 := Nat.or_lt_two_pow hx hy
  simp only [e, wrap_u64]
  omega
theorem bits_xor_n (x y : Nat) (hx : x < 18446744073709551616) (hy : y < 18446744073709551616) : bits .xor .u64 (x : Int) (y : Int) = ((x ^^^ y : Nat) : Int) := by
  unfold bits
  have e : (BitVec.ofInt IntKind.u64.bits (x : Int) ^^^ BitVec.ofInt IntKind.u64.bits (y : Int)).toNat = x ^^^ y := by rw [BitVec.toNat_xor, ofInt_nat x hx, ofInt_nat y hy]
  have hl : x ^^^ y < 2 ^ 64 := Nat.xor_lt_two_pow hx hy
  simp only [e, wrap_u64]
  omega
/- signed division by magnitudes -/
def magN (n a : Nat) : Nat := if 2 ^ (n - 1) ≤ a then 2 ^ n - a else a
def divM (quo : Bool) (n a b : Nat) : Nat × Nat :=
  if b = 0 then (0, 39)
  else if quo = true then
    (if (decide (2 ^ (n - 1) ≤ a) == decide (2 ^ (n - 1) ≤ b)) = true then (if 2 ^ (n - 1) ≤ magN n a / magN n b then (0, 40) else (magN n a / magN n b, 0)) else ((2 ^ n - magN n a / magN n b) % 2 ^ n, 0))
  else if 2 ^ (n - 1) ≤ a then ((2 ^ n - magN n a % magN n b) % 2 ^ n, 0) else (magN n a % magN n b, 0)
set_option maxHeartbeats 4000000 in
theorem divS_32_true (a b : Nat) (ha : a < 4294967296) (hb : b < 4294967296) (w : World) : Calls Tryz.prog 299 #[.bool true, .int .i64 32, .int .u64 a, .int .u64 b] w (Pq w (fitV (divM true 32 a b))) := by
  have hM : ∀ v : Nat, v < 4294967296 → ∀ w, Calls Tryz.prog 310 #[.int .i64 32, .int .u64 v] w (Pq w (.int .u64 ((magN 32 v : Nat) : Int))) := fun v hv w => by
    unfold magN
    exact mag_32 v hv w
  have hMl : ∀ v : Nat, v < 4294967296 → magN 32 v ≤ 2147483648 := fun v hv => by unfold magN; rw [show (2 : Nat) ^ (32 - 1) = 2147483648 by decide, show (2 : Nat) ^ 32 = 4294967296 by decide]; split <;> omega
  have hM0 : b ≠ 0 → magN 32 b ≠ 0 := fun h => by unfold magN; rw [show (2 : Nat) ^ (32 - 1) = 2147483648 by decide, show (2 : Nat) ^ 32 = 4294967296 by decide]; split <;> omega
  have hma := hMl a ha
  have hmb := hMl b hb
  have HI : Hid (∀ v : Nat, v < 4294967296 → ∀ w, Calls Tryz.prog 298 #[.int .i64 32, .int .u64 v] w (Pq w (.int .u64 (((4294967296 - v) % 4294967296 : Nat) : Int)))) := fun v hv w => minus_32 v hv w
  unfold divM fitV
  rw [show (2 : Nat) ^ (32 - 1) = 2147483648 by decide, show (2 : Nat) ^ 32 = 4294967296 by decide]
  generalize magN 32 = MG at *
  clear hMl
  by_cases h0 : b = 0
  · rw [if_pos h0]
    subst h0
    dsimp only
    clear hM hM0 HI hma hmb
    go_enter Tryz.func299, Tryz.ntmps299
    go_wp2_with (first | (go_at_call 293; refine (top_32 _).mono ?_; rintro en w2 ⟨rfl, rfl⟩) | fail)
    refine bodyPost_ret (v := .tuple #[.int .u64 0, .int .i64 39]) (by simp [results, Tryz.results299, go_sem]) rfl ?_
    exact ⟨rfl, rfl⟩
  rw [if_neg h0]
  have h0b : ((b : Int) == 0) = false := by rw [beq_eq_false_iff_ne]; omega
  have hbz := hM0 h0
  have hbzi : (((MG b : Nat) : Int) == 0) = false := by rw [beq_eq_false_iff_ne]; omega
  clear hM0
  rw [if_pos rfl]
  obtain ⟨q, hq⟩ : ∃ q : Nat, MG a / MG b = q := ⟨_, rfl⟩
  have hqi : ((MG a : Nat) : Int).tdiv ((MG b : Nat) : Int) = (q : Int) := by rw [Int.tdiv_eq_ediv_of_nonneg (by omega), ← hq]; simp
  have hqd : ((MG a : Nat) : Int) / ((MG b : Nat) : Int) = (q : Int) := by rw [← hq]; simp
  have hql : q ≤ 2147483648 := by rw [← hq]; exact Nat.le_trans (Nat.div_le_self _ _) hma
  rw [hq]
  have hmi := fun w => HI.out q (by omega) w
  generalize (4294967296 - q) % 4294967296 = X at hmi ⊢
  clear hq
  by_cases c1 : 2147483648 ≤ a <;> by_cases c2 : 2147483648 ≤ b
  · have c1i : (2147483648 : Int) ≤ (a : Int) := by omega
    have c2i : (2147483648 : Int) ≤ (b : Int) := by omega
    have c1d : decide ((2147483648 : Int) ≤ (a : Int)) = true := decide_eq_true c1i
    have c2d : decide ((2147483648 : Int) ≤ (b : Int)) = true := decide_eq_true c2i
    rw [show decide (2147483648 ≤ a) = true from decide_eq_true c1, show decide (2147483648 ≤ b) = true from decide_eq_true c2]
    rw [if_pos (by decide)]
    by_cases c3 : 2147483648 ≤ q
    · rw [if_pos c3]
      have c3i : (2147483648 : Int) ≤ (q : Int) := by omega
      dsimp only
      go_enter Tryz.func299, Tryz.ntmps299
      go_wp2_with (first | (go_at_call 293; refine (top_32 _).mono ?_; rintro en w2 ⟨rfl, rfl⟩) | (go_at_call 310; refine (hM _ (by assumption) _).mono ?_; rintro en w2 ⟨rfl, rfl⟩))
      refine bodyPost_ret (v := .tuple #[.int .u64 0, .int .i64 40]) (by simp [results, Tryz.results299, go_sem]) rfl ?_
      exact ⟨rfl, rfl⟩
    · rw [if_neg c3]
      have c3i : ¬ (2147483648 : Int) ≤ (q : Int) := by omega
      have c3d : decide ((2147483648 : Int) ≤ (q : Int)) = false := decide_eq_false c3i
      dsimp only
      go_enter Tryz.func299, Tryz.ntmps299
      go_wp2_with (first | (go_at_call 293; refine (top_32 _).mono ?_; rintro en w2 ⟨rfl, rfl⟩) | (go_at_call 310; refine (hM _ (by assumption) _).mono ?_; rintro en w2 ⟨rfl, rfl⟩))
      refine bodyPost_ret (v := .tuple #[.int .u64 (q : Int), .int .i64 0]) (by simp [results, Tryz.results299, go_sem]) rfl ?_
      exact ⟨rfl, rfl⟩
  · have c1i : (2147483648 : Int) ≤ (a : Int) := by omega
    have c2i : ¬ (2147483648 : Int) ≤ (b : Int) := by omega
    have c1d : decide ((2147483648 : Int) ≤ (a : Int)) = true := decide_eq_true c1i
    have c2d : decide ((2147483648 : Int) ≤ (b : Int)) = false := decide_eq_false c2i
    rw [show decide (2147483648 ≤ a) = true from decide_eq_true c1, show decide (2147483648 ≤ b) = false from decide_eq_false c2]
    rw [if_neg (by decide)]
    dsimp only
    go_enter Tryz.func299, Tryz.ntmps299
    go_wp2_with (first | (go_at_call 293; refine (top_32 _).mono ?_; rintro en w2 ⟨rfl, rfl⟩) | (go_at_call 310; refine (hM _ (by assumption) _).mono ?_; rintro en w2 ⟨rfl, rfl⟩) | (go_at_call 298; refine (hmi _).mono ?_; rintro en w2 ⟨rfl, rfl⟩))
    refine bodyPost_ret (v := .tuple #[.int .u64 (X : Int), .int .i64 0]) (by simp [results, Tryz.results299, go_sem]) rfl ?_
    exact ⟨rfl, rfl⟩
  · have c1i : ¬ (2147483648 : Int) ≤ (a : Int) := by omega
    have c2i : (2147483648 : Int) ≤ (b : Int) := by omega
    have c1d : decide ((2147483648 : Int) ≤ (a : Int)) = false := decide_eq_false c1i
    have c2d : decide ((2147483648 : Int) ≤ (b : Int)) = true := decide_eq_true c2i
    rw [show decide (2147483648 ≤ a) = false from decide_eq_false c1, show decide (2147483648 ≤ b) = true from decide_eq_true c2]
    rw [if_neg (by decide)]
    dsimp only
    go_enter Tryz.func299, Tryz.ntmps299
    go_wp2_with (first | (go_at_call 293; refine (top_32 _).mono ?_; rintro en w2 ⟨rfl, rfl⟩) | (go_at_call 310; refine (hM _ (by assumption) _).mono ?_; rintro en w2 ⟨rfl, rfl⟩) | (go_at_call 298; refine (hmi _).mono ?_; rintro en w2 ⟨rfl, rfl⟩))
    refine bodyPost_ret (v := .tuple #[.int .u64 (X : Int), .int .i64 0]) (by simp [results, Tryz.results299, go_sem]) rfl ?_
    exact ⟨rfl, rfl⟩
  · have c1i : ¬ (2147483648 : Int) ≤ (a : Int) := by omega
    have c2i : ¬ (2147483648 : Int) ≤ (b : Int) := by omega
    have c1d : decide ((2147483648 : Int) ≤ (a : Int)) = false := decide_eq_false c1i
    have c2d : decide ((2147483648 : Int) ≤ (b : Int)) = false := decide_eq_false c2i
    rw [show decide (2147483648 ≤ a) = false from decide_eq_false c1, show decide (2147483648 ≤ b) = false from decide_eq_false c2]
    rw [if_pos (by decide)]
    by_cases c3 : 2147483648 ≤ q
    · rw [if_pos c3]
      have c3i : (2147483648 : Int) ≤ (q : Int) := by omega
      dsimp only
      go_enter Tryz.func299, Tryz.ntmps299
      go_wp2_with (first | (go_at_call 293; refine (top_32 _).mono ?_; rintro en w2 ⟨rfl, rfl⟩) | (go_at_call 310; refine (hM _ (by assumption) _).mono ?_; rintro en w2 ⟨rfl, rfl⟩))
      refine bodyPost_ret (v := .tuple #[.int .u64 0, .int .i64 40]) (by simp [results, Tryz.results299, go_sem]) rfl ?_
      exact ⟨rfl, rfl⟩
    · rw [if_neg c3]
      have c3i : ¬ (2147483648 : Int) ≤ (q : Int) := by omega
      have c3d : decide ((2147483648 : Int) ≤ (q : Int)) = false := decide_eq_false c3i
      dsimp only
      go_enter Tryz.func299, Tryz.ntmps299
      go_wp2_with (first | (go_at_call 293; refine (top_32 _).mono ?_; rintro en w2 ⟨rfl, rfl⟩) | (go_at_call 310; refine (hM _ (by assumption) _).mono ?_; rintro en w2 ⟨rfl, rfl⟩))
      refine bodyPost_ret (v := .tuple #[.int .u64 (q : Int), .int .i64 0]) (by simp [results, Tryz.results299, go_sem]) rfl ?_
      exact ⟨rfl, rfl⟩
set_option maxHeartbeats 4000000 in
theorem divS_32_false (a b : Nat) (ha : a < 4294967296) (hb : b < 4294967296) (w : World) : Calls Tryz.prog 299 #[.bool false, .int .i64 32, .int .u64 a, .int .u64 b] w (Pq w (fitV (divM false 32 a b))) := by
  have hM : ∀ v : Nat, v < 4294967296 → ∀ w, Calls Tryz.prog 310 #[.int .i64 32, .int .u64 v] w (Pq w (.int .u64 ((magN 32 v : Nat) : Int))) := fun v hv w => by
    unfold magN
    exact mag_32 v hv w
  have hMl : ∀ v : Nat, v < 4294967296 → magN 32 v ≤ 2147483648 := fun v hv => by unfold magN; rw [show (2 : Nat) ^ (32 - 1) = 2147483648 by decide, show (2 : Nat) ^ 32 = 4294967296 by decide]; split <;> omega
  have hM0 : b ≠ 0 → magN 32 b ≠ 0 := fun h => by unfold magN; rw [show (2 : Nat) ^ (32 - 1) = 2147483648 by decide, show (2 : Nat) ^ 32 = 4294967296 by decide]; split <;> omega
  have hma := hMl a ha
  have hmb := hMl b hb
  have HI : Hid (∀ v : Nat, v < 4294967296 → ∀ w, Calls Tryz.prog 298 #[.int .i64 32, .int .u64 v] w (Pq w (.int .u64 (((4294967296 - v) % 4294967296 : Nat) : Int)))) := fun v hv w => minus_32 v hv w
  unfold divM fitV
  rw [show (2 : Nat) ^ (32 - 1) = 2147483648 by decide, show (2 : Nat) ^ 32 = 4294967296 by decide]
  generalize magN 32 = MG at *
  clear hMl
  by_cases h0 : b = 0
  · rw [if_pos h0]
    subst h0
    dsimp only
    clear hM hM0 HI hma hmb
    go_enter Tryz.func299, Tryz.ntmps299
    go_wp2_with (first | (go_at_call 293; refine (top_32 _).mono ?_; rintro en w2 ⟨rfl, rfl⟩) | fail)
    refine bodyPost_ret (v := .tuple #[.int .u64 0, .int .i64 39]) (by simp [results, Tryz.results299, go_sem]) rfl ?_
    exact ⟨rfl, rfl⟩
  rw [if_neg h0]
  have h0b : ((b : Int) == 0) = false := by rw [beq_eq_false_iff_ne]; omega
  have hbz := hM0 h0
  have hbzi : (((MG b : Nat) : Int) == 0) = false := by rw [beq_eq_false_iff_ne]; omega
  clear hM0
  rw [if_neg (by decide)]
  obtain ⟨r, hr⟩ : ∃ r : Nat, MG a % MG b = r := ⟨_, rfl⟩
  have hri : ((MG a : Nat) : Int).tmod ((MG b : Nat) : Int) = (r : Int) := by rw [Int.tmod_eq_emod_of_nonneg (by omega), ← hr]; simp
  have hrd : ((MG a : Nat) : Int) % ((MG b : Nat) : Int) = (r : Int) := by rw [← hr]; simp
  have hrl : r ≤ 2147483648 := by rw [← hr]; exact Nat.le_trans (Nat.mod_le _ _) hma
  rw [hr]
  have hmi := fun w => HI.out r (by omega) w
  generalize (4294967296 - r) % 4294967296 = X at hmi ⊢
  clear hr
  by_cases c1 : 2147483648 ≤ a
  · rw [if_pos c1]
    have c1i : (2147483648 : Int) ≤ (a : Int) := by omega
    dsimp only
    go_enter Tryz.func299, Tryz.ntmps299
    go_wp2_with (first | (go_at_call 293; refine (top_32 _).mono ?_; rintro en w2 ⟨rfl, rfl⟩) | (go_at_call 310; refine (hM _ (by assumption) _).mono ?_; rintro en w2 ⟨rfl, rfl⟩) | (go_at_call 298; refine (hmi _).mono ?_; rintro en w2 ⟨rfl, rfl⟩))
    refine bodyPost_ret (v := .tuple #[.int .u64 (X : Int), .int .i64 0]) (by simp [results, Tryz.results299, go_sem]) rfl ?_
    exact ⟨rfl, rfl⟩
  · rw [if_neg c1]
    have c1i : ¬ (2147483648 : Int) ≤ (a : Int) := by omega
    have c1d : decide ((2147483648 : Int) ≤ (a : Int)) = false := decide_eq_false c1i
    dsimp only
    go_enter Tryz.func299, Tryz.ntmps299
    go_wp2_with (first | (go_at_call 293; refine (top_32 _).mono ?_; rintro en w2 ⟨rfl, rfl⟩) | (go_at_call 310; refine (hM _ (by assumption) _).mono ?_; rintro en w2 ⟨rfl, rfl⟩))
    refine bodyPost_ret (v := .tuple #[.int .u64 (r : Int), .int .i64 0]) (by simp [results, Tryz.results299, go_sem]) rfl ?_
    exact ⟨rfl, rfl⟩
set_option maxHeartbeats 4000000 in
theorem divS_64_true (a b : Nat) (ha : a < 18446744073709551616) (hb : b < 18446744073709551616) (w : World) : Calls Tryz.prog 299 #[.bool true, .int .i64 64, .int .u64 a, .int .u64 b] w (Pq w (fitV (divM true 64 a b))) := by
  have hM : ∀ v : Nat, v < 18446744073709551616 → ∀ w, Calls Tryz.prog 310 #[.int .i64 64, .int .u64 v] w (Pq w (.int .u64 ((magN 64 v : Nat) : Int))) := fun v hv w => by
    unfold magN
    exact mag_64 v hv w
  have hMl : ∀ v : Nat, v < 18446744073709551616 → magN 64 v ≤ 9223372036854775808 := fun v hv => by unfold magN; rw [show (2 : Nat) ^ (64 - 1) = 9223372036854775808 by decide, show (2 : Nat) ^ 64 = 18446744073709551616 by decide]; split <;> omega
  have hM0 : b ≠ 0 → magN 64 b ≠ 0 := fun h => by unfold magN; rw [show (2 : Nat) ^ (64 - 1) = 9223372036854775808 by decide, show (2 : Nat) ^ 64 = 18446744073709551616 by decide]; split <;> omega
  have hma := hMl a ha
  have hmb := hMl b hb
  have HI : Hid (∀ v : Nat, v < 18446744073709551616 → ∀ w, Calls Tryz.prog 298 #[.int .i64 64, .int .u64 v] w (Pq w (.int .u64 (((18446744073709551616 - v) % 18446744073709551616 : Nat) : Int)))) := fun v hv w => minus_64 v hv w
  unfold divM fitV
  rw [show (2 : Nat) ^ (64 - 1) = 9223372036854775808 by decide, show (2 : Nat) ^ 64 = 18446744073709551616 by decide]
  generalize magN 64 = MG at *
  clear hMl
  by_cases h0 : b = 0
  · rw [if_pos h0]
    subst h0
    dsimp only
    clear hM hM0 HI hma hmb
    go_enter Tryz.func299, Tryz.ntmps299
    go_wp2_with (first | (go_at_call 293; refine (top_64 _).mono ?_; rintro en w2 ⟨rfl, rfl⟩) | fail)
    refine bodyPost_ret (v := .tuple #[.int .u64 0, .int .i64 39]) (by simp [results, Tryz.results299, go_sem]) rfl ?_
    exact ⟨rfl, rfl⟩
  rw [if_neg h0]
  have h0b : ((b : Int) == 0) = false := by rw [beq_eq_false_iff_ne]; omega
  have hbz := hM0 h0
  have hbzi : (((MG b : Nat) : Int) == 0) = false := by rw [beq_eq_false_iff_ne]; omega
  clear hM0
  rw [if_pos rfl]
  obtain ⟨q, hq⟩ : ∃ q : Nat, MG a / MG b = q := ⟨_, rfl⟩
  have hqi : ((MG a : Nat) : Int).tdiv ((MG b : Nat) : Int) = (q : Int) := by rw [Int.tdiv_eq_ediv_of_nonneg (by omega), ← hq]; simp
  have hqd : ((MG a : Nat) : Int) / ((MG b : Nat) : Int) = (q : Int) := by rw [← hq]; simp
  have hql : q ≤ 9223372036854775808 := by rw [← hq]; exact Nat.le_trans (Nat.div_le_self _ _) hma
  rw [hq]
  have hmi := fun w => HI.out q (by omega) w
  generalize (18446744073709551616 - q) % 18446744073709551616 = X at hmi ⊢
  clear hq
  by_cases c1 : 9223372036854775808 ≤ a <;> by_cases c2 : 9223372036854775808 ≤ b
  · have c1i : (9223372036854775808 : Int) ≤ (a : Int) := by omega
    have c2i : (9223372036854775808 : Int) ≤ (b : Int) := by omega
    have c1d : decide ((9223372036854775808 : Int) ≤ (a : Int)) = true := decide_eq_true c1i
    have c2d : decide ((9223372036854775808 : Int) ≤ (b : Int)) = true := decide_eq_true c2i
    rw [show decide (9223372036854775808 ≤ a) = true from decide_eq_true c1, show decide (9223372036854775808 ≤ b) = true from decide_eq_true c2]
    rw [if_pos (by decide)]
    by_cases c3 : 9223372036854775808 ≤ q
    · rw [if_pos c3]
      have c3i : (9223372036854775808 : Int) ≤ (q : Int) := by omega
      dsimp only
      go_enter Tryz.func299, Tryz.ntmps299
      go_wp2_with (first | (go_at_call 293; refine (top_64 _).mono ?_; rintro en w2 ⟨rfl, rfl⟩) | (go_at_call 310; refine (hM _ (by assumption) _).mono ?_; rintro en w2 ⟨rfl, rfl⟩))
      refine bodyPost_ret (v := .tuple #[.int .u64 0, .int .i64 40]) (by simp [results, Tryz.results299, go_sem]) rfl ?_
      exact ⟨rfl, rfl⟩
    · rw [if_neg c3]
      have c3i : ¬ (9223372036854775808 : Int) ≤ (q : Int) := by omega
      have c3d : decide ((9223372036854775808 : Int) ≤ (q : Int)) = false := decide_eq_false c3i
      dsimp only
      go_enter Tryz.func299, Tryz.ntmps299
      go_wp2_with (first | (go_at_call 293; refine (top_64 _).mono ?_; rintro en w2 ⟨rfl, rfl⟩) | (go_at_call 310; refine (hM _ (by assumption) _).mono ?_; rintro en w2 ⟨rfl, rfl⟩))
      refine bodyPost_ret (v := .tuple #[.int .u64 (q : Int), .int .i64 0]) (by simp [results, Tryz.results299, go_sem]) rfl ?_
      exact ⟨rfl, rfl⟩
  · have c1i : (9223372036854775808 : Int) ≤ (a : Int) := by omega
    have c2i : ¬ (9223372036854775808 : Int) ≤ (b : Int) := by omega
    have c1d : decide ((9223372036854775808 : Int) ≤ (a : Int)) = true := decide_eq_true c1i
    have c2d : decide ((9223372036854775808 : Int) ≤ (b : Int)) = false := decide_eq_false c2i
    rw [show decide (9223372036854775808 ≤ a) = true from decide_eq_true c1, show decide (9223372036854775808 ≤ b) = false from decide_eq_false c2]
    rw [if_neg (by decide)]
    dsimp only
    go_enter Tryz.func299, Tryz.ntmps299
    go_wp2_with (first | (go_at_call 293; refine (top_64 _).mono ?_; rintro en w2 ⟨rfl, rfl⟩) | (go_at_call 310; refine (hM _ (by assumption) _).mono ?_; rintro en w2 ⟨rfl, rfl⟩) | (go_at_call 298; refine (hmi _).mono ?_; rintro en w2 ⟨rfl, rfl⟩))
    refine bodyPost_ret (v := .tuple #[.int .u64 (X : Int), .int .i64 0]) (by simp [results, Tryz.results299, go_sem]) rfl ?_
    exact ⟨rfl, rfl⟩
  · have c1i : ¬ (9223372036854775808 : Int) ≤ (a : Int) := by omega
    have c2i : (9223372036854775808 : Int) ≤ (b : Int) := by omega
    have c1d : decide ((9223372036854775808 : Int) ≤ (a : Int)) = false := decide_eq_false c1i
    have c2d : decide ((9223372036854775808 : Int) ≤ (b : Int)) = true := decide_eq_true c2i
    rw [show decide (9223372036854775808 ≤ a) = false from decide_eq_false c1, show decide (9223372036854775808 ≤ b) = true from decide_eq_true c2]
    rw [if_neg (by decide)]
    dsimp only
    go_enter Tryz.func299, Tryz.ntmps299
    go_wp2_with (first | (go_at_call 293; refine (top_64 _).mono ?_; rintro en w2 ⟨rfl, rfl⟩) | (go_at_call 310; refine (hM _ (by assumption) _).mono ?_; rintro en w2 ⟨rfl, rfl⟩) | (go_at_call 298; refine (hmi _).mono ?_; rintro en w2 ⟨rfl, rfl⟩))
    refine bodyPost_ret (v := .tuple #[.int .u64 (X : Int), .int .i64 0]) (by simp [results, Tryz.results299, go_sem]) rfl ?_
    exact ⟨rfl, rfl⟩
  · have c1i : ¬ (9223372036854775808 : Int) ≤ (a : Int) := by omega
    have c2i : ¬ (9223372036854775808 : Int) ≤ (b : Int) := by omega
    have c1d : decide ((9223372036854775808 : Int) ≤ (a : Int)) = false := decide_eq_false c1i
    have c2d : decide ((9223372036854775808 : Int) ≤ (b : Int)) = false := decide_eq_false c2i
    rw [show decide (9223372036854775808 ≤ a) = false from decide_eq_false c1, show decide (9223372036854775808 ≤ b) = false from decide_eq_false c2]
    rw [if_pos (by decide)]
    by_cases c3 : 9223372036854775808 ≤ q
    · rw [if_pos c3]
      have c3i : (9223372036854775808 : Int) ≤ (q : Int) := by omega
      dsimp only
      go_enter Tryz.func299, Tryz.ntmps299
      go_wp2_with (first | (go_at_call 293; refine (top_64 _).mono ?_; rintro en w2 ⟨rfl, rfl⟩) | (go_at_call 310; refine (hM _ (by assumption) _).mono ?_; rintro en w2 ⟨rfl, rfl⟩))
      refine bodyPost_ret (v := .tuple #[.int .u64 0, .int .i64 40]) (by simp [results, Tryz.results299, go_sem]) rfl ?_
      exact ⟨rfl, rfl⟩
    · rw [if_neg c3]
      have c3i : ¬ (9223372036854775808 : Int) ≤ (q : Int) := by omega
      have c3d : decide ((9223372036854775808 : Int) ≤ (q : Int)) = false := decide_eq_false c3i
      dsimp only
      go_enter Tryz.func299, Tryz.ntmps299
      go_wp2_with (first | (go_at_call 293; refine (top_64 _).mono ?_; rintro en w2 ⟨rfl, rfl⟩) | (go_at_call 310; refine (hM _ (by assumption) _).mono ?_; rintro en w2 ⟨rfl, rfl⟩))
      refine bodyPost_ret (v := .tuple #[.int .u64 (q : Int), .int .i64 0]) (by simp [results, Tryz.results299, go_sem]) rfl ?_
      exact ⟨rfl, rfl⟩
set_option maxHeartbeats 4000000 in
theorem divS_64_false (a b : Nat) (ha : a < 18446744073709551616) (hb : b < 18446744073709551616) (w : World) : Calls Tryz.prog 299 #[.bool false, .int .i64 64, .int .u64 a, .int .u64 b] w (Pq w (fitV (divM false 64 a b))) := by
  have hM : ∀ v : Nat, v < 18446744073709551616 → ∀ w, Calls Tryz.prog 310 #[.int .i64 64, .int .u64 v] w (Pq w (.int .u64 ((magN 64 v : Nat) : Int))) := fun v hv w => by
    unfold magN
    exact mag_64 v hv w
  have hMl : ∀ v : Nat, v < 18446744073709551616 → magN 64 v ≤ 9223372036854775808 := fun v hv => by unfold magN; rw [show (2 : Nat) ^ (64 - 1) = 9223372036854775808 by decide, show (2 : Nat) ^ 64 = 18446744073709551616 by decide]; split <;> omega
  have hM0 : b ≠ 0 → magN 64 b ≠ 0 := fun h => by unfold magN; rw [show (2 : Nat) ^ (64 - 1) = 9223372036854775808 by decide, show (2 : Nat) ^ 64 = 18446744073709551616 by decide]; split <;> omega
  have hma := hMl a ha
  have hmb := hMl b hb
  have HI : Hid (∀ v : Nat, v < 18446744073709551616 → ∀ w, Calls Tryz.prog 298 #[.int .i64 64, .int .u64 v] w (Pq w (.int .u64 (((18446744073709551616 - v) % 18446744073709551616 : Nat) : Int)))) := fun v hv w => minus_64 v hv w
  unfold divM fitV
  rw [show (2 : Nat) ^ (64 - 1) = 9223372036854775808 by decide, show (2 : Nat) ^ 64 = 18446744073709551616 by decide]
  generalize magN 64 = MG at *
  clear hMl
  by_cases h0 : b = 0
  · rw [if_pos h0]
    subst h0
    dsimp only
    clear hM hM0 HI hma hmb
    go_enter Tryz.func299, Tryz.ntmps299
    go_wp2_with (first | (go_at_call 293; refine (top_64 _).mono ?_; rintro en w2 ⟨rfl, rfl⟩) | fail)
    refine bodyPost_ret (v := .tuple #[.int .u64 0, .int .i64 39]) (by simp [results, Tryz.results299, go_sem]) rfl ?_
    exact ⟨rfl, rfl⟩
  rw [if_neg h0]
  have h0b : ((b : Int) == 0) = false := by rw [beq_eq_false_iff_ne]; omega
  have hbz := hM0 h0
  have hbzi : (((MG b : Nat) : Int) == 0) = false := by rw [beq_eq_false_iff_ne]; omega
  clear hM0
  rw [if_neg (by decide)]
  obtain ⟨r, hr⟩ : ∃ r : Nat, MG a % MG b = r := ⟨_, rfl⟩
  have hri : ((MG a : Nat) : Int).tmod ((MG b : Nat) : Int) = (r : Int) := by rw [Int.tmod_eq_emod_of_nonneg (by omega), ← hr]; simp
  have hrd : ((MG a : Nat) : Int) % ((MG b : Nat) : Int) = (r : Int) := by rw [← hr]; simp
  have hrl : r ≤ 9223372036854775808 := by rw [← hr]; exact Nat.le_trans (Nat.mod_le _ _) hma
  rw [hr]
  have hmi := fun w => HI.out r (by omega) w
  generalize (18446744073709551616 - r) % 18446744073709551616 = X at hmi ⊢
  clear hr
  by_cases c1 : 9223372036854775808 ≤ a
  · rw [if_pos c1]
    have c1i : (9223372036854775808 : Int) ≤ (a : Int) := by omega
    dsimp only
    go_enter Tryz.func299, Tryz.ntmps299
    go_wp2_with (first | (go_at_call 293; refine (top_64 _).mono ?_; rintro en w2 ⟨rfl, rfl⟩) | (go_at_call 310; refine (hM _ (by assumption) _).mono ?_; rintro en w2 ⟨rfl, rfl⟩) | (go_at_call 298; refine (hmi _).mono ?_; rintro en w2 ⟨rfl, rfl⟩))
    refine bodyPost_ret (v := .tuple #[.int .u64 (X : Int), .int .i64 0]) (by simp [results, Tryz.results299, go_sem]) rfl ?_
    exact ⟨rfl, rfl⟩
  · rw [if_neg c1]
    have c1i : ¬ (9223372036854775808 : Int) ≤ (a : Int) := by omega
    have c1d : decide ((9223372036854775808 : Int) ≤ (a : Int)) = false := decide_eq_false c1i
    dsimp only
    go_enter Tryz.func299, Tryz.ntmps299
    go_wp2_with (first | (go_at_call 293; refine (top_64 _).mono ?_; rintro en w2 ⟨rfl, rfl⟩) | (go_at_call 310; refine (hM _ (by assumption) _).mono ?_; rintro en w2 ⟨rfl, rfl⟩))
    refine bodyPost_ret (v := .tuple #[.int .u64 (r : Int), .int .i64 0]) (by simp [results, Tryz.results299, go_sem]) rfl ?_
    exact ⟨rfl, rfl⟩
end Go.Proofs.Qxb6500275aGreatDoor
