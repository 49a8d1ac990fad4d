import Derived.Test.Qxb6500275aGreatDoorNq4
set_option maxRecDepth 100000
set_option linter.unusedVariables false
set_option linter.unusedSimpArgs false
namespace Go.Proofs.Qxb6500275aGreatDoor
open Go Go.RowKit
/- the five ways of a rounding -/
def upB (q r h : Nat) (st : Bool) : Nat := if h < r ∨ (r = h ∧ (st = true ∨ q % 2 = 1)) then q + 1 else q
theorem five_way (q r h : Nat) (st : Bool) : h < r ∨ (r = h ∧ (st = true ∨ st = false ∧ q % 2 = 1 ∨ st = false ∧ q % 2 = 0)) ∨ r < h := by
  rcases Nat.lt_trichotomy h r with e | e | e
  · exact .inl e
  · refine .inr (.inl ⟨e.symm, ?_⟩)
    cases st
    · rcases Nat.mod_two_eq_zero_or_one q with e | e
      · exact .inr (.inr ⟨rfl, e⟩)
      · exact .inr (.inl ⟨rfl, e⟩)
    · exact .inl rfl
  · exact .inr (.inr e)
theorem upB_le (q r h : Nat) (st : Bool) : upB q r h st ≤ q + 1 := by unfold upB; split <;> omega
set_option maxHeartbeats 8000000 in
theorem roundA_32 (neg st : Bool) (m : Nat) (e : Int) (M c q r h : Nat) (hc : 41 ≤ c ∧ c ≤ 63) (hM : 9223372036854775808 ≤ M ∧ M < 18446744073709551616) (hlift : ∀ w, Calls Tryz.prog 312 #[.int .u64 m, .int .i64 e, .int .i64 63] w (Pq w (.tuple #[.int .u64 M, .int .i64 (-149 - (c : Int))]))) (hm : m < 18446744073709551616)
    (hq : (M : Int) / 2 ^ c = (q : Int)) (hqr : M = q * 2 ^ c + r) (hh : (2 : Int) ^ (c - 1) = (h : Int)) (hq24 : q < 8388608) (hr : r < 18446744073709551616) (hhb : h ≤ 9223372036854775808) (w : World) : Calls Tryz.prog 313 #[.int .i64 32, .bool neg, .int .u64 m, .int .i64 e, .bool st] w (Pq w (.int .u64 ((if neg = true then 2147483648 + upB q r h st else upB q r h st : Nat) : Int))) := by
  have s2 : 24 - (-126 - (-149 - (c : Int) + 63)) = 64 - (c : Int) := by omega
  have s3 : 64 - (64 - (c : Int)) = (c : Int) := by omega
  have s4 : (c : Int).toNat = c := by omega
  have s5 : (-149 - (c : Int) + 63) < -126 := by omega
  have hsub : IntKind.u64.wrap ((q : Int) * 2 ^ c) = (M : Int) - r := by
    rw [wrap_u64]
    have : ((q * 2 ^ c : Nat) : Int) = (M : Int) - r := by omega
    simp at this
    rw [this]
    omega
  have hmr : (M : Int) - ((M : Int) - r) = r := by omega
  have hwh : IntKind.u64.wrap (h : Int) = h := by rw [wrap_u64]; omega
  have hwh2 : IntKind.u64.wrap (2 ^ (c - 1)) = h := by rw [hh]; exact hwh
  clear hqr hh
  rcases five_way q r h st with hd | ⟨hd, hs | ⟨hs, hs2⟩ | ⟨hs, hs2⟩⟩ | hd
  · have hu : upB q r h st = q + 1 := by unfold upB; rw [if_pos (.inl hd)]
    rw [hu]
    have d1 : (h : Int) < (r : Int) := by omega
    have HX : Hid (∀ w, Pq w (.int .u64 0) (.returned (.int .u64 0)) w) := fun w => ⟨rfl, rfl⟩
    go_enter Tryz.func313, Tryz.ntmps313
    cases neg
    · simp only [Bool.false_eq_true, if_false]
      go_wp2_with (first | (go_at_call 314; refine (prec_32 _).mono ?_; rintro en w2 ⟨rfl, rfl⟩) | (go_at_call 315; refine (bias_32 _).mono ?_; rintro en w2 ⟨rfl, rfl⟩) | (go_at_call 312; refine (hlift _).mono ?_; rintro en w2 ⟨rfl, rfl⟩) | (go_at_call 316; refine (sign_32_false _).mono ?_; rintro en w2 ⟨rfl, rfl⟩) | (go_at_call 317; refine (infinity_32_false _).mono ?_; rintro en w2 ⟨rfl, rfl⟩))
      refine bodyPost_ret (v := .int .u64 (((q + 1) : Nat) : Int)) (by simp [results, Tryz.results313, go_sem]) rfl ?_
      exact ⟨rfl, rfl⟩
    · simp only [if_true]
      go_wp2_with (first | (go_at_call 314; refine (prec_32 _).mono ?_; rintro en w2 ⟨rfl, rfl⟩) | (go_at_call 315; refine (bias_32 _).mono ?_; rintro en w2 ⟨rfl, rfl⟩) | (go_at_call 312; refine (hlift _).mono ?_; rintro en w2 ⟨rfl, rfl⟩) | (go_at_call 316; refine (sign_32_true _).mono ?_; rintro en w2 ⟨rfl, rfl⟩) | (go_at_call 317; refine (infinity_32_true _).mono ?_; rintro en w2 ⟨rfl, rfl⟩))
      refine bodyPost_ret (v := .int .u64 ((2147483648 + (q + 1) : Nat) : Int)) (by simp [results, Tryz.results313, go_sem]) rfl ?_
      exact ⟨rfl, rfl⟩
  · have hu : upB q r h st = q + 1 := by unfold upB; rw [if_pos (.inr ⟨hd, .inl hs⟩)]
    rw [hu]
    subst hd hs
    have HX : Hid (∀ w, Pq w (.int .u64 0) (.returned (.int .u64 0)) w) := fun w => ⟨rfl, rfl⟩
    go_enter Tryz.func313, Tryz.ntmps313
    cases neg
    · simp only [Bool.false_eq_true, if_false]
      go_wp2_with (first | (go_at_call 314; refine (prec_32 _).mono ?_; rintro en w2 ⟨rfl, rfl⟩) | (go_at_call 315; refine (bias_32 _).mono ?_; rintro en w2 ⟨rfl, rfl⟩) | (go_at_call 312; refine (hlift _).mono ?_; rintro en w2 ⟨rfl, rfl⟩) | (go_at_call 316; refine (sign_32_false _).mono ?_; rintro en w2 ⟨rfl, rfl⟩) | (go_at_call 317; refine (infinity_32_false _).mono ?_; rintro en w2 ⟨rfl, rfl⟩))
      refine bodyPost_ret (v := .int .u64 (((q + 1) : Nat) : Int)) (by simp [results, Tryz.results313, go_sem]) rfl ?_
      exact ⟨rfl, rfl⟩
    · simp only [if_true]
      go_wp2_with (first | (go_at_call 314; refine (prec_32 _).mono ?_; rintro en w2 ⟨rfl, rfl⟩) | (go_at_call 315; refine (bias_32 _).mono ?_; rintro en w2 ⟨rfl, rfl⟩) | (go_at_call 312; refine (hlift _).mono ?_; rintro en w2 ⟨rfl, rfl⟩) | (go_at_call 316; refine (sign_32_true _).mono ?_; rintro en w2 ⟨rfl, rfl⟩) | (go_at_call 317; refine (infinity_32_true _).mono ?_; rintro en w2 ⟨rfl, rfl⟩))
      refine bodyPost_ret (v := .int .u64 ((2147483648 + (q + 1) : Nat) : Int)) (by simp [results, Tryz.results313, go_sem]) rfl ?_
      exact ⟨rfl, rfl⟩
  · have hu : upB q r h st = q + 1 := by unfold upB; rw [if_pos (.inr ⟨hd, .inr hs2⟩)]
    rw [hu]
    subst hd hs
    have d3 : ((q : Int) % 2 == 1) = true := by rw [beq_iff_eq]; omega
    have HX : Hid (∀ w, Pq w (.int .u64 0) (.returned (.int .u64 0)) w) := fun w => ⟨rfl, rfl⟩
    go_enter Tryz.func313, Tryz.ntmps313
    cases neg
    · simp only [Bool.false_eq_true, if_false]
      go_wp2_with (first | (go_at_call 314; refine (prec_32 _).mono ?_; rintro en w2 ⟨rfl, rfl⟩) | (go_at_call 315; refine (bias_32 _).mono ?_; rintro en w2 ⟨rfl, rfl⟩) | (go_at_call 312; refine (hlift _).mono ?_; rintro en w2 ⟨rfl, rfl⟩) | (go_at_call 316; refine (sign_32_false _).mono ?_; rintro en w2 ⟨rfl, rfl⟩) | (go_at_call 317; refine (infinity_32_false _).mono ?_; rintro en w2 ⟨rfl, rfl⟩))
      refine bodyPost_ret (v := .int .u64 (((q + 1) : Nat) : Int)) (by simp [results, Tryz.results313, go_sem]) rfl ?_
      exact ⟨rfl, rfl⟩
    · simp only [if_true]
      go_wp2_with (first | (go_at_call 314; refine (prec_32 _).mono ?_; rintro en w2 ⟨rfl, rfl⟩) | (go_at_call 315; refine (bias_32 _).mono ?_; rintro en w2 ⟨rfl, rfl⟩) | (go_at_call 312; refine (hlift _).mono ?_; rintro en w2 ⟨rfl, rfl⟩) | (go_at_call 316; refine (sign_32_true _).mono ?_; rintro en w2 ⟨rfl, rfl⟩) | (go_at_call 317; refine (infinity_32_true _).mono ?_; rintro en w2 ⟨rfl, rfl⟩))
      refine bodyPost_ret (v := .int .u64 ((2147483648 + (q + 1) : Nat) : Int)) (by simp [results, Tryz.results313, go_sem]) rfl ?_
      exact ⟨rfl, rfl⟩
  · have hu : upB q r h st = q := by unfold upB; rw [if_neg (by rw [hs]; simp; omega)]
    rw [hu]
    subst hd hs
    have d3 : ((q : Int) % 2 == 1) = false := by rw [beq_eq_false_iff_ne]; omega
    have HX : Hid (∀ w, Pq w (.int .u64 0) (.returned (.int .u64 0)) w) := fun w => ⟨rfl, rfl⟩
    go_enter Tryz.func313, Tryz.ntmps313
    cases neg
    · simp only [Bool.false_eq_true, if_false]
      go_wp2_with (first | (go_at_call 314; refine (prec_32 _).mono ?_; rintro en w2 ⟨rfl, rfl⟩) | (go_at_call 315; refine (bias_32 _).mono ?_; rintro en w2 ⟨rfl, rfl⟩) | (go_at_call 312; refine (hlift _).mono ?_; rintro en w2 ⟨rfl, rfl⟩) | (go_at_call 316; refine (sign_32_false _).mono ?_; rintro en w2 ⟨rfl, rfl⟩) | (go_at_call 317; refine (infinity_32_false _).mono ?_; rintro en w2 ⟨rfl, rfl⟩))
      refine bodyPost_ret (v := .int .u64 ((q : Nat) : Int)) (by simp [results, Tryz.results313, go_sem]) rfl ?_
      exact ⟨rfl, rfl⟩
    · simp only [if_true]
      go_wp2_with (first | (go_at_call 314; refine (prec_32 _).mono ?_; rintro en w2 ⟨rfl, rfl⟩) | (go_at_call 315; refine (bias_32 _).mono ?_; rintro en w2 ⟨rfl, rfl⟩) | (go_at_call 312; refine (hlift _).mono ?_; rintro en w2 ⟨rfl, rfl⟩) | (go_at_call 316; refine (sign_32_true _).mono ?_; rintro en w2 ⟨rfl, rfl⟩) | (go_at_call 317; refine (infinity_32_true _).mono ?_; rintro en w2 ⟨rfl, rfl⟩))
      refine bodyPost_ret (v := .int .u64 ((2147483648 + q : Nat) : Int)) (by simp [results, Tryz.results313, go_sem]) rfl ?_
      exact ⟨rfl, rfl⟩
  · have hu : upB q r h st = q := by unfold upB; rw [if_neg (by omega)]
    rw [hu]
    have d1 : ¬ (h : Int) < (r : Int) := by omega
    have d1b : decide ((h : Int) < (r : Int)) = false := decide_eq_false d1
    have d2 : ((r : Int) == (h : Int)) = false := by rw [beq_eq_false_iff_ne]; omega
    have HX : Hid (∀ w, Pq w (.int .u64 0) (.returned (.int .u64 0)) w) := fun w => ⟨rfl, rfl⟩
    go_enter Tryz.func313, Tryz.ntmps313
    cases neg
    · simp only [Bool.false_eq_true, if_false]
      go_wp2_with (first | (go_at_call 314; refine (prec_32 _).mono ?_; rintro en w2 ⟨rfl, rfl⟩) | (go_at_call 315; refine (bias_32 _).mono ?_; rintro en w2 ⟨rfl, rfl⟩) | (go_at_call 312; refine (hlift _).mono ?_; rintro en w2 ⟨rfl, rfl⟩) | (go_at_call 316; refine (sign_32_false _).mono ?_; rintro en w2 ⟨rfl, rfl⟩) | (go_at_call 317; refine (infinity_32_false _).mono ?_; rintro en w2 ⟨rfl, rfl⟩))
      refine bodyPost_ret (v := .int .u64 ((q : Nat) : Int)) (by simp [results, Tryz.results313, go_sem]) rfl ?_
      exact ⟨rfl, rfl⟩
    · simp only [if_true]
      go_wp2_with (first | (go_at_call 314; refine (prec_32 _).mono ?_; rintro en w2 ⟨rfl, rfl⟩) | (go_at_call 315; refine (bias_32 _).mono ?_; rintro en w2 ⟨rfl, rfl⟩) | (go_at_call 312; refine (hlift _).mono ?_; rintro en w2 ⟨rfl, rfl⟩) | (go_at_call 316; refine (sign_32_true _).mono ?_; rintro en w2 ⟨rfl, rfl⟩) | (go_at_call 317; refine (infinity_32_true _).mono ?_; rintro en w2 ⟨rfl, rfl⟩))
      refine bodyPost_ret (v := .int .u64 ((2147483648 + q : Nat) : Int)) (by simp [results, Tryz.results313, go_sem]) rfl ?_
      exact ⟨rfl, rfl⟩
set_option maxHeartbeats 8000000 in
theorem roundA_64 (neg st : Bool) (m : Nat) (e : Int) (M c q r h : Nat) (hc : 12 ≤ c ∧ c ≤ 63) (hM : 9223372036854775808 ≤ M ∧ M < 18446744073709551616) (hlift : ∀ w, Calls Tryz.prog 312 #[.int .u64 m, .int .i64 e, .int .i64 63] w (Pq w (.tuple #[.int .u64 M, .int .i64 (-1074 - (c : Int))]))) (hm : m < 18446744073709551616)
    (hq : (M : Int) / 2 ^ c = (q : Int)) (hqr : M = q * 2 ^ c + r) (hh : (2 : Int) ^ (c - 1) = (h : Int)) (hq24 : q < 4503599627370496) (hr : r < 18446744073709551616) (hhb : h ≤ 9223372036854775808) (w : World) : Calls Tryz.prog 313 #[.int .i64 64, .bool neg, .int .u64 m, .int .i64 e, .bool st] w (Pq w (.int .u64 ((if neg = true then 9223372036854775808 + upB q r h st else upB q r h st : Nat) : Int))) := by
  have s2 : 53 - (-1022 - (-1074 - (c : Int) + 63)) = 64 - (c : Int) := by omega
  have s3 : 64 - (64 - (c : Int)) = (c : Int) := by omega
  have s4 : (c : Int).toNat = c := by omega
  have s5 : (-1074 - (c : Int) + 63) < -1022 := by omega
  have hsub : IntKind.u64.wrap ((q : Int) * 2 ^ c) = (M : Int) - r := by
    rw [wrap_u64]
    have : ((q * 2 ^ c : Nat) : Int) = (M : Int) - r := by omega
    simp at this
    rw [this]
    omega
  have hmr : (M : Int) - ((M : Int) - r) = r := by omega
  have hwh : IntKind.u64.wrap (h : Int) = h := by rw [wrap_u64]; omega
  have hwh2 : IntKind.u64.wrap (2 ^ (c - 1)) = h := by rw [hh]; exact hwh
  clear hqr hh
  rcases five_way q r h st with hd | ⟨hd, hs | ⟨hs, hs2⟩ | ⟨hs, hs2⟩⟩ | hd
  · have hu : upB q r h st = q + 1 := by unfold upB; rw [if_pos (.inl hd)]
    rw [hu]
    have d1 : (h : Int) < (r : Int) := by omega
    have HX : Hid (∀ w, Pq w (.int .u64 0) (.returned (.int .u64 0)) w) := fun w => ⟨rfl, rfl⟩
    go_enter Tryz.func313, Tryz.ntmps313
    cases neg
    · simp only [Bool.false_eq_true, if_false]
      go_wp2_with (first | (go_at_call 314; refine (prec_64 _).mono ?_; rintro en w2 ⟨rfl, rfl⟩) | (go_at_call 315; refine (bias_64 _).mono ?_; rintro en w2 ⟨rfl, rfl⟩) | (go_at_call 312; refine (hlift _).mono ?_; rintro en w2 ⟨rfl, rfl⟩) | (go_at_call 316; refine (sign_64_false _).mono ?_; rintro en w2 ⟨rfl, rfl⟩) | (go_at_call 317; refine (infinity_64_false _).mono ?_; rintro en w2 ⟨rfl, rfl⟩))
      refine bodyPost_ret (v := .int .u64 (((q + 1) : Nat) : Int)) (by simp [results, Tryz.results313, go_sem]) rfl ?_
      exact ⟨rfl, rfl⟩
    · simp only [if_true]
      go_wp2_with (first | (go_at_call 314; refine (prec_64 _).mono ?_; rintro en w2 ⟨rfl, rfl⟩) | (go_at_call 315; refine (bias_64 _).mono ?_; rintro en w2 ⟨rfl, rfl⟩) | (go_at_call 312; refine (hlift _).mono ?_; rintro en w2 ⟨rfl, rfl⟩) | (go_at_call 316; refine (sign_64_true _).mono ?_; rintro en w2 ⟨rfl, rfl⟩) | (go_at_call 317; refine (infinity_64_true _).mono ?_; rintro en w2 ⟨rfl, rfl⟩))
      refine bodyPost_ret (v := .int .u64 ((9223372036854775808 + (q + 1) : Nat) : Int)) (by simp [results, Tryz.results313, go_sem]) rfl ?_
      exact ⟨rfl, rfl⟩
  · have hu : upB q r h st = q + 1 := by unfold upB; rw [if_pos (.inr ⟨hd, .inl hs⟩)]
    rw [hu]
    subst hd hs
    have HX : Hid (∀ w, Pq w (.int .u64 0) (.returned (.int .u64 0)) w) := fun w => ⟨rfl, rfl⟩
    go_enter Tryz.func313, Tryz.ntmps313
    cases neg
    · simp only [Bool.false_eq_true, if_false]
      go_wp2_with (first | (go_at_call 314; refine (prec_64 _).mono ?_; rintro en w2 ⟨rfl, rfl⟩) | (go_at_call 315; refine (bias_64 _).mono ?_; rintro en w2 ⟨rfl, rfl⟩) | (go_at_call 312; refine (hlift _).mono ?_; rintro en w2 ⟨rfl, rfl⟩) | (go_at_call 316; refine (sign_64_false _).mono ?_; rintro en w2 ⟨rfl, rfl⟩) | (go_at_call 317; refine (infinity_64_false _).mono ?_; rintro en w2 ⟨rfl, rfl⟩))
      refine bodyPost_ret (v := .int .u64 (((q + 1) : Nat) : Int)) (by simp [results, Tryz.results313, go_sem]) rfl ?_
      exact ⟨rfl, rfl⟩
    · simp only [if_true]
      go_wp2_with (first | (go_at_call 314; refine (prec_64 _).mono ?_; rintro en w2 ⟨rfl, rfl⟩) | (go_at_call 315; refine (bias_64 _).mono ?_; rintro en w2 ⟨rfl, rfl⟩) | (go_at_call 312; refine (hlift _).mono ?_; rintro en w2 ⟨rfl, rfl⟩) | (go_at_call 316; refine (sign_64_true _).mono ?_; rintro en w2 ⟨rfl, rfl⟩) | (go_at_call 317; refine (infinity_64_true _).mono ?_; rintro en w2 ⟨rfl, rfl⟩))
      refine bodyPost_ret (v := .int .u64 ((9223372036854775808 + (q + 1) : Nat) : Int)) (by simp [results, Tryz.results313, go_sem]) rfl ?_
      exact ⟨rfl, rfl⟩
  · have hu : upB q r h st = q + 1 := by unfold upB; rw [if_pos (.inr ⟨hd, .inr hs2⟩)]
    rw [hu]
    subst hd hs
    have d3 : ((q : Int) % 2 == 1) = true := by rw [beq_iff_eq]; omega
    have HX : Hid (∀ w, Pq w (.int .u64 0) (.returned (.int .u64 0)) w) := fun w => ⟨rfl, rfl⟩
    go_enter Tryz.func313, Tryz.ntmps313
    cases neg
    · simp only [Bool.false_eq_true, if_false]
      go_wp2_with (first | (go_at_call 314; refine (prec_64 _).mono ?_; rintro en w2 ⟨rfl, rfl⟩) | (go_at_call 315; refine (bias_64 _).mono ?_; rintro en w2 ⟨rfl, rfl⟩) | (go_at_call 312; refine (hlift _).mono ?_; rintro en w2 ⟨rfl, rfl⟩) | (go_at_call 316; refine (sign_64_false _).mono ?_; rintro en w2 ⟨rfl, rfl⟩) | (go_at_call 317; refine (infinity_64_false _).mono ?_; rintro en w2 ⟨rfl, rfl⟩))
      refine bodyPost_ret (v := .int .u64 (((q + 1) : Nat) : Int)) (by simp [results, Tryz.results313, go_sem]) rfl ?_
      exact ⟨rfl, rfl⟩
    · simp only [if_true]
      go_wp2_with (first | (go_at_call 314; refine (prec_64 _).mono ?_; rintro en w2 ⟨rfl, rfl⟩) | (go_at_call 315; refine (bias_64 _).mono ?_; rintro en w2 ⟨rfl, rfl⟩) | (go_at_call 312; refine (hlift _).mono ?_; rintro en w2 ⟨rfl, rfl⟩) | (go_at_call 316; refine (sign_64_true _).mono ?_; rintro en w2 ⟨rfl, rfl⟩) | (go_at_call 317; refine (infinity_64_true _).mono ?_; rintro en w2 ⟨rfl, rfl⟩))
      refine bodyPost_ret (v := .int .u64 ((9223372036854775808 + (q + 1) : Nat) : Int)) (by simp [results, Tryz.results313, go_sem]) rfl ?_
      exact ⟨rfl, rfl⟩
  · have hu : upB q r h st = q := by unfold upB; rw [if_neg (by rw [hs]; simp; omega)]
    rw [hu]
    subst hd hs
    have d3 : ((q : Int) % 2 == 1) = false := by rw [beq_eq_false_iff_ne]; omega
    have HX : Hid (∀ w, Pq w (.int .u64 0) (.returned (.int .u64 0)) w) := fun w => ⟨rfl, rfl⟩
    go_enter Tryz.func313, Tryz.ntmps313
    cases neg
    · simp only [Bool.false_eq_true, if_false]
      go_wp2_with (first | (go_at_call 314; refine (prec_64 _).mono ?_; rintro en w2 ⟨rfl, rfl⟩) | (go_at_call 315; refine (bias_64 _).mono ?_; rintro en w2 ⟨rfl, rfl⟩) | (go_at_call 312; refine (hlift _).mono ?_; rintro en w2 ⟨rfl, rfl⟩) | (go_at_call 316; refine (sign_64_false _).mono ?_; rintro en w2 ⟨rfl, rfl⟩) | (go_at_call 317; refine (infinity_64_false _).mono ?_; rintro en w2 ⟨rfl, rfl⟩))
      refine bodyPost_ret (v := .int .u64 ((q : Nat) : Int)) (by simp [results, Tryz.results313, go_sem]) rfl ?_
      exact ⟨rfl, rfl⟩
    · simp only [if_true]
      go_wp2_with (first | (go_at_call 314; refine (prec_64 _).mono ?_; rintro en w2 ⟨rfl, rfl⟩) | (go_at_call 315; refine (bias_64 _).mono ?_; rintro en w2 ⟨rfl, rfl⟩) | (go_at_call 312; refine (hlift _).mono ?_; rintro en w2 ⟨rfl, rfl⟩) | (go_at_call 316; refine (sign_64_true _).mono ?_; rintro en w2 ⟨rfl, rfl⟩) | (go_at_call 317; refine (infinity_64_true _).mono ?_; rintro en w2 ⟨rfl, rfl⟩))
      refine bodyPost_ret (v := .int .u64 ((9223372036854775808 + q : Nat) : Int)) (by simp [results, Tryz.results313, go_sem]) rfl ?_
      exact ⟨rfl, rfl⟩
  · have hu : upB q r h st = q := by unfold upB; rw [if_neg (by omega)]
    rw [hu]
    have d1 : ¬ (h : Int) < (r : Int) := by omega
    have d1b : decide ((h : Int) < (r : Int)) = false := decide_eq_false d1
    have d2 : ((r : Int) == (h : Int)) = false := by rw [beq_eq_false_iff_ne]; omega
    have HX : Hid (∀ w, Pq w (.int .u64 0) (.returned (.int .u64 0)) w) := fun w => ⟨rfl, rfl⟩
    go_enter Tryz.func313, Tryz.ntmps313
    cases neg
    · simp only [Bool.false_eq_true, if_false]
      go_wp2_with (first | (go_at_call 314; refine (prec_64 _).mono ?_; rintro en w2 ⟨rfl, rfl⟩) | (go_at_call 315; refine (bias_64 _).mono ?_; rintro en w2 ⟨rfl, rfl⟩) | (go_at_call 312; refine (hlift _).mono ?_; rintro en w2 ⟨rfl, rfl⟩) | (go_at_call 316; refine (sign_64_false _).mono ?_; rintro en w2 ⟨rfl, rfl⟩) | (go_at_call 317; refine (infinity_64_false _).mono ?_; rintro en w2 ⟨rfl, rfl⟩))
      refine bodyPost_ret (v := .int .u64 ((q : Nat) : Int)) (by simp [results, Tryz.results313, go_sem]) rfl ?_
      exact ⟨rfl, rfl⟩
    · simp only [if_true]
      go_wp2_with (first | (go_at_call 314; refine (prec_64 _).mono ?_; rintro en w2 ⟨rfl, rfl⟩) | (go_at_call 315; refine (bias_64 _).mono ?_; rintro en w2 ⟨rfl, rfl⟩) | (go_at_call 312; refine (hlift _).mono ?_; rintro en w2 ⟨rfl, rfl⟩) | (go_at_call 316; refine (sign_64_true _).mono ?_; rintro en w2 ⟨rfl, rfl⟩) | (go_at_call 317; refine (infinity_64_true _).mono ?_; rintro en w2 ⟨rfl, rfl⟩))
      refine bodyPost_ret (v := .int .u64 ((9223372036854775808 + q : Nat) : Int)) (by simp [results, Tryz.results313, go_sem]) rfl ?_
      exact ⟨rfl, rfl⟩
end Go.Proofs.Qxb6500275aGreatDoor
