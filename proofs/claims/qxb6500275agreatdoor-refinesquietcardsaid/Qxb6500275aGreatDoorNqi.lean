import Derived.Test.Qxb6500275aGreatDoorNqh
set_option maxRecDepth 100000
set_option linter.unusedVariables false
set_option linter.unusedSimpArgs false
namespace Go.Proofs.Qxb6500275aGreatDoor
open Go Go.RowKit
set_option maxHeartbeats 4000000 in
theorem add_lt {F : Ieee.Format} {bi : Nat} {f : Int} (a b : Nat) (ha2 : a < 18446744073709551616) (hb2 : b < 18446744073709551616) (s t : Bool) (m n : Nat) (i j : Int) (hm64 : m < 18446744073709551616) (hn64 : n < 18446744073709551616) (he1 : -3000 ≤ i) (he2 : i ≤ 3000) (hf1 : -3000 ≤ j) (hf2 : j ≤ 3000)
  (HR : Hid (∀ (neg st : Bool) (m : Nat) (e : Int), m ≠ 0 → m < 18446744073709551616 → -30000 ≤ e ∧ e ≤ 30000 → ∀ w, Calls Tryz.prog 313 #[.int .i64 f, .bool neg, .int .u64 m, .int .i64 e, .bool st] w (Pq w (.int .u64 ((softRound F bi neg m e st : Nat) : Int)))))
  (U : Nat → Value) (hU : ∀ v : Nat, v = a ∨ v = b → ∀ w, Calls Tryz.prog 311 #[.int .i64 f, .int .u64 v] w (Pq w (U v)))
  (hUa : U a = .tuple #[.bool s, .int .i64 1, .int .u64 m, .int .i64 i])
  (hUb : U b = .tuple #[.bool t, .int .i64 1, .int .u64 n, .int .i64 j])
  (L : Nat → Int → Value) (hL : ∀ (x : Nat) (y : Int), (x = m ∧ y = i) ∨ (x = n ∧ y = j) → ∀ w, Calls Tryz.prog 312 #[.int .u64 x, .int .i64 y, .int .i64 61] w (Pq w (L x y)))
  (M1 M2 : Nat) (E1 E2 : Int) (hLa : L m i = .tuple #[.int .u64 M1, .int .i64 E1]) (hLb : L n j = .tuple #[.int .u64 M2, .int .i64 E2])
  (b1 : 2305843009213693952 ≤ M1 ∧ M1 < 4611686018427387904) (b2 : 2305843009213693952 ≤ M2 ∧ M2 < 4611686018427387904) (g1 : -3100 ≤ E1 ∧ E1 ≤ 3000) (g2 : -3100 ≤ E2 ∧ E2 ≤ 3000)
  (hc1 : E1 < E2) (d : Nat) (hd : E2 - E1 = d) (hord : d = 0 → M1 ≤ M2) (w : World) : Calls Tryz.prog 303 #[.int .i64 f, .int .u64 a, .int .u64 b] w (Pq w (.int .u64 ((addCore F bi t s M2 M1 E2 d : Nat) : Int))) := by
  by_cases hd64 : 64 ≤ d
  · rw [core_far hd64]
    have hge : (64 : Int) ≤ (d : Int) := by omega
    by_cases hst : t = s
    · rw [if_pos hst]
      subst hst
      have hro := fun w => HR.out t true (M2) E2 (by omega) (by omega) (by omega) w
      generalize softRound F bi t (M2) E2 true = R at hro ⊢
      go_enter Tryz.func303, Tryz.ntmps303
      go_wp2_with (first | (go_at_call 311; refine (hU _ (by first | exact .inl rfl | exact .inr rfl) _).mono ?_; rintro en w2 ⟨hen, rfl⟩; (first | rw [hUa] at hen | rw [hUb] at hen); subst hen) | (go_at_call 312; refine (hL _ _ (by first | exact .inl ⟨rfl, rfl⟩ | exact .inr ⟨rfl, rfl⟩) _).mono ?_; rintro en w2 ⟨hen, rfl⟩; (first | rw [hLa] at hen | rw [hLb] at hen); subst hen) | (go_at_call 313; refine (hro _).mono ?_; rintro en w2 ⟨rfl, rfl⟩))
      refine bodyPost_ret (v := .int .u64 (R : Int)) (by simp [results, Tryz.results303, go_sem]) rfl ?_
      exact ⟨rfl, rfl⟩
    · rw [if_neg hst, if_neg (by omega)]
      have hq1 : (t == s) = false := by simpa using hst
      have hz : (((M2 - 1 : Nat) : Int) == 0) = false := by rw [beq_eq_false_iff_ne]; omega
      have hz2 : ((M2 : Int) - 1 == 0) = false := by rw [beq_eq_false_iff_ne]; omega
      have hwm : IntKind.u64.wrap ((M2 : Int) - 1) = ((M2 - 1 : Nat) : Int) := by rw [wrap_u64]; omega
      have hsb : (M2 : Int) - 1 = ((M2 - 1 : Nat) : Int) := by omega
      have hro := fun w => HR.out t true (M2 - 1) E2 (by omega) (by omega) (by omega) w
      generalize softRound F bi t (M2 - 1) E2 true = R at hro ⊢
      go_enter Tryz.func303, Tryz.ntmps303
      go_wp2_with (first | (go_at_call 311; refine (hU _ (by first | exact .inl rfl | exact .inr rfl) _).mono ?_; rintro en w2 ⟨hen, rfl⟩; (first | rw [hUa] at hen | rw [hUb] at hen); subst hen) | (go_at_call 312; refine (hL _ _ (by first | exact .inl ⟨rfl, rfl⟩ | exact .inr ⟨rfl, rfl⟩) _).mono ?_; rintro en w2 ⟨hen, rfl⟩; (first | rw [hLa] at hen | rw [hLb] at hen); subst hen) | (go_at_call 313; refine (hro _).mono ?_; rintro en w2 ⟨rfl, rfl⟩))
      refine bodyPost_ret (v := .int .u64 (R : Int)) (by simp [results, Tryz.results303, go_sem]) rfl ?_
      exact ⟨rfl, rfl⟩
  · have hlt : ¬ (64 : Int) ≤ (d : Int) := by omega
    have hlt2 : decide ((64 : Int) ≤ (d : Int)) = false := decide_eq_false hlt
    obtain ⟨P, hP⟩ : ∃ P : Nat, 2 ^ d = P := ⟨_, rfl⟩
    have hP0 : 0 < P := hP ▸ Nat.two_pow_pos d
    have hP64 : P < 18446744073709551616 := by rw [← hP]; exact Nat.lt_of_lt_of_le (Nat.pow_lt_pow_right (by decide) (Nat.lt_of_not_le hd64)) (by decide)
    have hpw : IntKind.u64.wrap (2 ^ d) = (P : Int) := by
      rw [wrap_u64, ← hP]
      have : ((2 ^ d : Nat) : Int) = (2 : Int) ^ d := by simp
      rw [← this, hP]
      omega
    have hPz : ((P : Int) == 0) = false := by rw [beq_eq_false_iff_ne]; omega
    obtain ⟨q, hq⟩ : ∃ q : Nat, M1 / 2 ^ d = q := ⟨_, rfl⟩
    obtain ⟨r, hr⟩ : ∃ r : Nat, M1 % 2 ^ d = r := ⟨_, rfl⟩
    have hqi : (M1 : Int) / 2 ^ d = (q : Int) := by rw [← hq]; simp
    have hri : (M1 : Int) % (P : Int) = (r : Int) := by rw [← hr, hP]; simp
    have hqm : q ≤ M2 ∧ (r ≠ 0 → q + 1 ≤ M2) ∧ q < 4611686018427387904 := by
      have h1 : q ≤ M1 := by rw [← hq]; exact Nat.div_le_self _ _
      by_cases h0 : d = 0
      · have := hord h0
        refine ⟨by omega, fun hr0 => ?_, by omega⟩
        rw [h0, Nat.pow_zero, Nat.mod_one] at hr
        omega
      · have h2 : q ≤ M1 / 2 := by
          rw [← hq]
          have : 2 ^ 1 ≤ 2 ^ d := Nat.pow_le_pow_right (by decide) (by omega)
          exact Nat.div_le_div_left (by omega) (by decide)
        omega
    have hrb : r < 18446744073709551616 := by rw [← hr]; exact Nat.lt_of_le_of_lt (Nat.mod_le _ _) (by omega)
    by_cases hr0 : r = 0
    · rw [core_ex hd64 (by omega), hq]
      clear hq hr hP
      subst hr0
      by_cases hst : t = s
      · rw [if_pos hst]
        subst hst
        have hro := fun w => HR.out t false (M2 + q) E2 (by omega) (by omega) (by omega) w
        generalize softRound F bi t (M2 + q) E2 false = R at hro ⊢
        go_enter Tryz.func303, Tryz.ntmps303
        go_wp2_with (first | (go_at_call 311; refine (hU _ (by first | exact .inl rfl | exact .inr rfl) _).mono ?_; rintro en w2 ⟨hen, rfl⟩; (first | rw [hUa] at hen | rw [hUb] at hen); subst hen) | (go_at_call 312; refine (hL _ _ (by first | exact .inl ⟨rfl, rfl⟩ | exact .inr ⟨rfl, rfl⟩) _).mono ?_; rintro en w2 ⟨hen, rfl⟩; (first | rw [hLa] at hen | rw [hLb] at hen); subst hen) | (go_at_call 313; refine (hro _).mono ?_; rintro en w2 ⟨rfl, rfl⟩))
        refine bodyPost_ret (v := .int .u64 (R : Int)) (by simp [results, Tryz.results303, go_sem]) rfl ?_
        exact ⟨rfl, rfl⟩
      · rw [if_neg hst]
        have hq1 : (t == s) = false := by simpa using hst
        have hsb : (M2 : Int) - (q : Int) = ((M2 - q : Nat) : Int) := by omega
        by_cases hm0 : M2 - q = 0
        · rw [if_pos hm0]
          have hmq : (M2 : Int) - (q : Int) = 0 := by omega
          clear hsb
          go_enter Tryz.func303, Tryz.ntmps303
          go_wp2_with (first | (go_at_call 311; refine (hU _ (by first | exact .inl rfl | exact .inr rfl) _).mono ?_; rintro en w2 ⟨hen, rfl⟩; (first | rw [hUa] at hen | rw [hUb] at hen); subst hen) | (go_at_call 312; refine (hL _ _ (by first | exact .inl ⟨rfl, rfl⟩ | exact .inr ⟨rfl, rfl⟩) _).mono ?_; rintro en w2 ⟨hen, rfl⟩; (first | rw [hLa] at hen | rw [hLb] at hen); subst hen))
          refine bodyPost_ret (v := .int .u64 0) (by simp [results, Tryz.results303, go_sem]) rfl ?_
          exact ⟨rfl, rfl⟩
        · rw [if_neg hm0]
          have hz : (((M2 - q : Nat) : Int) == 0) = false := by rw [beq_eq_false_iff_ne]; omega
          have hz2 : ((M2 : Int) - (q : Int) == 0) = false := by rw [beq_eq_false_iff_ne]; omega
          have hro := fun w => HR.out t false (M2 - q) E2 (by omega) (by omega) (by omega) w
          generalize softRound F bi t (M2 - q) E2 false = R at hro ⊢
          go_enter Tryz.func303, Tryz.ntmps303
          go_wp2_with (first | (go_at_call 311; refine (hU _ (by first | exact .inl rfl | exact .inr rfl) _).mono ?_; rintro en w2 ⟨hen, rfl⟩; (first | rw [hUa] at hen | rw [hUb] at hen); subst hen) | (go_at_call 312; refine (hL _ _ (by first | exact .inl ⟨rfl, rfl⟩ | exact .inr ⟨rfl, rfl⟩) _).mono ?_; rintro en w2 ⟨hen, rfl⟩; (first | rw [hLa] at hen | rw [hLb] at hen); subst hen) | (go_at_call 313; refine (hro _).mono ?_; rintro en w2 ⟨rfl, rfl⟩))
          refine bodyPost_ret (v := .int .u64 (R : Int)) (by simp [results, Tryz.results303, go_sem]) rfl ?_
          exact ⟨rfl, rfl⟩
    · rw [core_in hd64 (by omega), hq]
      clear hq hr hP
      have hrz : ((r : Int) == 0) = false := by rw [beq_eq_false_iff_ne]; omega
      have hrz1 : ((r : Int) != 0) = true := by rw [bne_iff_ne]; omega
      have hrz2 : (!((r : Int) == 0)) = true := by rw [hrz]; rfl
      by_cases hst : t = s
      · rw [if_pos hst]
        subst hst
        have hro := fun w => HR.out t true (M2 + q) E2 (by omega) (by omega) (by omega) w
        generalize softRound F bi t (M2 + q) E2 true = R at hro ⊢
        go_enter Tryz.func303, Tryz.ntmps303
        go_wp2_with (first | (go_at_call 311; refine (hU _ (by first | exact .inl rfl | exact .inr rfl) _).mono ?_; rintro en w2 ⟨hen, rfl⟩; (first | rw [hUa] at hen | rw [hUb] at hen); subst hen) | (go_at_call 312; refine (hL _ _ (by first | exact .inl ⟨rfl, rfl⟩ | exact .inr ⟨rfl, rfl⟩) _).mono ?_; rintro en w2 ⟨hen, rfl⟩; (first | rw [hLa] at hen | rw [hLb] at hen); subst hen) | (go_at_call 313; refine (hro _).mono ?_; rintro en w2 ⟨rfl, rfl⟩))
        refine bodyPost_ret (v := .int .u64 (R : Int)) (by simp [results, Tryz.results303, go_sem]) rfl ?_
        exact ⟨rfl, rfl⟩
      · rw [if_neg hst]
        have hq1 : (t == s) = false := by simpa using hst
        have hsb : (M2 : Int) - (q : Int) - 1 = ((M2 - q - 1 : Nat) : Int) := by omega
        by_cases hm0 : M2 - q - 1 = 0
        · rw [if_pos hm0]
          have hmq : (M2 : Int) - (q : Int) - 1 = 0 := by omega
          clear hsb
          go_enter Tryz.func303, Tryz.ntmps303
          go_wp2_with (first | (go_at_call 311; refine (hU _ (by first | exact .inl rfl | exact .inr rfl) _).mono ?_; rintro en w2 ⟨hen, rfl⟩; (first | rw [hUa] at hen | rw [hUb] at hen); subst hen) | (go_at_call 312; refine (hL _ _ (by first | exact .inl ⟨rfl, rfl⟩ | exact .inr ⟨rfl, rfl⟩) _).mono ?_; rintro en w2 ⟨hen, rfl⟩; (first | rw [hLa] at hen | rw [hLb] at hen); subst hen))
          refine bodyPost_ret (v := .int .u64 0) (by simp [results, Tryz.results303, go_sem]) rfl ?_
          exact ⟨rfl, rfl⟩
        · rw [if_neg hm0]
          have hz : (((M2 - q - 1 : Nat) : Int) == 0) = false := by rw [beq_eq_false_iff_ne]; omega
          have hz2 : ((M2 : Int) - (q : Int) - 1 == 0) = false := by rw [beq_eq_false_iff_ne]; omega
          have hro := fun w => HR.out t true (M2 - q - 1) E2 (by omega) (by omega) (by omega) w
          generalize softRound F bi t (M2 - q - 1) E2 true = R at hro ⊢
          go_enter Tryz.func303, Tryz.ntmps303
          go_wp2_with (first | (go_at_call 311; refine (hU _ (by first | exact .inl rfl | exact .inr rfl) _).mono ?_; rintro en w2 ⟨hen, rfl⟩; (first | rw [hUa] at hen | rw [hUb] at hen); subst hen) | (go_at_call 312; refine (hL _ _ (by first | exact .inl ⟨rfl, rfl⟩ | exact .inr ⟨rfl, rfl⟩) _).mono ?_; rintro en w2 ⟨hen, rfl⟩; (first | rw [hLa] at hen | rw [hLb] at hen); subst hen) | (go_at_call 313; refine (hro _).mono ?_; rintro en w2 ⟨rfl, rfl⟩))
          refine bodyPost_ret (v := .int .u64 (R : Int)) (by simp [results, Tryz.results303, go_sem]) rfl ?_
          exact ⟨rfl, rfl⟩
end Go.Proofs.Qxb6500275aGreatDoor
