import Derived.Test.Qxb6500275aGreatDoorNqh
set_option maxRecDepth 100000
set_option linter.unusedVariables false
set_option linter.unusedSimpArgs false
namespace Go.Proofs.Qxb6500275aGreatDoor
open Go Go.RowKit
set_option maxHeartbeats 4000000 in
theorem add_eqs {F : Ieee.Format} {bi : Nat} {f : Int} (a b : Nat) (ha2 : a < 18446744073709551616) (hb2 : b < 18446744073709551616) (s t : Bool) (m n : Nat) (i j : Int) (hm64 : m < 18446744073709551616) (hn64 : n < 18446744073709551616) (he1 : -3000 ≤ i) (he2 : i ≤ 3000) (hf1 : -3000 ≤ j) (hf2 : j ≤ 3000)
  (HR : Hid (∀ (neg st : Bool) (m : Nat) (e : Int), m ≠ 0 → m < 18446744073709551616 → -30000 ≤ e ∧ e ≤ 30000 → ∀ w, Calls Tryz.prog 313 #[.int .i64 f, .bool neg, .int .u64 m, .int .i64 e, .bool st] w (Pq w (.int .u64 ((softRound F bi neg m e st : Nat) : Int)))))
  (U : Nat → Value) (hU : ∀ v : Nat, v = a ∨ v = b → ∀ w, Calls Tryz.prog 311 #[.int .i64 f, .int .u64 v] w (Pq w (U v)))
  (hUa : U a = .tuple #[.bool s, .int .i64 1, .int .u64 m, .int .i64 i])
  (hUb : U b = .tuple #[.bool t, .int .i64 1, .int .u64 n, .int .i64 j])
  (L : Nat → Int → Value) (hL : ∀ (x : Nat) (y : Int), (x = m ∧ y = i) ∨ (x = n ∧ y = j) → ∀ w, Calls Tryz.prog 312 #[.int .u64 x, .int .i64 y, .int .i64 61] w (Pq w (L x y)))
  (M1 M2 : Nat) (E1 : Int) (hLa : L m i = .tuple #[.int .u64 M1, .int .i64 E1]) (hLb : L n j = .tuple #[.int .u64 M2, .int .i64 E1])
  (b1 : 2305843009213693952 ≤ M1 ∧ M1 < 4611686018427387904) (b2 : 2305843009213693952 ≤ M2 ∧ M2 < 4611686018427387904) (g1 : -3100 ≤ E1 ∧ E1 ≤ 3000)
  (hc4 : M1 < M2) (hc4i : (M1 : Int) < (M2 : Int)) (w : World) : Calls Tryz.prog 303 #[.int .i64 f, .int .u64 a, .int .u64 b] w (Pq w (.int .u64 ((addCore F bi t s M2 M1 E1 0 : Nat) : Int))) := by
  rw [core_ex (by decide) (by rw [Nat.pow_zero, Nat.mod_one]), Nat.pow_zero, Nat.div_one]
  have hone : IntKind.u64.wrap 1 = 1 := by rw [wrap_u64]; rfl
  by_cases hst : t = s
  · rw [if_pos hst]
    subst hst
    have hro := fun w => HR.out t false (M2 + M1) E1 (by omega) (by omega) (by omega) w
    generalize softRound F bi t (M2 + M1) E1 false = R at hro ⊢
    go_enter Tryz.func303, Tryz.ntmps303
    go_wp2_with (first | (go_at_call 311; refine (hU _ (by first | exact .inl rfl | exact .inr rfl) _).mono ?_; rintro en w2 ⟨hen, rfl⟩; (first | rw [hUa] at hen | rw [hUb] at hen); subst hen) | (go_at_call 312; refine (hL _ _ (by first | exact .inl ⟨rfl, rfl⟩ | exact .inr ⟨rfl, rfl⟩) _).mono ?_; rintro en w2 ⟨hen, rfl⟩; (first | rw [hLa] at hen | rw [hLb] at hen); subst hen) | (go_at_call 313; refine (hro _).mono ?_; rintro en w2 ⟨rfl, rfl⟩))
    refine bodyPost_ret (v := .int .u64 (R : Int)) (by simp [results, Tryz.results303, go_sem]) rfl ?_
    exact ⟨rfl, rfl⟩
  · rw [if_neg hst]
    have hq1 : (t == s) = false := by simpa using hst
    by_cases hm0 : M2 - M1 = 0
    · rw [if_pos hm0]
      have hmq : (M2 : Int) - (M1 : Int) = 0 := by omega
      go_enter Tryz.func303, Tryz.ntmps303
      go_wp2_with (first | (go_at_call 311; refine (hU _ (by first | exact .inl rfl | exact .inr rfl) _).mono ?_; rintro en w2 ⟨hen, rfl⟩; (first | rw [hUa] at hen | rw [hUb] at hen); subst hen) | (go_at_call 312; refine (hL _ _ (by first | exact .inl ⟨rfl, rfl⟩ | exact .inr ⟨rfl, rfl⟩) _).mono ?_; rintro en w2 ⟨hen, rfl⟩; (first | rw [hLa] at hen | rw [hLb] at hen); subst hen))
      refine bodyPost_ret (v := .int .u64 0) (by simp [results, Tryz.results303, go_sem]) rfl ?_
      exact ⟨rfl, rfl⟩
    · rw [if_neg hm0]
      have hsb : (M2 : Int) - (M1 : Int) = ((M2 - M1 : Nat) : Int) := by omega
      have hz : (((M2 - M1 : Nat) : Int) == 0) = false := by rw [beq_eq_false_iff_ne]; omega
      have hz2 : ((M2 : Int) - (M1 : Int) == 0) = false := by rw [beq_eq_false_iff_ne]; omega
      have hro := fun w => HR.out t false (M2 - M1) E1 (by omega) (by omega) (by omega) w
      generalize softRound F bi t (M2 - M1) E1 false = R at hro ⊢
      go_enter Tryz.func303, Tryz.ntmps303
      go_wp2_with (first | (go_at_call 311; refine (hU _ (by first | exact .inl rfl | exact .inr rfl) _).mono ?_; rintro en w2 ⟨hen, rfl⟩; (first | rw [hUa] at hen | rw [hUb] at hen); subst hen) | (go_at_call 312; refine (hL _ _ (by first | exact .inl ⟨rfl, rfl⟩ | exact .inr ⟨rfl, rfl⟩) _).mono ?_; rintro en w2 ⟨hen, rfl⟩; (first | rw [hLa] at hen | rw [hLb] at hen); subst hen) | (go_at_call 313; refine (hro _).mono ?_; rintro en w2 ⟨rfl, rfl⟩))
      refine bodyPost_ret (v := .int .u64 (R : Int)) (by simp [results, Tryz.results303, go_sem]) rfl ?_
      exact ⟨rfl, rfl⟩
set_option maxHeartbeats 4000000 in
theorem add_eqn {F : Ieee.Format} {bi : Nat} {f : Int} (a b : Nat) (ha2 : a < 18446744073709551616) (hb2 : b < 18446744073709551616) (s t : Bool) (m n : Nat) (i j : Int) (hm64 : m < 18446744073709551616) (hn64 : n < 18446744073709551616) (he1 : -3000 ≤ i) (he2 : i ≤ 3000) (hf1 : -3000 ≤ j) (hf2 : j ≤ 3000)
  (HR : Hid (∀ (neg st : Bool) (m : Nat) (e : Int), m ≠ 0 → m < 18446744073709551616 → -30000 ≤ e ∧ e ≤ 30000 → ∀ w, Calls Tryz.prog 313 #[.int .i64 f, .bool neg, .int .u64 m, .int .i64 e, .bool st] w (Pq w (.int .u64 ((softRound F bi neg m e st : Nat) : Int)))))
  (U : Nat → Value) (hU : ∀ v : Nat, v = a ∨ v = b → ∀ w, Calls Tryz.prog 311 #[.int .i64 f, .int .u64 v] w (Pq w (U v)))
  (hUa : U a = .tuple #[.bool s, .int .i64 1, .int .u64 m, .int .i64 i])
  (hUb : U b = .tuple #[.bool t, .int .i64 1, .int .u64 n, .int .i64 j])
  (L : Nat → Int → Value) (hL : ∀ (x : Nat) (y : Int), (x = m ∧ y = i) ∨ (x = n ∧ y = j) → ∀ w, Calls Tryz.prog 312 #[.int .u64 x, .int .i64 y, .int .i64 61] w (Pq w (L x y)))
  (M1 M2 : Nat) (E1 : Int) (hLa : L m i = .tuple #[.int .u64 M1, .int .i64 E1]) (hLb : L n j = .tuple #[.int .u64 M2, .int .i64 E1])
  (b1 : 2305843009213693952 ≤ M1 ∧ M1 < 4611686018427387904) (b2 : 2305843009213693952 ≤ M2 ∧ M2 < 4611686018427387904) (g1 : -3100 ≤ E1 ∧ E1 ≤ 3000)
  (hc4 : ¬ M1 < M2) (hc4i : ¬ (M1 : Int) < (M2 : Int)) (hc5 : decide ((M1 : Int) < (M2 : Int)) = false) (w : World) : Calls Tryz.prog 303 #[.int .i64 f, .int .u64 a, .int .u64 b] w (Pq w (.int .u64 ((addCore F bi s t M1 M2 E1 0 : Nat) : Int))) := by
  rw [core_ex (by decide) (by rw [Nat.pow_zero, Nat.mod_one]), Nat.pow_zero, Nat.div_one]
  have hone : IntKind.u64.wrap 1 = 1 := by rw [wrap_u64]; rfl
  by_cases hst : s = t
  · rw [if_pos hst]
    subst hst
    have hro := fun w => HR.out s false (M1 + M2) E1 (by omega) (by omega) (by omega) w
    generalize softRound F bi s (M1 + M2) E1 false = R at hro ⊢
    go_enter Tryz.func303, Tryz.ntmps303
    go_wp2_with (first | (go_at_call 311; refine (hU _ (by first | exact .inl rfl | exact .inr rfl) _).mono ?_; rintro en w2 ⟨hen, rfl⟩; (first | rw [hUa] at hen | rw [hUb] at hen); subst hen) | (go_at_call 312; refine (hL _ _ (by first | exact .inl ⟨rfl, rfl⟩ | exact .inr ⟨rfl, rfl⟩) _).mono ?_; rintro en w2 ⟨hen, rfl⟩; (first | rw [hLa] at hen | rw [hLb] at hen); subst hen) | (go_at_call 313; refine (hro _).mono ?_; rintro en w2 ⟨rfl, rfl⟩))
    refine bodyPost_ret (v := .int .u64 (R : Int)) (by simp [results, Tryz.results303, go_sem]) rfl ?_
    exact ⟨rfl, rfl⟩
  · rw [if_neg hst]
    have hq1 : (s == t) = false := by simpa using hst
    by_cases hm0 : M1 - M2 = 0
    · rw [if_pos hm0]
      have hmq : (M1 : Int) - (M2 : Int) = 0 := by omega
      go_enter Tryz.func303, Tryz.ntmps303
      go_wp2_with (first | (go_at_call 311; refine (hU _ (by first | exact .inl rfl | exact .inr rfl) _).mono ?_; rintro en w2 ⟨hen, rfl⟩; (first | rw [hUa] at hen | rw [hUb] at hen); subst hen) | (go_at_call 312; refine (hL _ _ (by first | exact .inl ⟨rfl, rfl⟩ | exact .inr ⟨rfl, rfl⟩) _).mono ?_; rintro en w2 ⟨hen, rfl⟩; (first | rw [hLa] at hen | rw [hLb] at hen); subst hen))
      refine bodyPost_ret (v := .int .u64 0) (by simp [results, Tryz.results303, go_sem]) rfl ?_
      exact ⟨rfl, rfl⟩
    · rw [if_neg hm0]
      have hsb : (M1 : Int) - (M2 : Int) = ((M1 - M2 : Nat) : Int) := by omega
      have hz : (((M1 - M2 : Nat) : Int) == 0) = false := by rw [beq_eq_false_iff_ne]; omega
      have hz2 : ((M1 : Int) - (M2 : Int) == 0) = false := by rw [beq_eq_false_iff_ne]; omega
      have hro := fun w => HR.out s false (M1 - M2) E1 (by omega) (by omega) (by omega) w
      generalize softRound F bi s (M1 - M2) E1 false = R at hro ⊢
      go_enter Tryz.func303, Tryz.ntmps303
      go_wp2_with (first | (go_at_call 311; refine (hU _ (by first | exact .inl rfl | exact .inr rfl) _).mono ?_; rintro en w2 ⟨hen, rfl⟩; (first | rw [hUa] at hen | rw [hUb] at hen); subst hen) | (go_at_call 312; refine (hL _ _ (by first | exact .inl ⟨rfl, rfl⟩ | exact .inr ⟨rfl, rfl⟩) _).mono ?_; rintro en w2 ⟨hen, rfl⟩; (first | rw [hLa] at hen | rw [hLb] at hen); subst hen) | (go_at_call 313; refine (hro _).mono ?_; rintro en w2 ⟨rfl, rfl⟩))
      refine bodyPost_ret (v := .int .u64 (R : Int)) (by simp [results, Tryz.results303, go_sem]) rfl ?_
      exact ⟨rfl, rfl⟩
end Go.Proofs.Qxb6500275aGreatDoor
