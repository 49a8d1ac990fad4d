import Derived.Test.Qxb6500275aGreatDoorNqi
import Derived.Test.Qxb6500275aGreatDoorNqj
set_option maxRecDepth 100000
set_option linter.unusedVariables false
set_option linter.unusedSimpArgs false
namespace Go.Proofs.Qxb6500275aGreatDoor
open Go Go.RowKit
theorem unpS_53 {F : Ieee.Format} {bi v : Nat} (hF : Fmt F bi) : (unpS F bi v).2.2.1 < 4611686018427387904 := by
  have hfl := Fmt.fr_lt F v
  have hP : 2 ^ F.fractionBits ≤ 2 ^ 52 := Nat.pow_le_pow_right (by decide) hF.fb.2
  unfold unpS
  split
  · split <;> (dsimp only; omega)
  · split
    · split
      · dsimp only; omega
      · dsimp only; omega
    · dsimp only; omega
set_option maxHeartbeats 4000000 in
theorem add_gen {F : Ieee.Format} {bi can : Nat} {f : Int} (h : NF F bi can f) (a b : Nat) (ha : a < 2 * F.signWeight) (hb : b < 2 * F.signWeight) (na : (unpS F bi a).2.1 ≠ 3) (nb : (unpS F bi b).2.1 ≠ 3) (w : World) : Calls Tryz.prog 303 #[.int .i64 f, .int .u64 a, .int .u64 b] w (Pq w (.int .u64 ((softAdd F bi can a b : Nat) : Int))) := by
  obtain ⟨U, HU⟩ : ∃ U : Nat → Value, U = fun v => unpV (unpS F bi v) := ⟨_, rfl⟩
  have hU : ∀ v : Nat, v = a ∨ v = b → ∀ w, Calls Tryz.prog 311 #[.int .i64 f, .int .u64 v] w (Pq w (U v)) := fun v hv w => by
    rw [HU]
    exact h.unp v (by rcases hv with rfl | rfl; exact ha; exact hb) w
  have hUa : U a = unpV (unpS F bi a) := by rw [HU]
  have hUb : U b = unpV (unpS F bi b) := by rw [HU]
  clear HU
  have hcan := h.can
  have hinf := h.inf
  have hsgn := h.sgn
  have HR : Hid (∀ (neg st : Bool) (m : Nat) (e : Int), m ≠ 0 → m < 18446744073709551616 → -30000 ≤ e ∧ e ≤ 30000 → ∀ w, Calls Tryz.prog 313 #[.int .i64 f, .bool neg, .int .u64 m, .int .i64 e, .bool st] w (Pq w (.int .u64 ((softRound F bi neg m e st : Nat) : Int)))) := h.rnd
  obtain ⟨k3, hm0, hm64, he1, he2⟩ := unpS_rng (v := a) h.fmt h.b3
  obtain ⟨l3, hn0, hn64, hf1, hf2⟩ := unpS_rng (v := b) h.fmt h.b3
  have hsw := h.sw
  have ha2 : a < 18446744073709551616 := by omega
  have hb2 : b < 18446744073709551616 := by omega
  have hM53 : ((unpS F bi a).2.2.1 < 4611686018427387904) ∧ ((unpS F bi b).2.2.1 < 4611686018427387904) := ⟨unpS_53 h.fmt, unpS_53 h.fmt⟩
  clear h ha hb hsw
  unfold softAdd
  dsimp only
  generalize unpS F bi a = x at *
  generalize unpS F bi b = y at *
  obtain ⟨s, k, m, i⟩ := x
  obtain ⟨t, l, n, j⟩ := y
  unfold unpV at hUa hUb
  dsimp only at k3 hm0 hm64 he1 he2 l3 hn0 hn64 hf1 hf2 na nb hUa hUb hM53 ⊢
  rcases (by omega : k = 0 ∨ k = 1 ∨ k = 2) with rfl | rfl | rfl <;> rcases (by omega : l = 0 ∨ l = 1 ∨ l = 2) with rfl | rfl | rfl
  · rw [if_neg (by decide), if_neg (by decide), if_pos rfl, if_pos rfl]
    cases s
    · simp only [Bool.false_and, Bool.true_and]
      replace hsgn := hsgn (false)
      generalize F.word false 0 = R at hsgn ⊢
      go_enter Tryz.func303, Tryz.ntmps303
      go_wp2_with (first | (go_at_call 311; refine (hU _ (by first | exact .inl rfl | exact .inr rfl) _).mono ?_; rintro en w2 ⟨hen, rfl⟩; (first | rw [hUa] at hen | rw [hUb] at hen); subst hen) | (go_at_call 316; refine (hsgn _).mono ?_; rintro en w2 ⟨rfl, rfl⟩))
      refine bodyPost_ret (v := .int .u64 (R : Int)) (by simp [results, Tryz.results303, go_sem]) rfl ?_
      exact ⟨rfl, rfl⟩
    · simp only [Bool.false_and, Bool.true_and]
      replace hsgn := hsgn (t)
      generalize F.word t 0 = R at hsgn ⊢
      go_enter Tryz.func303, Tryz.ntmps303
      go_wp2_with (first | (go_at_call 311; refine (hU _ (by first | exact .inl rfl | exact .inr rfl) _).mono ?_; rintro en w2 ⟨hen, rfl⟩; (first | rw [hUa] at hen | rw [hUb] at hen); subst hen) | (go_at_call 316; refine (hsgn _).mono ?_; rintro en w2 ⟨rfl, rfl⟩))
      refine bodyPost_ret (v := .int .u64 (R : Int)) (by simp [results, Tryz.results303, go_sem]) rfl ?_
      exact ⟨rfl, rfl⟩
  · rw [if_neg (by decide), if_neg (by decide), if_pos rfl, if_neg (by decide)]
    go_enter Tryz.func303, Tryz.ntmps303
    go_wp2_with (first | (go_at_call 311; refine (hU _ (by first | exact .inl rfl | exact .inr rfl) _).mono ?_; rintro en w2 ⟨hen, rfl⟩; (first | rw [hUa] at hen | rw [hUb] at hen); subst hen))
    refine bodyPost_ret (v := .int .u64 (b : Int)) (by simp [results, Tryz.results303, go_sem]) rfl ?_
    exact ⟨rfl, rfl⟩
  · rw [if_neg (by decide), if_pos rfl]
    go_enter Tryz.func303, Tryz.ntmps303
    go_wp2_with (first | (go_at_call 311; refine (hU _ (by first | exact .inl rfl | exact .inr rfl) _).mono ?_; rintro en w2 ⟨hen, rfl⟩; (first | rw [hUa] at hen | rw [hUb] at hen); subst hen))
    refine bodyPost_ret (v := .int .u64 (b : Int)) (by simp [results, Tryz.results303, go_sem]) rfl ?_
    exact ⟨rfl, rfl⟩
  · rw [if_neg (by decide), if_neg (by decide), if_neg (by decide), if_pos rfl]
    go_enter Tryz.func303, Tryz.ntmps303
    go_wp2_with (first | (go_at_call 311; refine (hU _ (by first | exact .inl rfl | exact .inr rfl) _).mono ?_; rintro en w2 ⟨hen, rfl⟩; (first | rw [hUa] at hen | rw [hUb] at hen); subst hen))
    refine bodyPost_ret (v := .int .u64 (a : Int)) (by simp [results, Tryz.results303, go_sem]) rfl ?_
    exact ⟨rfl, rfl⟩
  · rw [if_neg (by decide), if_neg (by decide), if_neg (by decide), if_neg (by decide)]
    have hl1 : m.log2 ≤ 61 := by
      have hm53 := hM53.1
      have := (Nat.log2_lt (hm0 rfl)).2 (show m < 2 ^ 62 by omega)
      omega
    have hl2 : n.log2 ≤ 61 := by
      have hm53 := hM53.2
      have := (Nat.log2_lt (hn0 rfl)).2 (show n < 2 ^ 62 by omega)
      omega
    clear hinf hsgn hcan
    obtain ⟨L, HL⟩ : ∃ L : Nat → Int → Value, L = fun x y => .tuple #[.int .u64 (liftM x 61), .int .i64 (liftE x y 61)] := ⟨_, rfl⟩
    have hL : ∀ (x : Nat) (y : Int), (x = m ∧ y = i) ∨ (x = n ∧ y = j) → ∀ w, Calls Tryz.prog 312 #[.int .u64 x, .int .i64 y, .int .i64 61] w (Pq w (L x y)) := fun x y hxy w => by
      rw [HL]
      rcases hxy with ⟨rfl, rfl⟩ | ⟨rfl, rfl⟩
      · exact lift_61 x y (hm0 rfl) hl1 (by omega) w
      · exact lift_61 x y (hn0 rfl) hl2 (by omega) w
    have hLa : L m i = .tuple #[.int .u64 (liftM m 61), .int .i64 (liftE m i 61)] := by rw [HL]
    have hLb : L n j = .tuple #[.int .u64 (liftM n 61), .int .i64 (liftE n j 61)] := by rw [HL]
    clear HL
    have b1 := liftM_bd (at_ := 61) (hm0 rfl) hl1
    have b2 := liftM_bd (at_ := 61) (hn0 rfl) hl2
    have e1 : i - 61 ≤ liftE m i 61 ∧ liftE m i 61 ≤ i := by unfold liftE; omega
    have e2 : j - 61 ≤ liftE n j 61 ∧ liftE n j 61 ≤ j := by unfold liftE; omega
    generalize liftM m 61 = M1 at *
    generalize liftM n 61 = M2 at *
    generalize liftE m i 61 = E1 at *
    generalize liftE n j 61 = E2 at *
    unfold addLift
    have b1' : 2305843009213693952 ≤ M1 ∧ M1 < 4611686018427387904 := b1
    have b2' : 2305843009213693952 ≤ M2 ∧ M2 < 4611686018427387904 := b2
    rcases Int.lt_trichotomy E1 E2 with hc | hc | hc
    · rw [if_pos (.inl hc)]
      exact add_lt a b ha2 hb2 s t m n i j hm64 hn64 he1 he2 hf1 hf2 HR U hU hUa hUb L hL M1 M2 E1 E2 hLa hLb b1' b2' (by omega) (by omega) hc (E2 - E1).toNat (by omega) (by omega) w
    · subst hc
      rw [show (E1 - E1).toNat = 0 by omega]
      by_cases hm : M1 < M2
      · rw [if_pos (.inr ⟨rfl, hm⟩)]
        exact add_eqs a b ha2 hb2 s t m n i j hm64 hn64 he1 he2 hf1 hf2 HR U hU hUa hUb L hL M1 M2 E1 hLa hLb b1' b2' (by omega) hm (by omega) w
      · rw [if_neg (by omega)]
        exact add_eqn a b ha2 hb2 s t m n i j hm64 hn64 he1 he2 hf1 hf2 HR U hU hUa hUb L hL M1 M2 E1 hLa hLb b1' b2' (by omega) hm (by omega) (decide_eq_false (by omega)) w
    · rw [if_neg (by omega)]
      exact add_gt a b ha2 hb2 s t m n i j hm64 hn64 he1 he2 hf1 hf2 HR U hU hUa hUb L hL M1 M2 E1 E2 hLa hLb b1' b2' (by omega) (by omega) (by omega) (decide_eq_false (by omega)) (by rw [beq_eq_false_iff_ne]; omega) (E1 - E2).toNat (by omega) (by omega) w
  · rw [if_neg (by decide), if_pos rfl]
    go_enter Tryz.func303, Tryz.ntmps303
    go_wp2_with (first | (go_at_call 311; refine (hU _ (by first | exact .inl rfl | exact .inr rfl) _).mono ?_; rintro en w2 ⟨hen, rfl⟩; (first | rw [hUa] at hen | rw [hUb] at hen); subst hen))
    refine bodyPost_ret (v := .int .u64 (b : Int)) (by simp [results, Tryz.results303, go_sem]) rfl ?_
    exact ⟨rfl, rfl⟩
  · rw [if_pos rfl, if_neg (by simp)]
    go_enter Tryz.func303, Tryz.ntmps303
    go_wp2_with (first | (go_at_call 311; refine (hU _ (by first | exact .inl rfl | exact .inr rfl) _).mono ?_; rintro en w2 ⟨hen, rfl⟩; (first | rw [hUa] at hen | rw [hUb] at hen); subst hen))
    refine bodyPost_ret (v := .int .u64 (a : Int)) (by simp [results, Tryz.results303, go_sem]) rfl ?_
    exact ⟨rfl, rfl⟩
  · rw [if_pos rfl, if_neg (by simp)]
    go_enter Tryz.func303, Tryz.ntmps303
    go_wp2_with (first | (go_at_call 311; refine (hU _ (by first | exact .inl rfl | exact .inr rfl) _).mono ?_; rintro en w2 ⟨hen, rfl⟩; (first | rw [hUa] at hen | rw [hUb] at hen); subst hen))
    refine bodyPost_ret (v := .int .u64 (a : Int)) (by simp [results, Tryz.results303, go_sem]) rfl ?_
    exact ⟨rfl, rfl⟩
  · cases s <;> cases t
    · rw [if_pos rfl, if_neg (by simp)]
      go_enter Tryz.func303, Tryz.ntmps303
      go_wp2_with (first | (go_at_call 311; refine (hU _ (by first | exact .inl rfl | exact .inr rfl) _).mono ?_; rintro en w2 ⟨hen, rfl⟩; (first | rw [hUa] at hen | rw [hUb] at hen); subst hen))
      refine bodyPost_ret (v := .int .u64 (a : Int)) (by simp [results, Tryz.results303, go_sem]) rfl ?_
      exact ⟨rfl, rfl⟩
    · rw [if_pos rfl, if_pos (by simp)]
      go_enter Tryz.func303, Tryz.ntmps303
      go_wp2_with (first | (go_at_call 311; refine (hU _ (by first | exact .inl rfl | exact .inr rfl) _).mono ?_; rintro en w2 ⟨hen, rfl⟩; (first | rw [hUa] at hen | rw [hUb] at hen); subst hen) | (go_at_call 302; refine (hcan _).mono ?_; rintro en w2 ⟨rfl, rfl⟩))
      refine bodyPost_ret (v := .int .u64 (can : Int)) (by simp [results, Tryz.results303, go_sem]) rfl ?_
      exact ⟨rfl, rfl⟩
    · rw [if_pos rfl, if_pos (by simp)]
      go_enter Tryz.func303, Tryz.ntmps303
      go_wp2_with (first | (go_at_call 311; refine (hU _ (by first | exact .inl rfl | exact .inr rfl) _).mono ?_; rintro en w2 ⟨hen, rfl⟩; (first | rw [hUa] at hen | rw [hUb] at hen); subst hen) | (go_at_call 302; refine (hcan _).mono ?_; rintro en w2 ⟨rfl, rfl⟩))
      refine bodyPost_ret (v := .int .u64 (can : Int)) (by simp [results, Tryz.results303, go_sem]) rfl ?_
      exact ⟨rfl, rfl⟩
    · rw [if_pos rfl, if_neg (by simp)]
      go_enter Tryz.func303, Tryz.ntmps303
      go_wp2_with (first | (go_at_call 311; refine (hU _ (by first | exact .inl rfl | exact .inr rfl) _).mono ?_; rintro en w2 ⟨hen, rfl⟩; (first | rw [hUa] at hen | rw [hUb] at hen); subst hen))
      refine bodyPost_ret (v := .int .u64 (a : Int)) (by simp [results, Tryz.results303, go_sem]) rfl ?_
      exact ⟨rfl, rfl⟩
end Go.Proofs.Qxb6500275aGreatDoor
