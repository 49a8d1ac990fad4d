import Derived.Test.Qxb6500275aGreatDoorNqk
set_option maxRecDepth 100000
set_option linter.unusedVariables false
set_option linter.unusedSimpArgs false
namespace Go.Proofs.Qxb6500275aGreatDoor
open Go Go.RowKit
theorem div_step {X B Q R M2 : Nat} (hB : B = 2 * M2) (h0 : 0 < M2) (hQ : Q = X / B) (hR : R = X % B) :
    (M2 ≤ R → X * 2 / B = 2 * Q + 1 ∧ X * 2 % B = 2 * (R - M2)) ∧ (R < M2 → X * 2 / B = 2 * Q ∧ X * 2 % B = 2 * R) ∧ R < B := by
  have hBp : 0 < B := by omega
  have hdm := Nat.div_add_mod X B
  have hlt := Nat.mod_lt X hBp
  rw [← hQ, ← hR] at hdm
  rw [← hR] at hlt
  have e1 : B * (2 * Q) = 2 * (B * Q) := by rw [Nat.mul_left_comm]
  have e2 : B * (2 * Q + 1) = 2 * (B * Q) + B := by rw [Nat.mul_add, e1, Nat.mul_one]
  refine ⟨fun h => ?_, fun h => ?_, hlt⟩
  · have : X * 2 = B * (2 * Q + 1) + 2 * (R - M2) := by omega
    rw [this, Nat.mul_add_div hBp, Nat.mul_add_mod, Nat.div_eq_of_lt (by omega), Nat.mod_eq_of_lt (by omega)]
    exact ⟨rfl, rfl⟩
  · have : X * 2 = B * (2 * Q) + 2 * R := by omega
    rw [this, Nat.mul_add_div hBp, Nat.mul_add_mod, Nat.div_eq_of_lt (by omega), Nat.mod_eq_of_lt (by omega)]
    exact ⟨rfl, rfl⟩
set_option maxHeartbeats 4000000 in
theorem div_core {F : Ieee.Format} {bi : Nat} {f : Int} (a b : Nat) (ha2 : a < 18446744073709551616) (hb2 : b < 18446744073709551616) (s t : Bool) (m n : Nat) (i j : Int) (hm64 : m < 18446744073709551616) (hn64 : n < 18446744073709551616) (he1 : -3000 ≤ i) (he2 : i ≤ 3000) (hf1 : -3000 ≤ j) (hf2 : j ≤ 3000)
  (HR : Hid (∀ (neg st : Bool) (m : Nat) (e : Int), m ≠ 0 → m < 18446744073709551616 → -30000 ≤ e ∧ e ≤ 30000 → ∀ w, Calls Tryz.prog 313 #[.int .i64 f, .bool neg, .int .u64 m, .int .i64 e, .bool st] w (Pq w (.int .u64 ((softRound F bi neg m e st : Nat) : Int)))))
  (U : Nat → Value) (hU : ∀ v : Nat, v = a ∨ v = b → ∀ w, Calls Tryz.prog 311 #[.int .i64 f, .int .u64 v] w (Pq w (U v)))
  (hUa : U a = .tuple #[.bool s, .int .i64 1, .int .u64 m, .int .i64 i])
  (hUb : U b = .tuple #[.bool t, .int .i64 1, .int .u64 n, .int .i64 j])
  (L : Nat → Int → Value) (hL : ∀ (x : Nat) (y : Int), (x = m ∧ y = i) ∨ (x = n ∧ y = j) → ∀ w, Calls Tryz.prog 312 #[.int .u64 x, .int .i64 y, .int .i64 62] w (Pq w (L x y)))
  (M1 M2 : Nat) (E1 E2 : Int) (hLa : L m i = .tuple #[.int .u64 M1, .int .i64 E1]) (hLb : L n j = .tuple #[.int .u64 M2, .int .i64 E2])
  (b1 : 4611686018427387904 ≤ M1 ∧ M1 < 9223372036854775808) (b2 : 4611686018427387904 ≤ M2 ∧ M2 < 9223372036854775808) (g1 : -3100 ≤ E1 ∧ E1 ≤ 3000) (g2 : -3100 ≤ E2 ∧ E2 ≤ 3000)
  (w : World) : Calls Tryz.prog 305 #[.int .i64 f, .int .u64 a, .int .u64 b] w (Pq w (.int .u64 ((softRound F bi (s ^^ t) (M1 * 9223372036854775808 / M2) (E1 - E2 - 63) (decide (M1 * 9223372036854775808 % M2 ≠ 0)) : Nat) : Int))) := by
  have HQ : Hid (M1 * 2 ^ 64 / (2 * M2) = M1 * 9223372036854775808 / M2 ∧ M1 * 2 ^ 64 % (2 * M2) = 2 * (M1 * 9223372036854775808 % M2)) := by
    have e : M1 * 2 ^ 64 = 2 * (M1 * 9223372036854775808) := by omega
    have h2 : 0 < M2 := by omega
    rw [e]
    exact ⟨Nat.mul_div_mul_left _ _ (by decide), Nat.mul_mod_mul_left _ _ _⟩
  have HB : Hid (∀ k, k ≤ 64 → M1 * 2 ^ k / (2 * M2) < 2 ^ k) := fun k hk => by
    rw [Nat.div_lt_iff_lt_mul (by omega), Nat.mul_comm]
    exact Nat.mul_lt_mul_of_pos_left (by omega) (Nat.two_pow_pos k)
  have HN : Hid (M1 * 9223372036854775808 / M2 ≠ 0 ∧ M1 * 9223372036854775808 / M2 < 18446744073709551616) := by
    have h1 : 1 ≤ M1 * 9223372036854775808 / M2 := (Nat.le_div_iff_mul_le (by omega)).2 (by omega)
    have h2 : M1 * 9223372036854775808 / M2 < 18446744073709551616 := (Nat.div_lt_iff_lt_mul (by omega)).2 (by omega)
    exact ⟨by omega, h2⟩
  obtain ⟨Z, HZ⟩ : ∃ Z : Nat, Hid (Z = softRound F bi (s ^^ t) (M1 * 9223372036854775808 / M2) (E1 - E2 - 63) (decide (M1 * 9223372036854775808 % M2 ≠ 0))) := ⟨_, rfl⟩
  rw [← HZ.out]
  go_enter Tryz.func305, Tryz.ntmps305
  go_wp2_with (first | (go_at_call 311; refine (hU _ (by first | exact .inl rfl | exact .inr rfl) _).mono ?_; rintro en w2 ⟨hen, rfl⟩; (first | rw [hUa] at hen | rw [hUb] at hen); subst hen) | (go_at_call 312; refine (hL _ _ (by first | exact .inl ⟨rfl, rfl⟩ | exact .inr ⟨rfl, rfl⟩) _).mono ?_; rintro en w2 ⟨hen, rfl⟩; (first | rw [hLa] at hen | rw [hLb] at hen); subst hen))
  go_loopw [16, 17, 18] (fun qq rr ii u => ∃ (k Q R : Nat), k ≤ 64 ∧ ii = .int .i64 k ∧ qq = .int .u64 Q ∧ rr = .int .u64 R ∧ u = w2 ∧ Hid (Q = M1 * 2 ^ k / (2 * M2)) ∧ Hid (R = M1 * 2 ^ k % (2 * M2))) (fun _ _ ii _ => (64 - intOf ii).toNat)
  case atStart =>
    refine ⟨0, 0, M1, by omega, rfl, rfl, rfl, by first | rfl | assumption, ?_, ?_⟩
    · show _ = _
      rw [Nat.pow_zero, Nat.mul_one, Nat.div_eq_of_lt (by omega)]
    · show _ = _
      rw [Nat.pow_zero, Nat.mul_one, Nat.mod_eq_of_lt (by omega)]
  case round =>
    obtain ⟨k, Q, R, hk, rfl, rfl, rfl, rfl, HQk, HRk⟩ := hrel
    obtain ⟨st1, st2, hRB⟩ := div_step (M2 := M2) rfl (by omega) HQk.out HRk.out
    have hQb : Q < 2 ^ k := by have := HB.out k hk; rw [HQk.out]; exact this
    by_cases hlt : k < 64
    · have hQ63 : Q < 9223372036854775808 := Nat.lt_of_lt_of_le hQb (Nat.pow_le_pow_right (by decide) (show k ≤ 63 by omega))
      clear hQb
      have hki : (k : Int) < 64 := by omega
      by_cases hge : M2 ≤ R
      · have hs := st1 hge
        have H1 : Hid (2 * Q + 1 = M1 * 2 ^ (k + 1) / (2 * M2)) := by show _ = _; rw [Nat.pow_succ, ← Nat.mul_assoc]; exact hs.1.symm
        have H2 : Hid (2 * (R - M2) = M1 * 2 ^ (k + 1) % (2 * M2)) := by show _ = _; rw [Nat.pow_succ, ← Nat.mul_assoc]; exact hs.2.symm
        have hgi : (M2 : Int) ≤ (R : Int) := by omega
        clear hs st1 st2
        go_wp2_with fail
        go_roundw
        case rel =>
          refine ⟨k + 1, 2 * Q + 1, 2 * (R - M2), by omega, ?_, ?_, ?_, by trivial, H1, H2⟩
          · first | rfl | (congr 1; done) | (congr 1; omega)
          · first | rfl | (congr 1; done) | (congr 1; omega)
          · first | rfl | (congr 1; done) | (congr 1; omega)
        case measure => simp [intOf]; omega
      · have hs := st2 (by omega)
        have H1 : Hid (2 * Q = M1 * 2 ^ (k + 1) / (2 * M2)) := by show _ = _; rw [Nat.pow_succ, ← Nat.mul_assoc]; exact hs.1.symm
        have H2 : Hid (2 * R = M1 * 2 ^ (k + 1) % (2 * M2)) := by show _ = _; rw [Nat.pow_succ, ← Nat.mul_assoc]; exact hs.2.symm
        have hgi : ¬ (M2 : Int) ≤ (R : Int) := by omega
        have hgd : decide ((M2 : Int) ≤ (R : Int)) = false := decide_eq_false hgi
        clear hs st1 st2
        go_wp2_with fail
        go_roundw
        case rel =>
          refine ⟨k + 1, 2 * Q, 2 * R, by omega, ?_, ?_, ?_, by trivial, H1, H2⟩
          · first | rfl | (congr 1; done) | (congr 1; omega)
          · first | rfl | (congr 1; done) | (congr 1; omega)
          · first | rfl | (congr 1; done) | (congr 1; omega)
        case measure => simp [intOf]; omega
    · have hk64 : k = 64 := by omega
      subst hk64
      clear st1 st2 hQb
      have hq := HQ.out
      rw [← HQk.out, ← HRk.out] at hq
      have hz := HZ.out
      have hn := HN.out
      rw [← hq.1] at hz hn
      by_cases hr0 : R = 0
      · subst hr0
        rw [show decide (M1 * 9223372036854775808 % M2 ≠ 0) = false from decide_eq_false (by omega)] at hz
        have hro := fun w => HR.out (s ^^ t) false Q (E1 - E2 - 63) hn.1 hn.2 (by omega) w
        rw [← hz] at hro
        clear hz hq HZ HQ HB HN
        go_wp2_with (first | (go_at_call 313; refine (hro _).mono ?_; rintro en w2 ⟨rfl, rfl⟩))
        refine bodyPost_ret (v := .int .u64 (Z : Int)) (by simp [results, Tryz.results305, go_sem]) rfl ?_
        exact ⟨rfl, rfl⟩
      · rw [show decide (M1 * 9223372036854775808 % M2 ≠ 0) = true from decide_eq_true (by omega)] at hz
        have hro := fun w => HR.out (s ^^ t) true Q (E1 - E2 - 63) hn.1 hn.2 (by omega) w
        rw [← hz] at hro
        have z0 : ((R : Int) == 0) = false := by rw [beq_eq_false_iff_ne]; omega
        have z1 : ((R : Int) != 0) = true := by rw [bne_iff_ne]; omega
        have z2 : (!((R : Int) == 0)) = true := by rw [z0]; rfl
        clear hz hq HZ HQ HB HN
        go_wp2_with (first | (go_at_call 313; refine (hro _).mono ?_; rintro en w2 ⟨rfl, rfl⟩))
        refine bodyPost_ret (v := .int .u64 (Z : Int)) (by simp [results, Tryz.results305, go_sem]) rfl ?_
        exact ⟨rfl, rfl⟩
set_option maxHeartbeats 4000000 in
theorem div_gen {F : Ieee.Format} {bi can : Nat} {f : Int} (h : NF F bi can f) (a b : Nat) (ha : a < 2 * F.signWeight) (hb : b < 2 * F.signWeight) (na : (unpS F bi a).2.1 ≠ 3) (nb : (unpS F bi b).2.1 ≠ 3) (w : World) : Calls Tryz.prog 305 #[.int .i64 f, .int .u64 a, .int .u64 b] w (Pq w (.int .u64 ((softDiv F bi can a b : Nat) : Int))) := by
  obtain ⟨U, HU⟩ : ∃ U : Nat → Value, U = fun v => unpV (unpS F bi v) := ⟨_, rfl⟩
  have hU : ∀ v : Nat, v = a ∨ v = b → ∀ w, Calls Tryz.prog 311 #[.int .i64 f, .int .u64 v] w (Pq w (U v)) := fun v hv w => by
    rw [HU]
    exact h.unp v (by rcases hv with rfl | rfl; exact ha; exact hb) w
  have hUa : U a = unpV (unpS F bi a) := by rw [HU]
  have hUb : U b = unpV (unpS F bi b) := by rw [HU]
  clear HU
  have hcan := h.can
  have hinf := h.inf
  have hsgn := h.sgn
  have HR : Hid (∀ (neg st : Bool) (m : Nat) (e : Int), m ≠ 0 → m < 18446744073709551616 → -30000 ≤ e ∧ e ≤ 30000 → ∀ w, Calls Tryz.prog 313 #[.int .i64 f, .bool neg, .int .u64 m, .int .i64 e, .bool st] w (Pq w (.int .u64 ((softRound F bi neg m e st : Nat) : Int)))) := h.rnd
  obtain ⟨k3, hm0, hm64, he1, he2⟩ := unpS_rng (v := a) h.fmt h.b3
  obtain ⟨l3, hn0, hn64, hf1, hf2⟩ := unpS_rng (v := b) h.fmt h.b3
  have hsw := h.sw
  have ha2 : a < 18446744073709551616 := by omega
  have hb2 : b < 18446744073709551616 := by omega
  have hM53 : ((unpS F bi a).2.2.1 < 4611686018427387904) ∧ ((unpS F bi b).2.2.1 < 4611686018427387904) := ⟨unpS_53 h.fmt, unpS_53 h.fmt⟩
  clear h ha hb hsw
  unfold softDiv
  dsimp only
  generalize unpS F bi a = x at *
  generalize unpS F bi b = y at *
  obtain ⟨s, k, m, i⟩ := x
  obtain ⟨t, l, n, j⟩ := y
  unfold unpV at hUa hUb
  dsimp only at k3 hm0 hm64 he1 he2 l3 hn0 hn64 hf1 hf2 na nb hUa hUb hM53 ⊢
  rcases (by omega : k = 0 ∨ k = 1 ∨ k = 2) with rfl | rfl | rfl <;> rcases (by omega : l = 0 ∨ l = 1 ∨ l = 2) with rfl | rfl | rfl
  · rw [if_neg (by decide), if_neg (by decide), if_pos rfl, if_pos rfl]
    go_enter Tryz.func305, Tryz.ntmps305
    go_wp2_with (first | (go_at_call 311; refine (hU _ (by first | exact .inl rfl | exact .inr rfl) _).mono ?_; rintro en w2 ⟨hen, rfl⟩; (first | rw [hUa] at hen | rw [hUb] at hen); subst hen) | (go_at_call 302; refine (hcan _).mono ?_; rintro en w2 ⟨rfl, rfl⟩))
    refine bodyPost_ret (v := .int .u64 (can : Int)) (by simp [results, Tryz.results305, go_sem]) rfl ?_
    exact ⟨rfl, rfl⟩
  · rw [if_neg (by decide), if_neg (by decide), if_neg (by decide), if_pos rfl]
    replace hsgn := hsgn (s ^^ t)
    generalize F.word (s ^^ t) 0 = R at hsgn ⊢
    go_enter Tryz.func305, Tryz.ntmps305
    go_wp2_with (first | (go_at_call 311; refine (hU _ (by first | exact .inl rfl | exact .inr rfl) _).mono ?_; rintro en w2 ⟨hen, rfl⟩; (first | rw [hUa] at hen | rw [hUb] at hen); subst hen) | (go_at_call 316; refine (hsgn _).mono ?_; rintro en w2 ⟨rfl, rfl⟩))
    refine bodyPost_ret (v := .int .u64 (R : Int)) (by simp [results, Tryz.results305, go_sem]) rfl ?_
    exact ⟨rfl, rfl⟩
  · rw [if_neg (by decide), if_pos rfl]
    replace hsgn := hsgn (s ^^ t)
    generalize F.word (s ^^ t) 0 = R at hsgn ⊢
    go_enter Tryz.func305, Tryz.ntmps305
    go_wp2_with (first | (go_at_call 311; refine (hU _ (by first | exact .inl rfl | exact .inr rfl) _).mono ?_; rintro en w2 ⟨hen, rfl⟩; (first | rw [hUa] at hen | rw [hUb] at hen); subst hen) | (go_at_call 316; refine (hsgn _).mono ?_; rintro en w2 ⟨rfl, rfl⟩))
    refine bodyPost_ret (v := .int .u64 (R : Int)) (by simp [results, Tryz.results305, go_sem]) rfl ?_
    exact ⟨rfl, rfl⟩
  · rw [if_neg (by decide), if_neg (by decide), if_pos rfl, if_neg (by decide)]
    replace hinf := hinf (s ^^ t)
    generalize F.word (s ^^ t) F.infRung = R at hinf ⊢
    go_enter Tryz.func305, Tryz.ntmps305
    go_wp2_with (first | (go_at_call 311; refine (hU _ (by first | exact .inl rfl | exact .inr rfl) _).mono ?_; rintro en w2 ⟨hen, rfl⟩; (first | rw [hUa] at hen | rw [hUb] at hen); subst hen) | (go_at_call 317; refine (hinf _).mono ?_; rintro en w2 ⟨rfl, rfl⟩))
    refine bodyPost_ret (v := .int .u64 (R : Int)) (by simp [results, Tryz.results305, go_sem]) rfl ?_
    exact ⟨rfl, rfl⟩
  · rw [if_neg (by decide), if_neg (by decide), if_neg (by decide), if_neg (by decide)]
    have hl1 : m.log2 ≤ 62 := by
      have hm53 := hM53.1
      have := (Nat.log2_lt (hm0 rfl)).2 (show m < 2 ^ 63 by omega)
      omega
    have hl2 : n.log2 ≤ 62 := by
      have hm53 := hM53.2
      have := (Nat.log2_lt (hn0 rfl)).2 (show n < 2 ^ 63 by omega)
      omega
    clear hinf hsgn hcan
    obtain ⟨L, HL⟩ : ∃ L : Nat → Int → Value, L = fun x y => .tuple #[.int .u64 (liftM x 62), .int .i64 (liftE x y 62)] := ⟨_, rfl⟩
    have hL : ∀ (x : Nat) (y : Int), (x = m ∧ y = i) ∨ (x = n ∧ y = j) → ∀ w, Calls Tryz.prog 312 #[.int .u64 x, .int .i64 y, .int .i64 62] w (Pq w (L x y)) := fun x y hxy w => by
      rw [HL]
      rcases hxy with ⟨rfl, rfl⟩ | ⟨rfl, rfl⟩
      · exact lift_62 x y (hm0 rfl) hl1 (by omega) w
      · exact lift_62 x y (hn0 rfl) hl2 (by omega) w
    have hLa : L m i = .tuple #[.int .u64 (liftM m 62), .int .i64 (liftE m i 62)] := by rw [HL]
    have hLb : L n j = .tuple #[.int .u64 (liftM n 62), .int .i64 (liftE n j 62)] := by rw [HL]
    clear HL
    have b1 := liftM_bd (at_ := 62) (hm0 rfl) hl1
    have b2 := liftM_bd (at_ := 62) (hn0 rfl) hl2
    have e1 : i - 62 ≤ liftE m i 62 ∧ liftE m i 62 ≤ i := by unfold liftE; omega
    have e2 : j - 62 ≤ liftE n j 62 ∧ liftE n j 62 ≤ j := by unfold liftE; omega
    generalize liftM m 62 = M1 at *
    generalize liftM n 62 = M2 at *
    generalize liftE m i 62 = E1 at *
    generalize liftE n j 62 = E2 at *
    exact div_core a b ha2 hb2 s t m n i j hm64 hn64 he1 he2 hf1 hf2 HR U hU hUa hUb L hL M1 M2 E1 E2 hLa hLb b1 b2 (by omega) (by omega) w
  · rw [if_neg (by decide), if_pos rfl]
    replace hsgn := hsgn (s ^^ t)
    generalize F.word (s ^^ t) 0 = R at hsgn ⊢
    go_enter Tryz.func305, Tryz.ntmps305
    go_wp2_with (first | (go_at_call 311; refine (hU _ (by first | exact .inl rfl | exact .inr rfl) _).mono ?_; rintro en w2 ⟨hen, rfl⟩; (first | rw [hUa] at hen | rw [hUb] at hen); subst hen) | (go_at_call 316; refine (hsgn _).mono ?_; rintro en w2 ⟨rfl, rfl⟩))
    refine bodyPost_ret (v := .int .u64 (R : Int)) (by simp [results, Tryz.results305, go_sem]) rfl ?_
    exact ⟨rfl, rfl⟩
  · rw [if_pos rfl, if_neg (by decide)]
    replace hinf := hinf (s ^^ t)
    generalize F.word (s ^^ t) F.infRung = R at hinf ⊢
    go_enter Tryz.func305, Tryz.ntmps305
    go_wp2_with (first | (go_at_call 311; refine (hU _ (by first | exact .inl rfl | exact .inr rfl) _).mono ?_; rintro en w2 ⟨hen, rfl⟩; (first | rw [hUa] at hen | rw [hUb] at hen); subst hen) | (go_at_call 317; refine (hinf _).mono ?_; rintro en w2 ⟨rfl, rfl⟩))
    refine bodyPost_ret (v := .int .u64 (R : Int)) (by simp [results, Tryz.results305, go_sem]) rfl ?_
    exact ⟨rfl, rfl⟩
  · rw [if_pos rfl, if_neg (by decide)]
    replace hinf := hinf (s ^^ t)
    generalize F.word (s ^^ t) F.infRung = R at hinf ⊢
    go_enter Tryz.func305, Tryz.ntmps305
    go_wp2_with (first | (go_at_call 311; refine (hU _ (by first | exact .inl rfl | exact .inr rfl) _).mono ?_; rintro en w2 ⟨hen, rfl⟩; (first | rw [hUa] at hen | rw [hUb] at hen); subst hen) | (go_at_call 317; refine (hinf _).mono ?_; rintro en w2 ⟨rfl, rfl⟩))
    refine bodyPost_ret (v := .int .u64 (R : Int)) (by simp [results, Tryz.results305, go_sem]) rfl ?_
    exact ⟨rfl, rfl⟩
  · rw [if_pos rfl, if_pos rfl]
    go_enter Tryz.func305, Tryz.ntmps305
    go_wp2_with (first | (go_at_call 311; refine (hU _ (by first | exact .inl rfl | exact .inr rfl) _).mono ?_; rintro en w2 ⟨hen, rfl⟩; (first | rw [hUa] at hen | rw [hUb] at hen); subst hen) | (go_at_call 302; refine (hcan _).mono ?_; rintro en w2 ⟨rfl, rfl⟩))
    refine bodyPost_ret (v := .int .u64 (can : Int)) (by simp [results, Tryz.results305, go_sem]) rfl ?_
    exact ⟨rfl, rfl⟩
end Go.Proofs.Qxb6500275aGreatDoor
