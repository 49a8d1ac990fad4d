import Derived.Test.Qxb6500275aGreatDoorNqf
set_option maxRecDepth 100000
set_option linter.unusedVariables false
set_option linter.unusedSimpArgs false
namespace Go.Proofs.Qxb6500275aGreatDoor
open Go Go.RowKit
set_option maxHeartbeats 4000000 in
theorem mul_gen {F : Ieee.Format} {bi can : Nat} {f : Int} (h : NF F bi can f) (a b : Nat) (ha : a < 2 * F.signWeight) (hb : b < 2 * F.signWeight) (na : (unpS F bi a).2.1 ≠ 3) (nb : (unpS F bi b).2.1 ≠ 3) (w : World) : Calls Tryz.prog 304 #[.int .i64 f, .int .u64 a, .int .u64 b] w (Pq w (.int .u64 ((softMul F bi can a b : Nat) : Int))) := by
  obtain ⟨U, HU⟩ : ∃ U : Nat → Value, U = fun v => unpV (unpS F bi v) := ⟨_, rfl⟩
  have hU : ∀ v : Nat, v = a ∨ v = b → ∀ w, Calls Tryz.prog 311 #[.int .i64 f, .int .u64 v] w (Pq w (U v)) := fun v hv w => by
    rw [HU]
    exact h.unp v (by rcases hv with rfl | rfl; exact ha; exact hb) w
  have hUa : U a = unpV (unpS F bi a) := by rw [HU]
  have hUb : U b = unpV (unpS F bi b) := by rw [HU]
  clear HU
  have hcan := h.can
  have hinf := h.inf
  have hsgn := h.sgn
  have HR : Hid (∀ (neg st : Bool) (m : Nat) (e : Int), m ≠ 0 → m < 18446744073709551616 → -30000 ≤ e ∧ e ≤ 30000 → ∀ w, Calls Tryz.prog 313 #[.int .i64 f, .bool neg, .int .u64 m, .int .i64 e, .bool st] w (Pq w (.int .u64 ((softRound F bi neg m e st : Nat) : Int)))) := h.rnd
  obtain ⟨k3, hm0, hm64, he1, he2⟩ := unpS_rng (v := a) h.fmt h.b3
  obtain ⟨l3, hn0, hn64, hf1, hf2⟩ := unpS_rng (v := b) h.fmt h.b3
  have hsw := h.sw
  have ha2 : a < 18446744073709551616 := by omega
  have hb2 : b < 18446744073709551616 := by omega
  clear h ha hb hsw
  unfold softMul
  dsimp only
  generalize unpS F bi a = x at *
  generalize unpS F bi b = y at *
  obtain ⟨s, k, m, i⟩ := x
  obtain ⟨t, l, n, j⟩ := y
  unfold unpV at hUa hUb
  dsimp only at k3 hm0 hm64 he1 he2 l3 hn0 hn64 hf1 hf2 na nb hUa hUb ⊢
  rcases (by omega : k = 0 ∨ k = 1 ∨ k = 2) with rfl | rfl | rfl <;> rcases (by omega : l = 0 ∨ l = 1 ∨ l = 2) with rfl | rfl | rfl
  · rw [if_neg (by decide), if_pos (by decide)]
    replace hsgn := hsgn (s ^^ t)
    generalize F.word (s ^^ t) 0 = R at hsgn ⊢
    go_enter Tryz.func304, Tryz.ntmps304
    go_wp2_with (first | (go_at_call 311; refine (hU _ (by first | exact .inl rfl | exact .inr rfl) _).mono ?_; rintro en w2 ⟨hen, rfl⟩; (first | rw [hUa] at hen | rw [hUb] at hen); subst hen) | (go_at_call 316; refine (hsgn _).mono ?_; rintro en w2 ⟨rfl, rfl⟩))
    refine bodyPost_ret (v := .int .u64 (R : Int)) (by simp [results, Tryz.results304, go_sem]) rfl ?_
    exact ⟨rfl, rfl⟩
  · rw [if_neg (by decide), if_pos (by decide)]
    replace hsgn := hsgn (s ^^ t)
    generalize F.word (s ^^ t) 0 = R at hsgn ⊢
    go_enter Tryz.func304, Tryz.ntmps304
    go_wp2_with (first | (go_at_call 311; refine (hU _ (by first | exact .inl rfl | exact .inr rfl) _).mono ?_; rintro en w2 ⟨hen, rfl⟩; (first | rw [hUa] at hen | rw [hUb] at hen); subst hen) | (go_at_call 316; refine (hsgn _).mono ?_; rintro en w2 ⟨rfl, rfl⟩))
    refine bodyPost_ret (v := .int .u64 (R : Int)) (by simp [results, Tryz.results304, go_sem]) rfl ?_
    exact ⟨rfl, rfl⟩
  · rw [if_pos (by decide), if_pos (by decide)]
    go_enter Tryz.func304, Tryz.ntmps304
    go_wp2_with (first | (go_at_call 311; refine (hU _ (by first | exact .inl rfl | exact .inr rfl) _).mono ?_; rintro en w2 ⟨hen, rfl⟩; (first | rw [hUa] at hen | rw [hUb] at hen); subst hen) | (go_at_call 302; refine (hcan _).mono ?_; rintro en w2 ⟨rfl, rfl⟩))
    refine bodyPost_ret (v := .int .u64 (can : Int)) (by simp [results, Tryz.results304, go_sem]) rfl ?_
    exact ⟨rfl, rfl⟩
  · rw [if_neg (by decide), if_pos (by decide)]
    replace hsgn := hsgn (s ^^ t)
    generalize F.word (s ^^ t) 0 = R at hsgn ⊢
    go_enter Tryz.func304, Tryz.ntmps304
    go_wp2_with (first | (go_at_call 311; refine (hU _ (by first | exact .inl rfl | exact .inr rfl) _).mono ?_; rintro en w2 ⟨hen, rfl⟩; (first | rw [hUa] at hen | rw [hUb] at hen); subst hen) | (go_at_call 316; refine (hsgn _).mono ?_; rintro en w2 ⟨rfl, rfl⟩))
    refine bodyPost_ret (v := .int .u64 (R : Int)) (by simp [results, Tryz.results304, go_sem]) rfl ?_
    exact ⟨rfl, rfl⟩
  · rw [if_neg (by decide), if_neg (by decide)]
    have hl1 : m.log2 ≤ 63 := by
      have := (Nat.log2_lt (hm0 rfl)).2 (show m < 2 ^ 64 from hm64)
      omega
    have hl2 : n.log2 ≤ 63 := by
      have := (Nat.log2_lt (hn0 rfl)).2 (show n < 2 ^ 64 from hn64)
      omega
    obtain ⟨L, HL⟩ : ∃ L : Nat → Int → Value, L = fun x y => .tuple #[.int .u64 (liftM x 63), .int .i64 (liftE x y 63)] := ⟨_, rfl⟩
    have hL : ∀ (x : Nat) (y : Int), (x = m ∧ y = i) ∨ (x = n ∧ y = j) → ∀ w, Calls Tryz.prog 312 #[.int .u64 x, .int .i64 y, .int .i64 63] w (Pq w (L x y)) := fun x y hxy w => by
      rw [HL]
      rcases hxy with ⟨rfl, rfl⟩ | ⟨rfl, rfl⟩
      · exact lift_63 x y (hm0 rfl) hl1 (by omega) w
      · exact lift_63 x y (hn0 rfl) hl2 (by omega) w
    have hLa : L m i = .tuple #[.int .u64 (liftM m 63), .int .i64 (liftE m i 63)] := by rw [HL]
    have hLb : L n j = .tuple #[.int .u64 (liftM n 63), .int .i64 (liftE n j 63)] := by rw [HL]
    clear HL
    have b1 := liftM_bd (at_ := 63) (hm0 rfl) hl1
    have b2 := liftM_bd (at_ := 63) (hn0 rfl) hl2
    have e1 : i - 63 ≤ liftE m i 63 ∧ liftE m i 63 ≤ i := by unfold liftE; omega
    have e2 : j - 63 ≤ liftE n j 63 ∧ liftE n j 63 ≤ j := by unfold liftE; omega
    generalize liftM m 63 = M1 at *
    generalize liftM n 63 = M2 at *
    generalize liftE m i 63 = E1 at *
    generalize liftE n j 63 = E2 at *
    have hmu := fun w => mul64_c M1 M2 b1.2 b2.2 w
    have c1 : 2 ^ 63 * 2 ^ 63 ≤ M1 * M2 := Nat.mul_le_mul b1.1 b2.1
    have c2 : M1 * M2 < 2 ^ 64 * 2 ^ 64 := Nat.mul_lt_mul'' b1.2 b2.2
    have hh1 : M1 * M2 / 18446744073709551616 ≠ 0 := by omega
    have hh2 : M1 * M2 / 18446744073709551616 < 18446744073709551616 := by omega
    have hlb2 : M1 * M2 % 18446744073709551616 < 18446744073709551616 := Nat.mod_lt _ (by decide)
    clear c1 c2
    generalize M1 * M2 / 18446744073709551616 = HI at *
    generalize M1 * M2 % 18446744073709551616 = LO at *
    have hro := fun st w => HR.out (s ^^ t) st HI (E1 + E2 + 64) hh1 hh2 (by omega) w
    clear hcan hinf hsgn hl1 hl2 hm0 hn0 b1 b2 hh1
    by_cases h0 : LO = 0
    · rw [show decide (LO ≠ 0) = false by simp [h0]]
      subst h0
      replace hro := hro false
      generalize softRound F bi (s ^^ t) HI (E1 + E2 + 64) false = R at hro ⊢
      go_enter Tryz.func304, Tryz.ntmps304
      go_wp2_with (first | (go_at_call 311; refine (hU _ (by first | exact .inl rfl | exact .inr rfl) _).mono ?_; rintro en w2 ⟨hen, rfl⟩; (first | rw [hUa] at hen | rw [hUb] at hen); subst hen) | (go_at_call 312; refine (hL _ _ (by first | exact .inl ⟨rfl, rfl⟩ | exact .inr ⟨rfl, rfl⟩) _).mono ?_; rintro en w2 ⟨hen, rfl⟩; (first | rw [hLa] at hen | rw [hLb] at hen); subst hen) | (go_at_call 318; refine (hmu _).mono ?_; rintro en w2 ⟨rfl, rfl⟩) | (go_at_call 313; refine (hro _).mono ?_; rintro en w2 ⟨rfl, rfl⟩))
      refine bodyPost_ret (v := .int .u64 (R : Int)) (by simp [results, Tryz.results304, go_sem]) rfl ?_
      exact ⟨rfl, rfl⟩
    · rw [show decide (LO ≠ 0) = true by simp [h0]]
      have z0 : ((LO : Int) == 0) = false := by rw [beq_eq_false_iff_ne]; omega
      have z1 : ((LO : Int) != 0) = true := by rw [bne_iff_ne]; omega
      have z2 : (!((LO : Int) == 0)) = true := by rw [z0]; rfl
      replace hro := hro true
      generalize softRound F bi (s ^^ t) HI (E1 + E2 + 64) true = R at hro ⊢
      go_enter Tryz.func304, Tryz.ntmps304
      go_wp2_with (first | (go_at_call 311; refine (hU _ (by first | exact .inl rfl | exact .inr rfl) _).mono ?_; rintro en w2 ⟨hen, rfl⟩; (first | rw [hUa] at hen | rw [hUb] at hen); subst hen) | (go_at_call 312; refine (hL _ _ (by first | exact .inl ⟨rfl, rfl⟩ | exact .inr ⟨rfl, rfl⟩) _).mono ?_; rintro en w2 ⟨hen, rfl⟩; (first | rw [hLa] at hen | rw [hLb] at hen); subst hen) | (go_at_call 318; refine (hmu _).mono ?_; rintro en w2 ⟨rfl, rfl⟩) | (go_at_call 313; refine (hro _).mono ?_; rintro en w2 ⟨rfl, rfl⟩))
      refine bodyPost_ret (v := .int .u64 (R : Int)) (by simp [results, Tryz.results304, go_sem]) rfl ?_
      exact ⟨rfl, rfl⟩
  · rw [if_pos (by decide), if_neg (by decide)]
    replace hinf := hinf (s ^^ t)
    generalize F.word (s ^^ t) F.infRung = R at hinf ⊢
    go_enter Tryz.func304, Tryz.ntmps304
    go_wp2_with (first | (go_at_call 311; refine (hU _ (by first | exact .inl rfl | exact .inr rfl) _).mono ?_; rintro en w2 ⟨hen, rfl⟩; (first | rw [hUa] at hen | rw [hUb] at hen); subst hen) | (go_at_call 317; refine (hinf _).mono ?_; rintro en w2 ⟨rfl, rfl⟩))
    refine bodyPost_ret (v := .int .u64 (R : Int)) (by simp [results, Tryz.results304, go_sem]) rfl ?_
    exact ⟨rfl, rfl⟩
  · rw [if_pos (by decide), if_pos (by decide)]
    go_enter Tryz.func304, Tryz.ntmps304
    go_wp2_with (first | (go_at_call 311; refine (hU _ (by first | exact .inl rfl | exact .inr rfl) _).mono ?_; rintro en w2 ⟨hen, rfl⟩; (first | rw [hUa] at hen | rw [hUb] at hen); subst hen) | (go_at_call 302; refine (hcan _).mono ?_; rintro en w2 ⟨rfl, rfl⟩))
    refine bodyPost_ret (v := .int .u64 (can : Int)) (by simp [results, Tryz.results304, go_sem]) rfl ?_
    exact ⟨rfl, rfl⟩
  · rw [if_pos (by decide), if_neg (by decide)]
    replace hinf := hinf (s ^^ t)
    generalize F.word (s ^^ t) F.infRung = R at hinf ⊢
    go_enter Tryz.func304, Tryz.ntmps304
    go_wp2_with (first | (go_at_call 311; refine (hU _ (by first | exact .inl rfl | exact .inr rfl) _).mono ?_; rintro en w2 ⟨hen, rfl⟩; (first | rw [hUa] at hen | rw [hUb] at hen); subst hen) | (go_at_call 317; refine (hinf _).mono ?_; rintro en w2 ⟨rfl, rfl⟩))
    refine bodyPost_ret (v := .int .u64 (R : Int)) (by simp [results, Tryz.results304, go_sem]) rfl ?_
    exact ⟨rfl, rfl⟩
  · rw [if_pos (by decide), if_neg (by decide)]
    replace hinf := hinf (s ^^ t)
    generalize F.word (s ^^ t) F.infRung = R at hinf ⊢
    go_enter Tryz.func304, Tryz.ntmps304
    go_wp2_with (first | (go_at_call 311; refine (hU _ (by first | exact .inl rfl | exact .inr rfl) _).mono ?_; rintro en w2 ⟨hen, rfl⟩; (first | rw [hUa] at hen | rw [hUb] at hen); subst hen) | (go_at_call 317; refine (hinf _).mono ?_; rintro en w2 ⟨rfl, rfl⟩))
    refine bodyPost_ret (v := .int .u64 (R : Int)) (by simp [results, Tryz.results304, go_sem]) rfl ?_
    exact ⟨rfl, rfl⟩
end Go.Proofs.Qxb6500275aGreatDoor
