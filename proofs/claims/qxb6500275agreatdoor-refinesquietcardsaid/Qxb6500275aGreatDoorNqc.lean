import Derived.Test.Qxb6500275aGreatDoorNqb
set_option maxRecDepth 100000
set_option linter.unusedVariables false
set_option linter.unusedSimpArgs false
namespace Go.Proofs.Qxb6500275aGreatDoor
open Go Go.RowKit
/- a float of one format as one of the other -/
def softRef (F : Ieee.Format) (bi : Nat) (G : Ieee.Format) (bj can a : Nat) : Nat :=
  let x := unpS F bi a
  if x.2.1 = 3 then can else if x.2.1 = 2 then G.word x.1 G.infRung else if x.2.1 = 0 then G.word x.1 0 else softRound G bj x.1 x.2.2.1 x.2.2.2 false
theorem unpS_rng {F : Ieee.Format} {bi v : Nat} (hF : Fmt F bi) (hb : bi ≤ 1023) : (unpS F bi v).2.1 ≤ 3 ∧ ((unpS F bi v).2.1 = 1 → (unpS F bi v).2.2.1 ≠ 0) ∧ (unpS F bi v).2.2.1 < 18446744073709551616 ∧ -3000 ≤ (unpS F bi v).2.2.2 ∧ (unpS F bi v).2.2.2 ≤ 3000 := by
  have hfl := Fmt.fr_lt F v
  have hel := hF.ex_lt v
  have hfb := hF.fb
  have hP : 2 ^ F.fractionBits ≤ 2 ^ 52 := Nat.pow_le_pow_right (by decide) hfb.2
  have hP0 : 0 < 2 ^ F.fractionBits := Nat.two_pow_pos _
  unfold unpS
  by_cases h1 : exB F v = 2 * bi + 1
  · rw [if_pos h1]
    by_cases h2 : frB F v = 0
    · rw [if_pos h2]; exact ⟨by simp, by simp, by simp, by simp, by simp⟩
    · rw [if_neg h2]; exact ⟨by simp, by simp, by simp, by simp, by simp⟩
  · rw [if_neg h1]
    by_cases h0 : exB F v = 0
    · rw [if_pos h0]
      by_cases h2 : frB F v = 0
      · rw [if_pos h2]; exact ⟨by simp, by simp, by simp, by simp, by simp⟩
      · rw [if_neg h2]; exact ⟨by simp, fun _ => h2, by dsimp only; omega, by dsimp only; omega, by dsimp only; omega⟩
    · rw [if_neg h0]
      exact ⟨by simp, fun _ => by dsimp only; omega, by dsimp only; omega, by dsimp only; omega, by dsimp only; omega⟩
set_option maxHeartbeats 2000000 in
theorem reformat_64_32 (a : Nat) (ha : a < 18446744073709551616) (w : World) : Calls Tryz.prog 308 #[.int .i64 64, .int .i64 32, .int .u64 a] w (Pq w (.int .u64 ((softRef Ieee.double 1023 Ieee.single 127 2143289344 a : Nat) : Int))) := by
  have hu := fun w => unpack_64 a ha w
  obtain ⟨k3, hm0, hm64, he1, he2⟩ := unpS_rng (v := a) fmt_double (by decide)
  unfold softRef
  dsimp only
  generalize unpS Ieee.double 1023 a = x at *
  obtain ⟨s, k, m, i⟩ := x
  unfold unpV at hu
  dsimp only at k3 hm0 hm64 he1 he2 hu ⊢
  have hinf : Ieee.single.infRung = 2139095040 := by decide
  rcases (by omega : k = 3 ∨ k = 2 ∨ k = 0 ∨ k = 1) with rfl | rfl | rfl | rfl
  · rw [if_pos rfl]
    go_enter Tryz.func308, Tryz.ntmps308
    go_wp2_with (first | (go_at_call 311; refine (hu _).mono ?_; rintro en w2 ⟨rfl, rfl⟩) | (go_at_call 302; refine (canon_32 _).mono ?_; rintro en w2 ⟨rfl, rfl⟩))
    refine bodyPost_ret (v := .int .u64 2143289344) (by simp [results, Tryz.results308, go_sem]) rfl ?_
    exact ⟨u64_eqa (by omega), rfl⟩
  · rw [if_neg (by decide), if_pos rfl, word_32, hinf]
    cases s
    · simp only [Bool.false_eq_true, if_false]
      go_enter Tryz.func308, Tryz.ntmps308
      go_wp2_with (first | (go_at_call 311; refine (hu _).mono ?_; rintro en w2 ⟨rfl, rfl⟩) | (go_at_call 317; refine (infinity_32_false _).mono ?_; rintro en w2 ⟨rfl, rfl⟩))
      refine bodyPost_ret (v := .int .u64 2139095040) (by simp [results, Tryz.results308, go_sem]) rfl ?_
      exact ⟨u64_eqa (by omega), rfl⟩
    · simp only [if_true]
      go_enter Tryz.func308, Tryz.ntmps308
      go_wp2_with (first | (go_at_call 311; refine (hu _).mono ?_; rintro en w2 ⟨rfl, rfl⟩) | (go_at_call 317; refine (infinity_32_true _).mono ?_; rintro en w2 ⟨rfl, rfl⟩))
      refine bodyPost_ret (v := .int .u64 4286578688) (by simp [results, Tryz.results308, go_sem]) rfl ?_
      exact ⟨u64_eqa (by omega), rfl⟩
  · rw [if_neg (by decide), if_neg (by decide), if_pos rfl, word_32]
    cases s
    · simp only [Bool.false_eq_true, if_false]
      go_enter Tryz.func308, Tryz.ntmps308
      go_wp2_with (first | (go_at_call 311; refine (hu _).mono ?_; rintro en w2 ⟨rfl, rfl⟩) | (go_at_call 316; refine (sign_32_false _).mono ?_; rintro en w2 ⟨rfl, rfl⟩))
      refine bodyPost_ret (v := .int .u64 0) (by simp [results, Tryz.results308, go_sem]) rfl ?_
      exact ⟨u64_eqa (by omega), rfl⟩
    · simp only [if_true]
      go_enter Tryz.func308, Tryz.ntmps308
      go_wp2_with (first | (go_at_call 311; refine (hu _).mono ?_; rintro en w2 ⟨rfl, rfl⟩) | (go_at_call 316; refine (sign_32_true _).mono ?_; rintro en w2 ⟨rfl, rfl⟩))
      refine bodyPost_ret (v := .int .u64 2147483648) (by simp [results, Tryz.results308, go_sem]) rfl ?_
      exact ⟨u64_eqa (by omega), rfl⟩
  · rw [if_neg (by decide), if_neg (by decide), if_neg (by decide)]
    have hro := fun w => round_32 s false m i (hm0 rfl) hm64 (by omega) w
    generalize softRound Ieee.single 127 s m i false = R at hro ⊢
    go_enter Tryz.func308, Tryz.ntmps308
    go_wp2_with (first | (go_at_call 311; refine (hu _).mono ?_; rintro en w2 ⟨rfl, rfl⟩) | (go_at_call 313; refine (hro _).mono ?_; rintro en w2 ⟨rfl, rfl⟩))
    refine bodyPost_ret (v := .int .u64 (R : Int)) (by simp [results, Tryz.results308, go_sem]) rfl ?_
    exact ⟨u64_eqa (by omega), rfl⟩
set_option maxHeartbeats 2000000 in
theorem reformat_32_64 (a : Nat) (ha : a < 4294967296) (w : World) : Calls Tryz.prog 308 #[.int .i64 32, .int .i64 64, .int .u64 a] w (Pq w (.int .u64 ((softRef Ieee.single 127 Ieee.double 1023 9221120237041090560 a : Nat) : Int))) := by
  have hu := fun w => unpack_32 a ha w
  obtain ⟨k3, hm0, hm64, he1, he2⟩ := unpS_rng (v := a) fmt_single (by decide)
  unfold softRef
  dsimp only
  generalize unpS Ieee.single 127 a = x at *
  obtain ⟨s, k, m, i⟩ := x
  unfold unpV at hu
  dsimp only at k3 hm0 hm64 he1 he2 hu ⊢
  have hinf : Ieee.double.infRung = 9218868437227405312 := by decide
  rcases (by omega : k = 3 ∨ k = 2 ∨ k = 0 ∨ k = 1) with rfl | rfl | rfl | rfl
  · rw [if_pos rfl]
    go_enter Tryz.func308, Tryz.ntmps308
    go_wp2_with (first | (go_at_call 311; refine (hu _).mono ?_; rintro en w2 ⟨rfl, rfl⟩) | (go_at_call 302; refine (canon_64 _).mono ?_; rintro en w2 ⟨rfl, rfl⟩))
    refine bodyPost_ret (v := .int .u64 9221120237041090560) (by simp [results, Tryz.results308, go_sem]) rfl ?_
    exact ⟨u64_eqa (by omega), rfl⟩
  · rw [if_neg (by decide), if_pos rfl, word_64, hinf]
    cases s
    · simp only [Bool.false_eq_true, if_false]
      go_enter Tryz.func308, Tryz.ntmps308
      go_wp2_with (first | (go_at_call 311; refine (hu _).mono ?_; rintro en w2 ⟨rfl, rfl⟩) | (go_at_call 317; refine (infinity_64_false _).mono ?_; rintro en w2 ⟨rfl, rfl⟩))
      refine bodyPost_ret (v := .int .u64 9218868437227405312) (by simp [results, Tryz.results308, go_sem]) rfl ?_
      exact ⟨u64_eqa (by omega), rfl⟩
    · simp only [if_true]
      go_enter Tryz.func308, Tryz.ntmps308
      go_wp2_with (first | (go_at_call 311; refine (hu _).mono ?_; rintro en w2 ⟨rfl, rfl⟩) | (go_at_call 317; refine (infinity_64_true _).mono ?_; rintro en w2 ⟨rfl, rfl⟩))
      refine bodyPost_ret (v := .int .u64 18442240474082181120) (by simp [results, Tryz.results308, go_sem]) rfl ?_
      exact ⟨u64_eqa (by omega), rfl⟩
  · rw [if_neg (by decide), if_neg (by decide), if_pos rfl, word_64]
    cases s
    · simp only [Bool.false_eq_true, if_false]
      go_enter Tryz.func308, Tryz.ntmps308
      go_wp2_with (first | (go_at_call 311; refine (hu _).mono ?_; rintro en w2 ⟨rfl, rfl⟩) | (go_at_call 316; refine (sign_64_false _).mono ?_; rintro en w2 ⟨rfl, rfl⟩))
      refine bodyPost_ret (v := .int .u64 0) (by simp [results, Tryz.results308, go_sem]) rfl ?_
      exact ⟨u64_eqa (by omega), rfl⟩
    · simp only [if_true]
      go_enter Tryz.func308, Tryz.ntmps308
      go_wp2_with (first | (go_at_call 311; refine (hu _).mono ?_; rintro en w2 ⟨rfl, rfl⟩) | (go_at_call 316; refine (sign_64_true _).mono ?_; rintro en w2 ⟨rfl, rfl⟩))
      refine bodyPost_ret (v := .int .u64 9223372036854775808) (by simp [results, Tryz.results308, go_sem]) rfl ?_
      exact ⟨u64_eqa (by omega), rfl⟩
  · rw [if_neg (by decide), if_neg (by decide), if_neg (by decide)]
    have hro := fun w => round_64 s false m i (hm0 rfl) hm64 (by omega) w
    generalize softRound Ieee.double 1023 s m i false = R at hro ⊢
    go_enter Tryz.func308, Tryz.ntmps308
    go_wp2_with (first | (go_at_call 311; refine (hu _).mono ?_; rintro en w2 ⟨rfl, rfl⟩) | (go_at_call 313; refine (hro _).mono ?_; rintro en w2 ⟨rfl, rfl⟩))
    refine bodyPost_ret (v := .int .u64 (R : Int)) (by simp [results, Tryz.results308, go_sem]) rfl ?_
    exact ⟨u64_eqa (by omega), rfl⟩
end Go.Proofs.Qxb6500275aGreatDoor
