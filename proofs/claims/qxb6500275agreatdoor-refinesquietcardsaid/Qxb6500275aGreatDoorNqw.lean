import Derived.Test.Qxb6500275aGreatDoorNp1
import Derived.Test.Qxb6500275aGreatDoorNqv
set_option maxRecDepth 100000
set_option linter.unusedVariables false
set_option linter.unusedSimpArgs false
namespace Go.Proofs.Qxb6500275aGreatDoor
open Go Go.RowKit
theorem unpS_fb {F : Ieee.Format} {bi v : Nat} (hF : Fmt F bi) : (unpS F bi v).2.2.1 < 2 ^ (F.fractionBits + 1) := by
  have hfl := Fmt.fr_lt F v
  rw [Nat.pow_succ]
  unfold unpS
  split
  · split <;> (dsimp only; omega)
  · split
    · split
      · dsimp only; omega
      · dsimp only; omega
    · dsimp only; omega
set_option maxHeartbeats 4000000 in
theorem toInt_32_32 (sg : Bool) (a : Nat) (ha : a < 4294967296) (w : World) : Calls Tryz.prog 306 #[.int .i64 32, .int .i64 32, .bool sg, .int .u64 a] w (Pq w (fitV (truncP Ieee.single 127 32 sg a))) := by
  have hsw : Ieee.single.signWeight = 2147483648 := by decide
  rw [← trunc_code fmt_single (by decide) (by decide) (by decide) sg (by rw [hsw]; exact ha)]
  have hU := fun w => unpack_32 a ha w
  obtain ⟨k3, hm0, hm64, he1, he2⟩ := unpS_rng (v := a) fmt_single (by decide)
  have hm53 : (unpS Ieee.single 127 a).2.2.1 < 16777216 := unpS_fb fmt_single
  have HF : Hid (∀ (neg : Bool) (m : Nat), m < 18446744073709551616 → ∀ w, Calls Tryz.prog 319 #[.int .i64 32, .bool sg, .bool neg, .int .u64 m] w (Pq w (fitV (fitS 32 sg neg m)))) := fun neg m hm w => fit_32 sg neg m hm w
  unfold truncC
  dsimp only
  rw [show Ieee.single.fractionBits = 23 from rfl]
  generalize unpS Ieee.single 127 a = x at *
  obtain ⟨s, k, m, i⟩ := x
  unfold unpV at hU
  dsimp only at k3 hm0 hm64 he1 he2 hm53 hU ⊢
  rcases (by omega : k = 0 ∨ k = 1 ∨ k = 2 ∨ k = 3) with rfl | rfl | rfl | rfl
  · rw [if_neg (by decide), if_neg (by decide), if_pos (.inl rfl)]
    go_enter Tryz.func306, Tryz.ntmps306
    go_wp2_with (first | (go_at_call 311; refine (hU _).mono ?_; rintro en w2 ⟨rfl, rfl⟩) | (go_at_call 314; refine (prec_32 _).mono ?_; rintro en w2 ⟨rfl, rfl⟩))
    refine bodyPost_ret (v := .tuple #[.int .u64 0, .int .i64 0]) (by simp [results, Tryz.results306, go_sem]) rfl ?_
    exact ⟨rfl, rfl⟩
  · rw [if_neg (by decide), if_neg (by decide)]
    by_cases c1 : i ≤ -64
    · rw [if_pos (.inr c1)]
      go_enter Tryz.func306, Tryz.ntmps306
      go_wp2_with (first | (go_at_call 311; refine (hU _).mono ?_; rintro en w2 ⟨rfl, rfl⟩) | (go_at_call 314; refine (prec_32 _).mono ?_; rintro en w2 ⟨rfl, rfl⟩))
      refine bodyPost_ret (v := .tuple #[.int .u64 0, .int .i64 0]) (by simp [results, Tryz.results306, go_sem]) rfl ?_
      exact ⟨rfl, rfl⟩
    rw [if_neg (by omega)]
    have c1d : decide (i ≤ -64) = false := decide_eq_false c1
    by_cases c2 : i < 0
    · rw [if_pos c2]
      obtain ⟨c, hc⟩ : ∃ c : Nat, -i = (c : Int) := ⟨(-i).toNat, by omega⟩
      rw [hc, Int.toNat_natCast]
      have hcb : c < 64 := by omega
      obtain ⟨q, hq⟩ : ∃ q : Nat, m / 2 ^ c = q := ⟨_, rfl⟩
      have hqi : (m : Int) / 2 ^ c = (q : Int) := by rw [← hq]; simp
      have hql : q < 18446744073709551616 := by rw [← hq]; exact Nat.lt_of_le_of_lt (Nat.div_le_self _ _) (by omega)
      rw [hq]
      have hfi := fun w => HF.out s q hql w
      generalize fitS 32 sg s q = X at hfi ⊢
      obtain ⟨x1, x2⟩ := X
      unfold fitV at hfi ⊢
      dsimp only at hfi ⊢
      clear hq
      go_enter Tryz.func306, Tryz.ntmps306
      go_wp2_with (first | (go_at_call 311; refine (hU _).mono ?_; rintro en w2 ⟨rfl, rfl⟩) | (go_at_call 314; refine (prec_32 _).mono ?_; rintro en w2 ⟨rfl, rfl⟩) | (go_at_call 319; refine (hfi _).mono ?_; rintro en w2 ⟨rfl, rfl⟩))
      refine bodyPost_ret (v := .tuple #[.int .u64 (x1 : Int), .int .i64 (x2 : Int)]) (by simp [results, Tryz.results306, go_sem]) rfl ?_
      exact ⟨rfl, rfl⟩
    · rw [if_neg c2]
      obtain ⟨c, rfl⟩ : ∃ c : Nat, i = (c : Int) := ⟨i.toNat, by omega⟩
      have c2d : decide ((c : Int) < 0) = false := decide_eq_false c2
      by_cases c3 : (63 : Int) - ((23 : Nat) : Int) < (c : Int)
      · rw [if_pos c3]
        have c3i : ((40) : Int) < (c : Int) := by omega
        clear c3
        go_enter Tryz.func306, Tryz.ntmps306
        go_wp2_with (first | (go_at_call 311; refine (hU _).mono ?_; rintro en w2 ⟨rfl, rfl⟩) | (go_at_call 314; refine (prec_32 _).mono ?_; rintro en w2 ⟨rfl, rfl⟩))
        refine bodyPost_ret (v := .tuple #[.int .u64 0, .int .i64 40]) (by simp [results, Tryz.results306, go_sem]) rfl ?_
        exact ⟨rfl, rfl⟩
      · rw [if_neg c3, Int.toNat_natCast]
        have c3i : ¬ ((40) : Int) < (c : Int) := by omega
        have c3d : decide (((40) : Int) < (c : Int)) = false := decide_eq_false c3i
        have hcb : c ≤ 40 := by omega
        have hp : 2 ^ c ≤ 2 ^ 40 := Nat.pow_le_pow_right (by decide) hcb
        obtain ⟨q, hq⟩ : ∃ q : Nat, m * 2 ^ c = q := ⟨_, rfl⟩
        have hql : q < 18446744073709551616 := by
          rw [← hq]
          exact Nat.lt_of_lt_of_le (Nat.mul_lt_mul_of_pos_right hm53 (Nat.two_pow_pos c)) (Nat.mul_le_mul_left _ hp)
        have hqi : IntKind.u64.wrap ((m : Int) * 2 ^ c) = (q : Int) := by
          have : ((m * 2 ^ c : Nat) : Int) = (m : Int) * 2 ^ c := by simp
          rw [← this, hq, wrap_u64]
          omega
        rw [hq]
        have hfi := fun w => HF.out s q hql w
        generalize fitS 32 sg s q = X at hfi ⊢
        obtain ⟨x1, x2⟩ := X
        unfold fitV at hfi ⊢
        dsimp only at hfi ⊢
        clear hq c3 hp
        go_enter Tryz.func306, Tryz.ntmps306
        go_wp2_with (first | (go_at_call 311; refine (hU _).mono ?_; rintro en w2 ⟨rfl, rfl⟩) | (go_at_call 314; refine (prec_32 _).mono ?_; rintro en w2 ⟨rfl, rfl⟩) | (go_at_call 319; refine (hfi _).mono ?_; rintro en w2 ⟨rfl, rfl⟩))
        refine bodyPost_ret (v := .tuple #[.int .u64 (x1 : Int), .int .i64 (x2 : Int)]) (by simp [results, Tryz.results306, go_sem]) rfl ?_
        exact ⟨rfl, rfl⟩
  · rw [if_neg (by decide), if_pos rfl]
    go_enter Tryz.func306, Tryz.ntmps306
    go_wp2_with (first | (go_at_call 311; refine (hU _).mono ?_; rintro en w2 ⟨rfl, rfl⟩) | (go_at_call 314; refine (prec_32 _).mono ?_; rintro en w2 ⟨rfl, rfl⟩))
    refine bodyPost_ret (v := .tuple #[.int .u64 0, .int .i64 40]) (by simp [results, Tryz.results306, go_sem]) rfl ?_
    exact ⟨rfl, rfl⟩
  · rw [if_pos rfl]
    go_enter Tryz.func306, Tryz.ntmps306
    go_wp2_with (first | (go_at_call 311; refine (hU _).mono ?_; rintro en w2 ⟨rfl, rfl⟩) | (go_at_call 314; refine (prec_32 _).mono ?_; rintro en w2 ⟨rfl, rfl⟩))
    refine bodyPost_ret (v := .tuple #[.int .u64 0, .int .i64 41]) (by simp [results, Tryz.results306, go_sem]) rfl ?_
    exact ⟨rfl, rfl⟩
set_option maxHeartbeats 4000000 in
theorem toInt_32_64 (sg : Bool) (a : Nat) (ha : a < 4294967296) (w : World) : Calls Tryz.prog 306 #[.int .i64 32, .int .i64 64, .bool sg, .int .u64 a] w (Pq w (fitV (truncP Ieee.single 127 64 sg a))) := by
  have hsw : Ieee.single.signWeight = 2147483648 := by decide
  rw [← trunc_code fmt_single (by decide) (by decide) (by decide) sg (by rw [hsw]; exact ha)]
  have hU := fun w => unpack_32 a ha w
  obtain ⟨k3, hm0, hm64, he1, he2⟩ := unpS_rng (v := a) fmt_single (by decide)
  have hm53 : (unpS Ieee.single 127 a).2.2.1 < 16777216 := unpS_fb fmt_single
  have HF : Hid (∀ (neg : Bool) (m : Nat), m < 18446744073709551616 → ∀ w, Calls Tryz.prog 319 #[.int .i64 64, .bool sg, .bool neg, .int .u64 m] w (Pq w (fitV (fitS 64 sg neg m)))) := fun neg m hm w => fit_64 sg neg m hm w
  unfold truncC
  dsimp only
  rw [show Ieee.single.fractionBits = 23 from rfl]
  generalize unpS Ieee.single 127 a = x at *
  obtain ⟨s, k, m, i⟩ := x
  unfold unpV at hU
  dsimp only at k3 hm0 hm64 he1 he2 hm53 hU ⊢
  rcases (by omega : k = 0 ∨ k = 1 ∨ k = 2 ∨ k = 3) with rfl | rfl | rfl | rfl
  · rw [if_neg (by decide), if_neg (by decide), if_pos (.inl rfl)]
    go_enter Tryz.func306, Tryz.ntmps306
    go_wp2_with (first | (go_at_call 311; refine (hU _).mono ?_; rintro en w2 ⟨rfl, rfl⟩) | (go_at_call 314; refine (prec_32 _).mono ?_; rintro en w2 ⟨rfl, rfl⟩))
    refine bodyPost_ret (v := .tuple #[.int .u64 0, .int .i64 0]) (by simp [results, Tryz.results306, go_sem]) rfl ?_
    exact ⟨rfl, rfl⟩
  · rw [if_neg (by decide), if_neg (by decide)]
    by_cases c1 : i ≤ -64
    · rw [if_pos (.inr c1)]
      go_enter Tryz.func306, Tryz.ntmps306
      go_wp2_with (first | (go_at_call 311; refine (hU _).mono ?_; rintro en w2 ⟨rfl, rfl⟩) | (go_at_call 314; refine (prec_32 _).mono ?_; rintro en w2 ⟨rfl, rfl⟩))
      refine bodyPost_ret (v := .tuple #[.int .u64 0, .int .i64 0]) (by simp [results, Tryz.results306, go_sem]) rfl ?_
      exact ⟨rfl, rfl⟩
    rw [if_neg (by omega)]
    have c1d : decide (i ≤ -64) = false := decide_eq_false c1
    by_cases c2 : i < 0
    · rw [if_pos c2]
      obtain ⟨c, hc⟩ : ∃ c : Nat, -i = (c : Int) := ⟨(-i).toNat, by omega⟩
      rw [hc, Int.toNat_natCast]
      have hcb : c < 64 := by omega
      obtain ⟨q, hq⟩ : ∃ q : Nat, m / 2 ^ c = q := ⟨_, rfl⟩
      have hqi : (m : Int) / 2 ^ c = (q : Int) := by rw [← hq]; simp
      have hql : q < 18446744073709551616 := by rw [← hq]; exact Nat.lt_of_le_of_lt (Nat.div_le_self _ _) (by omega)
      rw [hq]
      have hfi := fun w => HF.out s q hql w
      generalize fitS 64 sg s q = X at hfi ⊢
      obtain ⟨x1, x2⟩ := X
      unfold fitV at hfi ⊢
      dsimp only at hfi ⊢
      clear hq
      go_enter Tryz.func306, Tryz.ntmps306
      go_wp2_with (first | (go_at_call 311; refine (hU _).mono ?_; rintro en w2 ⟨rfl, rfl⟩) | (go_at_call 314; refine (prec_32 _).mono ?_; rintro en w2 ⟨rfl, rfl⟩) | (go_at_call 319; refine (hfi _).mono ?_; rintro en w2 ⟨rfl, rfl⟩))
      refine bodyPost_ret (v := .tuple #[.int .u64 (x1 : Int), .int .i64 (x2 : Int)]) (by simp [results, Tryz.results306, go_sem]) rfl ?_
      exact ⟨rfl, rfl⟩
    · rw [if_neg c2]
      obtain ⟨c, rfl⟩ : ∃ c : Nat, i = (c : Int) := ⟨i.toNat, by omega⟩
      have c2d : decide ((c : Int) < 0) = false := decide_eq_false c2
      by_cases c3 : (63 : Int) - ((23 : Nat) : Int) < (c : Int)
      · rw [if_pos c3]
        have c3i : ((40) : Int) < (c : Int) := by omega
        clear c3
        go_enter Tryz.func306, Tryz.ntmps306
        go_wp2_with (first | (go_at_call 311; refine (hU _).mono ?_; rintro en w2 ⟨rfl, rfl⟩) | (go_at_call 314; refine (prec_32 _).mono ?_; rintro en w2 ⟨rfl, rfl⟩))
        refine bodyPost_ret (v := .tuple #[.int .u64 0, .int .i64 40]) (by simp [results, Tryz.results306, go_sem]) rfl ?_
        exact ⟨rfl, rfl⟩
      · rw [if_neg c3, Int.toNat_natCast]
        have c3i : ¬ ((40) : Int) < (c : Int) := by omega
        have c3d : decide (((40) : Int) < (c : Int)) = false := decide_eq_false c3i
        have hcb : c ≤ 40 := by omega
        have hp : 2 ^ c ≤ 2 ^ 40 := Nat.pow_le_pow_right (by decide) hcb
        obtain ⟨q, hq⟩ : ∃ q : Nat, m * 2 ^ c = q := ⟨_, rfl⟩
        have hql : q < 18446744073709551616 := by
          rw [← hq]
          exact Nat.lt_of_lt_of_le (Nat.mul_lt_mul_of_pos_right hm53 (Nat.two_pow_pos c)) (Nat.mul_le_mul_left _ hp)
        have hqi : IntKind.u64.wrap ((m : Int) * 2 ^ c) = (q : Int) := by
          have : ((m * 2 ^ c : Nat) : Int) = (m : Int) * 2 ^ c := by simp
          rw [← this, hq, wrap_u64]
          omega
        rw [hq]
        have hfi := fun w => HF.out s q hql w
        generalize fitS 64 sg s q = X at hfi ⊢
        obtain ⟨x1, x2⟩ := X
        unfold fitV at hfi ⊢
        dsimp only at hfi ⊢
        clear hq c3 hp
        go_enter Tryz.func306, Tryz.ntmps306
        go_wp2_with (first | (go_at_call 311; refine (hU _).mono ?_; rintro en w2 ⟨rfl, rfl⟩) | (go_at_call 314; refine (prec_32 _).mono ?_; rintro en w2 ⟨rfl, rfl⟩) | (go_at_call 319; refine (hfi _).mono ?_; rintro en w2 ⟨rfl, rfl⟩))
        refine bodyPost_ret (v := .tuple #[.int .u64 (x1 : Int), .int .i64 (x2 : Int)]) (by simp [results, Tryz.results306, go_sem]) rfl ?_
        exact ⟨rfl, rfl⟩
  · rw [if_neg (by decide), if_pos rfl]
    go_enter Tryz.func306, Tryz.ntmps306
    go_wp2_with (first | (go_at_call 311; refine (hU _).mono ?_; rintro en w2 ⟨rfl, rfl⟩) | (go_at_call 314; refine (prec_32 _).mono ?_; rintro en w2 ⟨rfl, rfl⟩))
    refine bodyPost_ret (v := .tuple #[.int .u64 0, .int .i64 40]) (by simp [results, Tryz.results306, go_sem]) rfl ?_
    exact ⟨rfl, rfl⟩
  · rw [if_pos rfl]
    go_enter Tryz.func306, Tryz.ntmps306
    go_wp2_with (first | (go_at_call 311; refine (hU _).mono ?_; rintro en w2 ⟨rfl, rfl⟩) | (go_at_call 314; refine (prec_32 _).mono ?_; rintro en w2 ⟨rfl, rfl⟩))
    refine bodyPost_ret (v := .tuple #[.int .u64 0, .int .i64 41]) (by simp [results, Tryz.results306, go_sem]) rfl ?_
    exact ⟨rfl, rfl⟩
set_option maxHeartbeats 4000000 in
theorem toInt_64_32 (sg : Bool) (a : Nat) (ha : a < 18446744073709551616) (w : World) : Calls Tryz.prog 306 #[.int .i64 64, .int .i64 32, .bool sg, .int .u64 a] w (Pq w (fitV (truncP Ieee.double 1023 32 sg a))) := by
  have hsw : Ieee.double.signWeight = 9223372036854775808 := by decide
  rw [← trunc_code fmt_double (by decide) (by decide) (by decide) sg (by rw [hsw]; exact ha)]
  have hU := fun w => unpack_64 a ha w
  obtain ⟨k3, hm0, hm64, he1, he2⟩ := unpS_rng (v := a) fmt_double (by decide)
  have hm53 : (unpS Ieee.double 1023 a).2.2.1 < 9007199254740992 := unpS_fb fmt_double
  have HF : Hid (∀ (neg : Bool) (m : Nat), m < 18446744073709551616 → ∀ w, Calls Tryz.prog 319 #[.int .i64 32, .bool sg, .bool neg, .int .u64 m] w (Pq w (fitV (fitS 32 sg neg m)))) := fun neg m hm w => fit_32 sg neg m hm w
  unfold truncC
  dsimp only
  rw [show Ieee.double.fractionBits = 52 from rfl]
  generalize unpS Ieee.double 1023 a = x at *
  obtain ⟨s, k, m, i⟩ := x
  unfold unpV at hU
  dsimp only at k3 hm0 hm64 he1 he2 hm53 hU ⊢
  rcases (by omega : k = 0 ∨ k = 1 ∨ k = 2 ∨ k = 3) with rfl | rfl | rfl | rfl
  · rw [if_neg (by decide), if_neg (by decide), if_pos (.inl rfl)]
    go_enter Tryz.func306, Tryz.ntmps306
    go_wp2_with (first | (go_at_call 311; refine (hU _).mono ?_; rintro en w2 ⟨rfl, rfl⟩) | (go_at_call 314; refine (prec_64 _).mono ?_; rintro en w2 ⟨rfl, rfl⟩))
    refine bodyPost_ret (v := .tuple #[.int .u64 0, .int .i64 0]) (by simp [results, Tryz.results306, go_sem]) rfl ?_
    exact ⟨rfl, rfl⟩
  · rw [if_neg (by decide), if_neg (by decide)]
    by_cases c1 : i ≤ -64
    · rw [if_pos (.inr c1)]
      go_enter Tryz.func306, Tryz.ntmps306
      go_wp2_with (first | (go_at_call 311; refine (hU _).mono ?_; rintro en w2 ⟨rfl, rfl⟩) | (go_at_call 314; refine (prec_64 _).mono ?_; rintro en w2 ⟨rfl, rfl⟩))
      refine bodyPost_ret (v := .tuple #[.int .u64 0, .int .i64 0]) (by simp [results, Tryz.results306, go_sem]) rfl ?_
      exact ⟨rfl, rfl⟩
    rw [if_neg (by omega)]
    have c1d : decide (i ≤ -64) = false := decide_eq_false c1
    by_cases c2 : i < 0
    · rw [if_pos c2]
      obtain ⟨c, hc⟩ : ∃ c : Nat, -i = (c : Int) := ⟨(-i).toNat, by omega⟩
      rw [hc, Int.toNat_natCast]
      have hcb : c < 64 := by omega
      obtain ⟨q, hq⟩ : ∃ q : Nat, m / 2 ^ c = q := ⟨_, rfl⟩
      have hqi : (m : Int) / 2 ^ c = (q : Int) := by rw [← hq]; simp
      have hql : q < 18446744073709551616 := by rw [← hq]; exact Nat.lt_of_le_of_lt (Nat.div_le_self _ _) (by omega)
      rw [hq]
      have hfi := fun w => HF.out s q hql w
      generalize fitS 32 sg s q = X at hfi ⊢
      obtain ⟨x1, x2⟩ := X
      unfold fitV at hfi ⊢
      dsimp only at hfi ⊢
      clear hq
      go_enter Tryz.func306, Tryz.ntmps306
      go_wp2_with (first | (go_at_call 311; refine (hU _).mono ?_; rintro en w2 ⟨rfl, rfl⟩) | (go_at_call 314; refine (prec_64 _).mono ?_; rintro en w2 ⟨rfl, rfl⟩) | (go_at_call 319; refine (hfi _).mono ?_; rintro en w2 ⟨rfl, rfl⟩))
      refine bodyPost_ret (v := .tuple #[.int .u64 (x1 : Int), .int .i64 (x2 : Int)]) (by simp [results, Tryz.results306, go_sem]) rfl ?_
      exact ⟨rfl, rfl⟩
    · rw [if_neg c2]
      obtain ⟨c, rfl⟩ : ∃ c : Nat, i = (c : Int) := ⟨i.toNat, by omega⟩
      have c2d : decide ((c : Int) < 0) = false := decide_eq_false c2
      by_cases c3 : (63 : Int) - ((52 : Nat) : Int) < (c : Int)
      · rw [if_pos c3]
        have c3i : ((11) : Int) < (c : Int) := by omega
        clear c3
        go_enter Tryz.func306, Tryz.ntmps306
        go_wp2_with (first | (go_at_call 311; refine (hU _).mono ?_; rintro en w2 ⟨rfl, rfl⟩) | (go_at_call 314; refine (prec_64 _).mono ?_; rintro en w2 ⟨rfl, rfl⟩))
        refine bodyPost_ret (v := .tuple #[.int .u64 0, .int .i64 40]) (by simp [results, Tryz.results306, go_sem]) rfl ?_
        exact ⟨rfl, rfl⟩
      · rw [if_neg c3, Int.toNat_natCast]
        have c3i : ¬ ((11) : Int) < (c : Int) := by omega
        have c3d : decide (((11) : Int) < (c : Int)) = false := decide_eq_false c3i
        have hcb : c ≤ 11 := by omega
        have hp : 2 ^ c ≤ 2 ^ 11 := Nat.pow_le_pow_right (by decide) hcb
        obtain ⟨q, hq⟩ : ∃ q : Nat, m * 2 ^ c = q := ⟨_, rfl⟩
        have hql : q < 18446744073709551616 := by
          rw [← hq]
          exact Nat.lt_of_lt_of_le (Nat.mul_lt_mul_of_pos_right hm53 (Nat.two_pow_pos c)) (Nat.mul_le_mul_left _ hp)
        have hqi : IntKind.u64.wrap ((m : Int) * 2 ^ c) = (q : Int) := by
          have : ((m * 2 ^ c : Nat) : Int) = (m : Int) * 2 ^ c := by simp
          rw [← this, hq, wrap_u64]
          omega
        rw [hq]
        have hfi := fun w => HF.out s q hql w
        generalize fitS 32 sg s q = X at hfi ⊢
        obtain ⟨x1, x2⟩ := X
        unfold fitV at hfi ⊢
        dsimp only at hfi ⊢
        clear hq c3 hp
        go_enter Tryz.func306, Tryz.ntmps306
        go_wp2_with (first | (go_at_call 311; refine (hU _).mono ?_; rintro en w2 ⟨rfl, rfl⟩) | (go_at_call 314; refine (prec_64 _).mono ?_; rintro en w2 ⟨rfl, rfl⟩) | (go_at_call 319; refine (hfi _).mono ?_; rintro en w2 ⟨rfl, rfl⟩))
        refine bodyPost_ret (v := .tuple #[.int .u64 (x1 : Int), .int .i64 (x2 : Int)]) (by simp [results, Tryz.results306, go_sem]) rfl ?_
        exact ⟨rfl, rfl⟩
  · rw [if_neg (by decide), if_pos rfl]
    go_enter Tryz.func306, Tryz.ntmps306
    go_wp2_with (first | (go_at_call 311; refine (hU _).mono ?_; rintro en w2 ⟨rfl, rfl⟩) | (go_at_call 314; refine (prec_64 _).mono ?_; rintro en w2 ⟨rfl, rfl⟩))
    refine bodyPost_ret (v := .tuple #[.int .u64 0, .int .i64 40]) (by simp [results, Tryz.results306, go_sem]) rfl ?_
    exact ⟨rfl, rfl⟩
  · rw [if_pos rfl]
    go_enter Tryz.func306, Tryz.ntmps306
    go_wp2_with (first | (go_at_call 311; refine (hU _).mono ?_; rintro en w2 ⟨rfl, rfl⟩) | (go_at_call 314; refine (prec_64 _).mono ?_; rintro en w2 ⟨rfl, rfl⟩))
    refine bodyPost_ret (v := .tuple #[.int .u64 0, .int .i64 41]) (by simp [results, Tryz.results306, go_sem]) rfl ?_
    exact ⟨rfl, rfl⟩
set_option maxHeartbeats 4000000 in
theorem toInt_64_64 (sg : Bool) (a : Nat) (ha : a < 18446744073709551616) (w : World) : Calls Tryz.prog 306 #[.int .i64 64, .int .i64 64, .bool sg, .int .u64 a] w (Pq w (fitV (truncP Ieee.double 1023 64 sg a))) := by
  have hsw : Ieee.double.signWeight = 9223372036854775808 := by decide
  rw [← trunc_code fmt_double (by decide) (by decide) (by decide) sg (by rw [hsw]; exact ha)]
  have hU := fun w => unpack_64 a ha w
  obtain ⟨k3, hm0, hm64, he1, he2⟩ := unpS_rng (v := a) fmt_double (by decide)
  have hm53 : (unpS Ieee.double 1023 a).2.2.1 < 9007199254740992 := unpS_fb fmt_double
  have HF : Hid (∀ (neg : Bool) (m : Nat), m < 18446744073709551616 → ∀ w, Calls Tryz.prog 319 #[.int .i64 64, .bool sg, .bool neg, .int .u64 m] w (Pq w (fitV (fitS 64 sg neg m)))) := fun neg m hm w => fit_64 sg neg m hm w
  unfold truncC
  dsimp only
  rw [show Ieee.double.fractionBits = 52 from rfl]
  generalize unpS Ieee.double 1023 a = x at *
  obtain ⟨s, k, m, i⟩ := x
  unfold unpV at hU
  dsimp only at k3 hm0 hm64 he1 he2 hm53 hU ⊢
  rcases (by omega : k = 0 ∨ k = 1 ∨ k = 2 ∨ k = 3) with rfl | rfl | rfl | rfl
  · rw [if_neg (by decide), if_neg (by decide), if_pos (.inl rfl)]
    go_enter Tryz.func306, Tryz.ntmps306
    go_wp2_with (first | (go_at_call 311; refine (hU _).mono ?_; rintro en w2 ⟨rfl, rfl⟩) | (go_at_call 314; refine (prec_64 _).mono ?_; rintro en w2 ⟨rfl, rfl⟩))
    refine bodyPost_ret (v := .tuple #[.int .u64 0, .int .i64 0]) (by simp [results, Tryz.results306, go_sem]) rfl ?_
    exact ⟨rfl, rfl⟩
  · rw [if_neg (by decide), if_neg (by decide)]
    by_cases c1 : i ≤ -64
    · rw [if_pos (.inr c1)]
      go_enter Tryz.func306, Tryz.ntmps306
      go_wp2_with (first | (go_at_call 311; refine (hU _).mono ?_; rintro en w2 ⟨rfl, rfl⟩) | (go_at_call 314; refine (prec_64 _).mono ?_; rintro en w2 ⟨rfl, rfl⟩))
      refine bodyPost_ret (v := .tuple #[.int .u64 0, .int .i64 0]) (by simp [results, Tryz.results306, go_sem]) rfl ?_
      exact ⟨rfl, rfl⟩
    rw [if_neg (by omega)]
    have c1d : decide (i ≤ -64) = false := decide_eq_false c1
    by_cases c2 : i < 0
    · rw [if_pos c2]
      obtain ⟨c, hc⟩ : ∃ c : Nat, -i = (c : Int) := ⟨(-i).toNat, by omega⟩
      rw [hc, Int.toNat_natCast]
      have hcb : c < 64 := by omega
      obtain ⟨q, hq⟩ : ∃ q : Nat, m / 2 ^ c = q := ⟨_, rfl⟩
      have hqi : (m : Int) / 2 ^ c = (q : Int) := by rw [← hq]; simp
      have hql : q < 18446744073709551616 := by rw [← hq]; exact Nat.lt_of_le_of_lt (Nat.div_le_self _ _) (by omega)
      rw [hq]
      have hfi := fun w => HF.out s q hql w
      generalize fitS 64 sg s q = X at hfi ⊢
      obtain ⟨x1, x2⟩ := X
      unfold fitV at hfi ⊢
      dsimp only at hfi ⊢
      clear hq
      go_enter Tryz.func306, Tryz.ntmps306
      go_wp2_with (first | (go_at_call 311; refine (hU _).mono ?_; rintro en w2 ⟨rfl, rfl⟩) | (go_at_call 314; refine (prec_64 _).mono ?_; rintro en w2 ⟨rfl, rfl⟩) | (go_at_call 319; refine (hfi _).mono ?_; rintro en w2 ⟨rfl, rfl⟩))
      refine bodyPost_ret (v := .tuple #[.int .u64 (x1 : Int), .int .i64 (x2 : Int)]) (by simp [results, Tryz.results306, go_sem]) rfl ?_
      exact ⟨rfl, rfl⟩
    · rw [if_neg c2]
      obtain ⟨c, rfl⟩ : ∃ c : Nat, i = (c : Int) := ⟨i.toNat, by omega⟩
      have c2d : decide ((c : Int) < 0) = false := decide_eq_false c2
      by_cases c3 : (63 : Int) - ((52 : Nat) : Int) < (c : Int)
      · rw [if_pos c3]
        have c3i : ((11) : Int) < (c : Int) := by omega
        clear c3
        go_enter Tryz.func306, Tryz.ntmps306
        go_wp2_with (first | (go_at_call 311; refine (hU _).mono ?_; rintro en w2 ⟨rfl, rfl⟩) | (go_at_call 314; refine (prec_64 _).mono ?_; rintro en w2 ⟨rfl, rfl⟩))
        refine bodyPost_ret (v := .tuple #[.int .u64 0, .int .i64 40]) (by simp [results, Tryz.results306, go_sem]) rfl ?_
        exact ⟨rfl, rfl⟩
      · rw [if_neg c3, Int.toNat_natCast]
        have c3i : ¬ ((11) : Int) < (c : Int) := by omega
        have c3d : decide (((11) : Int) < (c : Int)) = false := decide_eq_false c3i
        have hcb : c ≤ 11 := by omega
        have hp : 2 ^ c ≤ 2 ^ 11 := Nat.pow_le_pow_right (by decide) hcb
        obtain ⟨q, hq⟩ : ∃ q : Nat, m * 2 ^ c = q := ⟨_, rfl⟩
        have hql : q < 18446744073709551616 := by
          rw [← hq]
          exact Nat.lt_of_lt_of_le (Nat.mul_lt_mul_of_pos_right hm53 (Nat.two_pow_pos c)) (Nat.mul_le_mul_left _ hp)
        have hqi : IntKind.u64.wrap ((m : Int) * 2 ^ c) = (q : Int) := by
          have : ((m * 2 ^ c : Nat) : Int) = (m : Int) * 2 ^ c := by simp
          rw [← this, hq, wrap_u64]
          omega
        rw [hq]
        have hfi := fun w => HF.out s q hql w
        generalize fitS 64 sg s q = X at hfi ⊢
        obtain ⟨x1, x2⟩ := X
        unfold fitV at hfi ⊢
        dsimp only at hfi ⊢
        clear hq c3 hp
        go_enter Tryz.func306, Tryz.ntmps306
        go_wp2_with (first | (go_at_call 311; refine (hU _).mono ?_; rintro en w2 ⟨rfl, rfl⟩) | (go_at_call 314; refine (prec_64 _).mono ?_; rintro en w2 ⟨rfl, rfl⟩) | (go_at_call 319; refine (hfi _).mono ?_; rintro en w2 ⟨rfl, rfl⟩))
        refine bodyPost_ret (v := .tuple #[.int .u64 (x1 : Int), .int .i64 (x2 : Int)]) (by simp [results, Tryz.results306, go_sem]) rfl ?_
        exact ⟨rfl, rfl⟩
  · rw [if_neg (by decide), if_pos rfl]
    go_enter Tryz.func306, Tryz.ntmps306
    go_wp2_with (first | (go_at_call 311; refine (hU _).mono ?_; rintro en w2 ⟨rfl, rfl⟩) | (go_at_call 314; refine (prec_64 _).mono ?_; rintro en w2 ⟨rfl, rfl⟩))
    refine bodyPost_ret (v := .tuple #[.int .u64 0, .int .i64 40]) (by simp [results, Tryz.results306, go_sem]) rfl ?_
    exact ⟨rfl, rfl⟩
  · rw [if_pos rfl]
    go_enter Tryz.func306, Tryz.ntmps306
    go_wp2_with (first | (go_at_call 311; refine (hU _).mono ?_; rintro en w2 ⟨rfl, rfl⟩) | (go_at_call 314; refine (prec_64 _).mono ?_; rintro en w2 ⟨rfl, rfl⟩))
    refine bodyPost_ret (v := .tuple #[.int .u64 0, .int .i64 41]) (by simp [results, Tryz.results306, go_sem]) rfl ?_
    exact ⟨rfl, rfl⟩
end Go.Proofs.Qxb6500275aGreatDoor
