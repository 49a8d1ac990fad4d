import Derived.Test.Qxb6500275aGreatDoorNo8
set_option maxRecDepth 100000
set_option linter.unusedVariables false
set_option linter.unusedSimpArgs false
namespace Go.Proofs.Qxb6500275aGreatDoor
open Go Go.RowKit
theorem neg_flip (F : Ieee.Format) {v : Nat} (hv : v < 2 * F.signWeight) : v ^^^ 2 ^ (F.exponentBits + F.fractionBits) = flipW F v := by
  have hsw : F.signWeight = 2 ^ (F.exponentBits + F.fractionBits) := rfl
  unfold flipW
  rw [hsw] at hv ⊢
  generalize F.exponentBits + F.fractionBits = k at *
  have hkp : 0 < 2 ^ k := Nat.two_pow_pos k
  have key : ∀ r : Nat, r < 2 ^ k → r ^^^ 2 ^ k = r + 2 ^ k := fun r hr => by
    have h1 := Nat.two_pow_add_eq_or_of_lt hr 1
    rw [Nat.mul_one] at h1
    rw [Nat.add_comm r, h1]
    refine Nat.eq_of_testBit_eq fun i => ?_
    rw [Nat.testBit_xor, Nat.testBit_or, Nat.testBit_two_pow]
    by_cases hi : k = i
    · subst hi
      have : r.testBit k = false := Nat.testBit_lt_two_pow hr
      simp [this]
    · simp [hi]
  by_cases hc : 2 ^ k ≤ v
  · rw [if_pos hc]
    have h2 := key (v - 2 ^ k) (by omega)
    rw [show v - 2 ^ k + 2 ^ k = v by omega] at h2
    rw [show v ^^^ 2 ^ k = (v - 2 ^ k ^^^ 2 ^ k) ^^^ 2 ^ k by rw [h2], Nat.xor_assoc, Nat.xor_self, Nat.xor_zero]
  · rw [if_neg hc]
    exact key v (by omega)
theorem word_flip {F : Ieee.Format} {bi : Nat} (hF : Fmt F bi) (s : Bool) {r : Nat} (h : r < F.signWeight) : flipW F (F.word s r) = F.word (!s) r := by
  unfold flipW Ieee.Format.word
  cases s
  · simp only [Bool.false_eq_true, if_false, Bool.not_false, if_true]
    rw [if_neg (by omega)]; omega
  · simp only [if_true, Bool.not_true, Bool.false_eq_true, if_false]
    rw [if_pos (by omega)]; omega
theorem sw_32 : Ieee.single.signWeight = 2147483648 := by decide
theorem can32_B (r : Nat) : can32 r = ((canB Ieee.single 2143289344 r : Nat) : Int) := by
  unfold can32 canB
  show (bif Ieee.single.order r r != some .eq then (2143289344 : Int) else (r : Int)) = _
  cases Ieee.single.order r r != some .eq <;> rfl
theorem cst_32 : Ieee.single.word true (rungI Ieee.single 127 (2 ^ Ieee.single.fractionBits)) = 3405774848 ∧ Ieee.single.word false (rungI Ieee.single 127 (2 ^ Ieee.single.fractionBits)) = 1258291200 := by
  rw [rungI_bin fmt_single]
  decide
theorem sgn_and_32 (x : Nat) (hx : x < 4294967296) : bits .and .u32 (x : Int) 2147483648 = ((Ieee.single.word (sgB Ieee.single x) 0 : Nat) : Int) := by
  have h := bits_and_32 x 2147483648 hx (by decide)
  have h2 : x &&& 2147483648 = Ieee.single.word (sgB Ieee.single x) 0 := by
    unfold sgB
    rw [sw_32]
    unfold Ieee.Format.word
    rw [sw_32]
    refine Nat.eq_of_testBit_eq fun i => ?_
    rw [Nat.testBit_and, show (2147483648 : Nat) = 2 ^ 31 by decide, Nat.testBit_two_pow]
    by_cases hc : 2 ^ 31 ≤ x
    · rw [decide_eq_true hc, if_pos rfl, Nat.add_zero, Nat.testBit_two_pow]
      by_cases hi : 31 = i
      · subst hi
        have : x.testBit 31 = true := by
          rw [Nat.testBit_eq_decide_div_mod_eq]
          have : x / 2 ^ 31 = 1 := Nat.div_eq_of_lt_le (by omega) (by omega)
          rw [this]; rfl
        simp [this]
      · simp [hi]
    · rw [decide_eq_false hc, if_neg (by simp), Nat.zero_testBit]
      by_cases hi : 31 = i
      · subst hi
        have : x.testBit 31 = false := Nat.testBit_lt_two_pow (by omega)
        simp [this]
      · simp [hi]
  rw [h2] at h
  exact h
set_option maxHeartbeats 4000000 in
theorem cut_x32 (x : Nat) (hx : x < 4294967296) (w : World) : Calls Tryz.prog 223 #[.float .f32 x] w fun e w' => e = .returned (.float .f32 (cutWd Ieee.single 127 x)) ∧ w' = w := by
  have hx2 : x < 2 * Ieee.single.signWeight := by rw [sw_32]; exact hx
  have hin := in_rng fmt_single (by decide) hx2
  rw [cst_32.1, cst_32.2] at hin
  obtain ⟨Z, HZ⟩ : ∃ Z : Nat, Hid (Z = cutWd Ieee.single 127 x) := ⟨_, rfl⟩
  rw [← HZ.out]
  cases h1 : Ieee.single.order x 3405774848 == some .gt
  · have hz : Z = x := by
      rw [HZ.out]; unfold cutWd
      rw [if_neg (fun e => by rw [(hin.2 e).1] at h1; cases h1)]
    have h1' : (FloatKind.f32.format.order x 3405774848 == some .gt) = false := h1
    clear hin HZ h1
    subst hz
    go_enter Tryz.func223, Tryz.ntmps223
    go_wp2
    go_ret
    exact ⟨rfl, rfl⟩
  cases h2 : Ieee.single.order x 1258291200 == some .lt
  · have hz : Z = x := by
      rw [HZ.out]; unfold cutWd
      rw [if_neg (fun e => by rw [(hin.2 e).2] at h2; cases h2)]
    have h1' : (FloatKind.f32.format.order x 3405774848 == some .gt) = true := h1
    have h2' : (FloatKind.f32.format.order x 1258291200 == some .lt) = false := h2
    clear hin HZ h1 h2
    subst hz
    go_enter Tryz.func223, Tryz.ntmps223
    go_wp2
    go_ret
    exact ⟨rfl, rfl⟩
  have he := hin.1 ⟨h1, h2⟩
  have h1' : (FloatKind.f32.format.order x 3405774848 == some .gt) = true := h1
  have h2' : (FloatKind.f32.format.order x 1258291200 == some .lt) = true := h2
  obtain ⟨n, hn⟩ := in_f32 h1' h2'
  have hcv : ∀ w, (convert 268 21 (.float .f32 x)).run Tryz.prog w = .ok (.int .i32 n) w := fun w => run_convert_float_int w 268 21 .f32 .i32 x n (by kernel_rfl) (by kernel_rfl) hn
  have hcb : ∀ w, (convert 21 268 (.int .i32 n)).run Tryz.prog w = .ok (.float .f32 (floatOfInt .f32 n)) w := fun w => run_convert_int_float w 21 268 .i32 .f32 n (by kernel_rfl) (by kernel_rfl)
  have hn2 : (Ieee.single.read x).toInt .zero = some n := by
    unfold floatToIntVal at hn
    have e : (FloatKind.f32.decode x).toInt .zero = (Ieee.single.read x).toInt .zero := rfl
    rw [e] at hn
    cases hc : (Ieee.single.read x).toInt .zero with
    | none => rw [hc] at hn; cases hn
    | some v =>
      rw [hc] at hn
      dsimp only at hn
      split at hn
      · cases hn; rfl
      · cases hn
  obtain ⟨k1, k2⟩ := cut_int fmt_single (by decide) hx2 he hn2
  have hfo : floatOfInt .f32 n = Ieee.single.nearest (decide (n < 0)) n.natAbs 0 := rfl
  by_cases hn0 : n = 0
  · have h3 : (FloatKind.f32.format.order (floatOfInt .f32 n) 0 == some .eq) = true := by
      rw [hn0]
      decide
    have hsg := sgn_and_32 x hx
    rw [← k1 hn0, ← HZ.out] at hsg
    clear k1 k2 hin hn hn2 h1 h2 hfo HZ
    go_enter Tryz.func223, Tryz.ntmps223
    go_wp2_with (simp only [hcv, hcb, c192, c136])
    go_ret
    first | exact ⟨rfl, rfl⟩ | exact ⟨by simp [hsg], rfl⟩
  · obtain ⟨k3, k4⟩ := k2 hn0
    rw [← hfo, ← HZ.out] at k3
    rw [← HZ.out] at k4
    have h3 : (FloatKind.f32.format.order (floatOfInt .f32 n) 0 == some .eq) = false := by
      rw [k3, beq_eq_false_iff_ne]
      exact k4
    clear k1 k2 hin hn hn2 h1 h2 hfo HZ
    rw [k3] at h3 hcb
    clear k3
    go_enter Tryz.func223, Tryz.ntmps223
    go_wp2_with (simp only [hcv, hcb, c192, c136])
    go_ret
    exact ⟨rfl, rfl⟩
set_option maxHeartbeats 4000000 in
theorem ceil_x32 (x : Nat) (hx : x < 4294967296) (w : World) : Calls Tryz.prog 221 #[.float .f32 x] w fun e w' => ∃ r, e = .returned (.float .f32 r) ∧ can32 r = ((softWhole Ieee.single 127 2143289344 2 x : Nat) : Int) ∧ sameWorld w w' := by
  have hx2 : x < 2 * Ieee.single.signWeight := by rw [sw_32]; exact hx
  obtain ⟨s1, s2⟩ := ceil_soft fmt_single (by decide) 2143289344 hx2
  have ht := fun w => cut_x32 x hx w
  rw [show 127 * 2 ^ Ieee.single.fractionBits = 1065353216 by decide] at s1
  generalize cutWd Ieee.single 127 x = t at *
  cases h1 : Ieee.single.order t x == some .lt
  · have hs := s2 h1
    have h1' : (FloatKind.f32.format.order t x == some .lt) = false := h1
    clear s1 s2 h1
    go_enter Tryz.func221, Tryz.ntmps221
    go_wp2_with (go_at_call 223; refine (ht _).mono ?_; rintro e w' ⟨rfl, rfl⟩)
    go_ret
    exact ⟨_, rfl, by rw [can32_B, hs], sw_refl _⟩
  · obtain ⟨r, hr, hs⟩ := s1 h1
    have h1' : (FloatKind.f32.format.order t x == some .lt) = true := h1
    have h2 : floatBits .add .f32 t 1065353216 = some r := hr
    have hb : ∀ w, (binOp .add 268 (.float .f32 t) (.float .f32 1065353216)).run Tryz.prog w = .ok (.float .f32 r) w := fun w => run_float_arith w .add 268 .f32 t 1065353216 r h2
    clear s1 s2 h1 hr h2
    go_enter Tryz.func221, Tryz.ntmps221
    go_wp2_with (first | (go_at_call 223; refine (ht _).mono ?_; rintro e w' ⟨rfl, rfl⟩) | simp only [hb])
    go_ret
    exact ⟨_, rfl, by rw [can32_B, hs], sw_refl _⟩
set_option maxHeartbeats 4000000 in
theorem floor_x32 (x : Nat) (hx : x < 4294967296) (w : World) : Calls Tryz.prog 222 #[.float .f32 x] w fun e w' => ∃ r, e = .returned (.float .f32 r) ∧ can32 r = ((softWhole Ieee.single 127 2143289344 3 x : Nat) : Int) ∧ sameWorld w w' := by
  have hx2 : x < 2 * Ieee.single.signWeight := by rw [sw_32]; exact hx
  obtain ⟨s1, s2⟩ := floor_soft fmt_single (by decide) 2143289344 hx2
  have ht := fun w => cut_x32 x hx w
  rw [show 127 * 2 ^ Ieee.single.fractionBits = 1065353216 by decide] at s1
  generalize cutWd Ieee.single 127 x = t at *
  cases h1 : Ieee.single.order t x == some .gt
  · have hs := s2 h1
    have h1' : (FloatKind.f32.format.order t x == some .gt) = false := h1
    clear s1 s2 h1
    go_enter Tryz.func222, Tryz.ntmps222
    go_wp2_with (go_at_call 223; refine (ht _).mono ?_; rintro e w' ⟨rfl, rfl⟩)
    go_ret
    exact ⟨_, rfl, by rw [can32_B, hs], sw_refl _⟩
  · obtain ⟨r, hr, hs⟩ := s1 h1
    have h1' : (FloatKind.f32.format.order t x == some .gt) = true := h1
    have h2 : floatBits .sub .f32 t 1065353216 = some r := hr
    have hb : ∀ w, (binOp .sub 268 (.float .f32 t) (.float .f32 1065353216)).run Tryz.prog w = .ok (.float .f32 r) w := fun w => run_float_arith w .sub 268 .f32 t 1065353216 r h2
    clear s1 s2 h1 hr h2
    go_enter Tryz.func222, Tryz.ntmps222
    go_wp2_with (first | (go_at_call 223; refine (ht _).mono ?_; rintro e w' ⟨rfl, rfl⟩) | simp only [hb])
    go_ret
    exact ⟨_, rfl, by rw [can32_B, hs], sw_refl _⟩
set_option maxHeartbeats 4000000 in
theorem near_x32 (x : Nat) (hx : x < 4294967296) (w : World) : Calls Tryz.prog 224 #[.float .f32 x] w fun e w' => ∃ r, e = .returned (.float .f32 r) ∧ can32 r = ((softWhole Ieee.single 127 2143289344 5 x : Nat) : Int) ∧ sameWorld w w' := by
  have hx2 : x < 2 * Ieee.single.signWeight := by rw [sw_32]; exact hx
  have hin := in_rng fmt_single (by decide) hx2
  rw [cst_32.1, cst_32.2] at hin
  have hout := soft_out fmt_single 2143289344 5 hx2
  cases h1 : Ieee.single.order x 3405774848 == some .gt
  · have hz := hout (fun e => by rw [(hin.2 e).1] at h1; cases h1)
    have h1' : (FloatKind.f32.format.order x 3405774848 == some .gt) = false := h1
    clear hin hout h1
    go_enter Tryz.func224, Tryz.ntmps224
    go_wp2
    go_ret
    exact ⟨_, rfl, by rw [can32_B, hz], sw_refl _⟩
  cases h2 : Ieee.single.order x 1258291200 == some .lt
  · have hz := hout (fun e => by rw [(hin.2 e).2] at h2; cases h2)
    have h1' : (FloatKind.f32.format.order x 3405774848 == some .gt) = true := h1
    have h2' : (FloatKind.f32.format.order x 1258291200 == some .lt) = false := h2
    clear hin hout h1 h2
    go_enter Tryz.func224, Tryz.ntmps224
    go_wp2
    go_ret
    exact ⟨_, rfl, by rw [can32_B, hz], sw_refl _⟩
  have he := hin.1 ⟨h1, h2⟩
  have h1' : (FloatKind.f32.format.order x 3405774848 == some .gt) = true := h1
  have h2' : (FloatKind.f32.format.order x 1258291200 == some .lt) = true := h2
  obtain ⟨r1, r2, a1, a2, a3, a4, a5⟩ := near_soft fmt_single (by decide) 2143289344 hx2 he
  rw [show (127 + Ieee.single.fractionBits) * 2 ^ Ieee.single.fractionBits = 1258291200 by decide] at a1 a2
  have hwb := word_back fmt_single hx2
  have hmod : exB Ieee.single x * 2 ^ Ieee.single.fractionBits + frB Ieee.single x = x % Ieee.single.signWeight := by
    unfold exB frB; rw [Nat.mul_comm]; exact Nat.div_add_mod _ _
  rw [hmod] at hwb
  have hsg := sgn_and_32 x hx
  have hml : x % Ieee.single.signWeight < Ieee.single.signWeight := Nat.mod_lt _ (by rw [sw_32]; decide)
  have hs2 : floatBits .sub .f32 r1 1258291200 = some r2 := a2
  have h5 : ∀ w, (binOp .sub 268 (.float .f32 r1) (.float .f32 1258291200)).run Tryz.prog w = .ok (.float .f32 r2) w := fun w => run_float_arith w .sub 268 .f32 r1 1258291200 r2 hs2
  cases hs : sgB Ieee.single x
  · rw [hs] at hwb hsg a5
    have hx0 : Ieee.single.word false (x % Ieee.single.signWeight) = x := hwb
    rw [hx0] at a1
    have ha2 : floatBits .add .f32 x 1258291200 = some r1 := a1
    have h4 : ∀ w, (binOp .add 268 (.float .f32 x) (.float .f32 1258291200)).run Tryz.prog w = .ok (.float .f32 r1) w := fun w => run_float_arith w .add 268 .f32 x 1258291200 r1 ha2
    have h3 : bits .and .u32 (x : Int) 2147483648 = 0 := hsg
    have h3' : (bits .and .u32 (x : Int) 2147483648 != 0) = false := by rw [h3]; rfl
    have h9 : can32 r2 = ((softWhole Ieee.single 127 2143289344 5 x : Nat) : Int) := by rw [can32_B]; exact congrArg _ a5
    clear hin hout h1 h2 a1 a2 a3 a4 a5 hwb hmod hsg hml hs2 ha2 hx0 hs he
    go_enter Tryz.func224, Tryz.ntmps224
    go_wp2_with (simp only [c192, h4, h5])
    go_ret
    exact ⟨_, rfl, h9, sw_refl _⟩
  · rw [hs] at hwb hsg a5
    have hng : Op.negFloat .f32 x = Ieee.single.word false (x % Ieee.single.signWeight) := by
      show x ^^^ 2 ^ (Ieee.single.exponentBits + Ieee.single.fractionBits) = _
      rw [neg_flip Ieee.single hx2]
      conv => lhs; rw [← hwb]
      rw [word_flip fmt_single true hml]
      rfl
    rw [← hng] at a1
    have ha2 : floatBits .add .f32 (Op.negFloat .f32 x) 1258291200 = some r1 := a1
    have h4 : ∀ w, (binOp .add 268 (.float .f32 (Op.negFloat .f32 x)) (.float .f32 1258291200)).run Tryz.prog w = .ok (.float .f32 r1) w := fun w => run_float_arith w .add 268 .f32 (Op.negFloat .f32 x) 1258291200 r1 ha2
    have h3 : bits .and .u32 (x : Int) 2147483648 = 2147483648 := hsg
    have h3' : (bits .and .u32 (x : Int) 2147483648 != 0) = true := by rw [h3]; rfl
    have h9 : can32 (Op.negFloat .f32 r2) = ((softWhole Ieee.single 127 2143289344 5 x : Nat) : Int) := by
      rw [can32_B]
      have e : Op.negFloat .f32 r2 = Ieee.single.word true r2 := by
        show r2 ^^^ 2 ^ (Ieee.single.exponentBits + Ieee.single.fractionBits) = _
        rw [neg_flip Ieee.single (by omega), show r2 = Ieee.single.word false r2 from rfl, word_flip fmt_single false a3]
        rfl
      rw [e]
      exact congrArg _ a5
    clear hin hout h1 h2 a1 a2 a3 a4 a5 hwb hmod hsg hml hs2 ha2 hng hs he
    go_enter Tryz.func224, Tryz.ntmps224
    go_wp2_with (simp only [c192, h4, h5])
    go_ret
    exact ⟨_, rfl, h9, sw_refl _⟩
theorem sw_64 : Ieee.double.signWeight = 9223372036854775808 := by decide
theorem can64_B (r : Nat) : can64 r = ((canB Ieee.double 9221120237041090560 r : Nat) : Int) := by
  unfold can64 canB
  show (bif Ieee.double.order r r != some .eq then (9221120237041090560 : Int) else (r : Int)) = _
  cases Ieee.double.order r r != some .eq <;> rfl
theorem cst_64 : Ieee.double.word true (rungI Ieee.double 1023 (2 ^ Ieee.double.fractionBits)) = 14064741636278059008 ∧ Ieee.double.word false (rungI Ieee.double 1023 (2 ^ Ieee.double.fractionBits)) = 4841369599423283200 := by
  rw [rungI_bin fmt_double]
  decide
theorem sgn_and_64 (x : Nat) (hx : x < 18446744073709551616) : bits .and .u64 (x : Int) 9223372036854775808 = ((Ieee.double.word (sgB Ieee.double x) 0 : Nat) : Int) := by
  have h := bits_and_n x 9223372036854775808 hx (by decide)
  have h2 : x &&& 9223372036854775808 = Ieee.double.word (sgB Ieee.double x) 0 := by
    unfold sgB
    rw [sw_64]
    unfold Ieee.Format.word
    rw [sw_64]
    refine Nat.eq_of_testBit_eq fun i => ?_
    rw [Nat.testBit_and, show (9223372036854775808 : Nat) = 2 ^ 63 by decide, Nat.testBit_two_pow]
    by_cases hc : 2 ^ 63 ≤ x
    · rw [decide_eq_true hc, if_pos rfl, Nat.add_zero, Nat.testBit_two_pow]
      by_cases hi : 63 = i
      · subst hi
        have : x.testBit 63 = true := by
          rw [Nat.testBit_eq_decide_div_mod_eq]
          have : x / 2 ^ 63 = 1 := Nat.div_eq_of_lt_le (by omega) (by omega)
          rw [this]; rfl
        simp [this]
      · simp [hi]
    · rw [decide_eq_false hc, if_neg (by simp), Nat.zero_testBit]
      by_cases hi : 63 = i
      · subst hi
        have : x.testBit 63 = false := Nat.testBit_lt_two_pow (by omega)
        simp [this]
      · simp [hi]
  rw [h2] at h
  exact h
set_option maxHeartbeats 4000000 in
theorem cut_x64 (x : Nat) (hx : x < 18446744073709551616) (w : World) : Calls Tryz.prog 231 #[.float .f64 x] w fun e w' => e = .returned (.float .f64 (cutWd Ieee.double 1023 x)) ∧ w' = w := by
  have hx2 : x < 2 * Ieee.double.signWeight := by rw [sw_64]; exact hx
  have hin := in_rng fmt_double (by decide) hx2
  rw [cst_64.1, cst_64.2] at hin
  obtain ⟨Z, HZ⟩ : ∃ Z : Nat, Hid (Z = cutWd Ieee.double 1023 x) := ⟨_, rfl⟩
  rw [← HZ.out]
  cases h1 : Ieee.double.order x 14064741636278059008 == some .gt
  · have hz : Z = x := by
      rw [HZ.out]; unfold cutWd
      rw [if_neg (fun e => by rw [(hin.2 e).1] at h1; cases h1)]
    have h1' : (FloatKind.f64.format.order x 14064741636278059008 == some .gt) = false := h1
    clear hin HZ h1
    subst hz
    go_enter Tryz.func231, Tryz.ntmps231
    go_wp2
    go_ret
    exact ⟨rfl, rfl⟩
  cases h2 : Ieee.double.order x 4841369599423283200 == some .lt
  · have hz : Z = x := by
      rw [HZ.out]; unfold cutWd
      rw [if_neg (fun e => by rw [(hin.2 e).2] at h2; cases h2)]
    have h1' : (FloatKind.f64.format.order x 14064741636278059008 == some .gt) = true := h1
    have h2' : (FloatKind.f64.format.order x 4841369599423283200 == some .lt) = false := h2
    clear hin HZ h1 h2
    subst hz
    go_enter Tryz.func231, Tryz.ntmps231
    go_wp2
    go_ret
    exact ⟨rfl, rfl⟩
  have he := hin.1 ⟨h1, h2⟩
  have h1' : (FloatKind.f64.format.order x 14064741636278059008 == some .gt) = true := h1
  have h2' : (FloatKind.f64.format.order x 4841369599423283200 == some .lt) = true := h2
  obtain ⟨n, hn⟩ := in_f64 h1' h2'
  have hcv : ∀ w, (convert 271 2 (.float .f64 x)).run Tryz.prog w = .ok (.int .i64 n) w := fun w => run_convert_float_int w 271 2 .f64 .i64 x n (by kernel_rfl) (by kernel_rfl) hn
  have hcb : ∀ w, (convert 2 271 (.int .i64 n)).run Tryz.prog w = .ok (.float .f64 (floatOfInt .f64 n)) w := fun w => run_convert_int_float w 2 271 .i64 .f64 n (by kernel_rfl) (by kernel_rfl)
  have hn2 : (Ieee.double.read x).toInt .zero = some n := by
    unfold floatToIntVal at hn
    have e : (FloatKind.f64.decode x).toInt .zero = (Ieee.double.read x).toInt .zero := rfl
    rw [e] at hn
    cases hc : (Ieee.double.read x).toInt .zero with
    | none => rw [hc] at hn; cases hn
    | some v =>
      rw [hc] at hn
      dsimp only at hn
      split at hn
      · cases hn; rfl
      · cases hn
  obtain ⟨k1, k2⟩ := cut_int fmt_double (by decide) hx2 he hn2
  have hfo : floatOfInt .f64 n = Ieee.double.nearest (decide (n < 0)) n.natAbs 0 := rfl
  by_cases hn0 : n = 0
  · have h3 : (FloatKind.f64.format.order (floatOfInt .f64 n) 0 == some .eq) = true := by
      rw [hn0]
      decide
    have hsg := sgn_and_64 x hx
    rw [← k1 hn0, ← HZ.out] at hsg
    clear k1 k2 hin hn hn2 h1 h2 hfo HZ
    go_enter Tryz.func231, Tryz.ntmps231
    go_wp2_with (simp only [hcv, hcb, c193, c138])
    go_ret
    first | exact ⟨rfl, rfl⟩ | exact ⟨by simp [hsg], rfl⟩
  · obtain ⟨k3, k4⟩ := k2 hn0
    rw [← hfo, ← HZ.out] at k3
    rw [← HZ.out] at k4
    have h3 : (FloatKind.f64.format.order (floatOfInt .f64 n) 0 == some .eq) = false := by
      rw [k3, beq_eq_false_iff_ne]
      exact k4
    clear k1 k2 hin hn hn2 h1 h2 hfo HZ
    rw [k3] at h3 hcb
    clear k3
    go_enter Tryz.func231, Tryz.ntmps231
    go_wp2_with (simp only [hcv, hcb, c193, c138])
    go_ret
    exact ⟨rfl, rfl⟩
set_option maxHeartbeats 4000000 in
theorem ceil_x64 (x : Nat) (hx : x < 18446744073709551616) (w : World) : Calls Tryz.prog 229 #[.float .f64 x] w fun e w' => ∃ r, e = .returned (.float .f64 r) ∧ can64 r = ((softWhole Ieee.double 1023 9221120237041090560 2 x : Nat) : Int) ∧ sameWorld w w' := by
  have hx2 : x < 2 * Ieee.double.signWeight := by rw [sw_64]; exact hx
  obtain ⟨s1, s2⟩ := ceil_soft fmt_double (by decide) 9221120237041090560 hx2
  have ht := fun w => cut_x64 x hx w
  rw [show 1023 * 2 ^ Ieee.double.fractionBits = 4607182418800017408 by decide] at s1
  generalize cutWd Ieee.double 1023 x = t at *
  cases h1 : Ieee.double.order t x == some .lt
  · have hs := s2 h1
    have h1' : (FloatKind.f64.format.order t x == some .lt) = false := h1
    clear s1 s2 h1
    go_enter Tryz.func229, Tryz.ntmps229
    go_wp2_with (go_at_call 231; refine (ht _).mono ?_; rintro e w' ⟨rfl, rfl⟩)
    go_ret
    exact ⟨_, rfl, by rw [can64_B, hs], sw_refl _⟩
  · obtain ⟨r, hr, hs⟩ := s1 h1
    have h1' : (FloatKind.f64.format.order t x == some .lt) = true := h1
    have h2 : floatBits .add .f64 t 4607182418800017408 = some r := hr
    have hb : ∀ w, (binOp .add 271 (.float .f64 t) (.float .f64 4607182418800017408)).run Tryz.prog w = .ok (.float .f64 r) w := fun w => run_float_arith w .add 271 .f64 t 4607182418800017408 r h2
    clear s1 s2 h1 hr h2
    go_enter Tryz.func229, Tryz.ntmps229
    go_wp2_with (first | (go_at_call 231; refine (ht _).mono ?_; rintro e w' ⟨rfl, rfl⟩) | simp only [hb])
    go_ret
    exact ⟨_, rfl, by rw [can64_B, hs], sw_refl _⟩
set_option maxHeartbeats 4000000 in
theorem floor_x64 (x : Nat) (hx : x < 18446744073709551616) (w : World) : Calls Tryz.prog 230 #[.float .f64 x] w fun e w' => ∃ r, e = .returned (.float .f64 r) ∧ can64 r = ((softWhole Ieee.double 1023 9221120237041090560 3 x : Nat) : Int) ∧ sameWorld w w' := by
  have hx2 : x < 2 * Ieee.double.signWeight := by rw [sw_64]; exact hx
  obtain ⟨s1, s2⟩ := floor_soft fmt_double (by decide) 9221120237041090560 hx2
  have ht := fun w => cut_x64 x hx w
  rw [show 1023 * 2 ^ Ieee.double.fractionBits = 4607182418800017408 by decide] at s1
  generalize cutWd Ieee.double 1023 x = t at *
  cases h1 : Ieee.double.order t x == some .gt
  · have hs := s2 h1
    have h1' : (FloatKind.f64.format.order t x == some .gt) = false := h1
    clear s1 s2 h1
    go_enter Tryz.func230, Tryz.ntmps230
    go_wp2_with (go_at_call 231; refine (ht _).mono ?_; rintro e w' ⟨rfl, rfl⟩)
    go_ret
    exact ⟨_, rfl, by rw [can64_B, hs], sw_refl _⟩
  · obtain ⟨r, hr, hs⟩ := s1 h1
    have h1' : (FloatKind.f64.format.order t x == some .gt) = true := h1
    have h2 : floatBits .sub .f64 t 4607182418800017408 = some r := hr
    have hb : ∀ w, (binOp .sub 271 (.float .f64 t) (.float .f64 4607182418800017408)).run Tryz.prog w = .ok (.float .f64 r) w := fun w => run_float_arith w .sub 271 .f64 t 4607182418800017408 r h2
    clear s1 s2 h1 hr h2
    go_enter Tryz.func230, Tryz.ntmps230
    go_wp2_with (first | (go_at_call 231; refine (ht _).mono ?_; rintro e w' ⟨rfl, rfl⟩) | simp only [hb])
    go_ret
    exact ⟨_, rfl, by rw [can64_B, hs], sw_refl _⟩
set_option maxHeartbeats 4000000 in
theorem near_x64 (x : Nat) (hx : x < 18446744073709551616) (w : World) : Calls Tryz.prog 232 #[.float .f64 x] w fun e w' => ∃ r, e = .returned (.float .f64 r) ∧ can64 r = ((softWhole Ieee.double 1023 9221120237041090560 5 x : Nat) : Int) ∧ sameWorld w w' := by
  have hx2 : x < 2 * Ieee.double.signWeight := by rw [sw_64]; exact hx
  have hin := in_rng fmt_double (by decide) hx2
  rw [cst_64.1, cst_64.2] at hin
  have hout := soft_out fmt_double 9221120237041090560 5 hx2
  cases h1 : Ieee.double.order x 14064741636278059008 == some .gt
  · have hz := hout (fun e => by rw [(hin.2 e).1] at h1; cases h1)
    have h1' : (FloatKind.f64.format.order x 14064741636278059008 == some .gt) = false := h1
    clear hin hout h1
    go_enter Tryz.func232, Tryz.ntmps232
    go_wp2
    go_ret
    exact ⟨_, rfl, by rw [can64_B, hz], sw_refl _⟩
  cases h2 : Ieee.double.order x 4841369599423283200 == some .lt
  · have hz := hout (fun e => by rw [(hin.2 e).2] at h2; cases h2)
    have h1' : (FloatKind.f64.format.order x 14064741636278059008 == some .gt) = true := h1
    have h2' : (FloatKind.f64.format.order x 4841369599423283200 == some .lt) = false := h2
    clear hin hout h1 h2
    go_enter Tryz.func232, Tryz.ntmps232
    go_wp2
    go_ret
    exact ⟨_, rfl, by rw [can64_B, hz], sw_refl _⟩
  have he := hin.1 ⟨h1, h2⟩
  have h1' : (FloatKind.f64.format.order x 14064741636278059008 == some .gt) = true := h1
  have h2' : (FloatKind.f64.format.order x 4841369599423283200 == some .lt) = true := h2
  obtain ⟨r1, r2, a1, a2, a3, a4, a5⟩ := near_soft fmt_double (by decide) 9221120237041090560 hx2 he
  rw [show (1023 + Ieee.double.fractionBits) * 2 ^ Ieee.double.fractionBits = 4841369599423283200 by decide] at a1 a2
  have hwb := word_back fmt_double hx2
  have hmod : exB Ieee.double x * 2 ^ Ieee.double.fractionBits + frB Ieee.double x = x % Ieee.double.signWeight := by
    unfold exB frB; rw [Nat.mul_comm]; exact Nat.div_add_mod _ _
  rw [hmod] at hwb
  have hsg := sgn_and_64 x hx
  have hml : x % Ieee.double.signWeight < Ieee.double.signWeight := Nat.mod_lt _ (by rw [sw_64]; decide)
  have hs2 : floatBits .sub .f64 r1 4841369599423283200 = some r2 := a2
  have h5 : ∀ w, (binOp .sub 271 (.float .f64 r1) (.float .f64 4841369599423283200)).run Tryz.prog w = .ok (.float .f64 r2) w := fun w => run_float_arith w .sub 271 .f64 r1 4841369599423283200 r2 hs2
  cases hs : sgB Ieee.double x
  · rw [hs] at hwb hsg a5
    have hx0 : Ieee.double.word false (x % Ieee.double.signWeight) = x := hwb
    rw [hx0] at a1
    have ha2 : floatBits .add .f64 x 4841369599423283200 = some r1 := a1
    have h4 : ∀ w, (binOp .add 271 (.float .f64 x) (.float .f64 4841369599423283200)).run Tryz.prog w = .ok (.float .f64 r1) w := fun w => run_float_arith w .add 271 .f64 x 4841369599423283200 r1 ha2
    have h3 : bits .and .u64 (x : Int) 9223372036854775808 = 0 := hsg
    have h3' : (bits .and .u64 (x : Int) 9223372036854775808 != 0) = false := by rw [h3]; rfl
    have h9 : can64 r2 = ((softWhole Ieee.double 1023 9221120237041090560 5 x : Nat) : Int) := by rw [can64_B]; exact congrArg _ a5
    clear hin hout h1 h2 a1 a2 a3 a4 a5 hwb hmod hsg hml hs2 ha2 hx0 hs he
    go_enter Tryz.func232, Tryz.ntmps232
    go_wp2_with (simp only [c193, h4, h5])
    go_ret
    exact ⟨_, rfl, h9, sw_refl _⟩
  · rw [hs] at hwb hsg a5
    have hng : Op.negFloat .f64 x = Ieee.double.word false (x % Ieee.double.signWeight) := by
      show x ^^^ 2 ^ (Ieee.double.exponentBits + Ieee.double.fractionBits) = _
      rw [neg_flip Ieee.double hx2]
      conv => lhs; rw [← hwb]
      rw [word_flip fmt_double true hml]
      rfl
    rw [← hng] at a1
    have ha2 : floatBits .add .f64 (Op.negFloat .f64 x) 4841369599423283200 = some r1 := a1
    have h4 : ∀ w, (binOp .add 271 (.float .f64 (Op.negFloat .f64 x)) (.float .f64 4841369599423283200)).run Tryz.prog w = .ok (.float .f64 r1) w := fun w => run_float_arith w .add 271 .f64 (Op.negFloat .f64 x) 4841369599423283200 r1 ha2
    have h3 : bits .and .u64 (x : Int) 9223372036854775808 = 9223372036854775808 := hsg
    have h3' : (bits .and .u64 (x : Int) 9223372036854775808 != 0) = true := by rw [h3]; rfl
    have h9 : can64 (Op.negFloat .f64 r2) = ((softWhole Ieee.double 1023 9221120237041090560 5 x : Nat) : Int) := by
      rw [can64_B]
      have e : Op.negFloat .f64 r2 = Ieee.double.word true r2 := by
        show r2 ^^^ 2 ^ (Ieee.double.exponentBits + Ieee.double.fractionBits) = _
        rw [neg_flip Ieee.double (by omega), show r2 = Ieee.double.word false r2 from rfl, word_flip fmt_double false a3]
        rfl
      rw [e]
      exact congrArg _ a5
    clear hin hout h1 h2 a1 a2 a3 a4 a5 hwb hmod hsg hml hs2 ha2 hng hs he
    go_enter Tryz.func232, Tryz.ntmps232
    go_wp2_with (simp only [c193, h4, h5])
    go_ret
    exact ⟨_, rfl, h9, sw_refl _⟩
end Go.Proofs.Qxb6500275aGreatDoor
