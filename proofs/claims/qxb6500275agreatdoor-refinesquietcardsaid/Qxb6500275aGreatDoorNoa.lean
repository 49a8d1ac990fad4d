import Derived.Test.Qxb6500275aGreatDoorNo9
set_option maxRecDepth 100000
set_option linter.unusedVariables false
set_option linter.unusedSimpArgs false
namespace Go.Proofs.Qxb6500275aGreatDoor
open Go Go.RowKit
section
open Ieee
variable {F : Format} {bi : Nat}
theorem read_nan (hF : Fmt F bi) {v : Nat} (hv : v < 2 * F.signWeight) (h : nanB F v = true) : ∃ s t, F.read v = .nan s t := by
  have hn := (nan_isN hF).1 h
  have hrd := hF.read hv
  rw [if_neg (by have := hn.1; omega), if_neg (by have := hn.1; omega), if_neg hn.2] at hrd
  exact ⟨_, _, hrd⟩
theorem nan3 (hF : Fmt F bi) {v : Nat} (h : nanB F v = false) : (unpS F bi v).2.1 ≠ 3 := fun e => by rw [(nan_unp hF).2 e] at h; cases h
theorem sum_nan (x y : Datum) (h : (∃ s t, x = .nan s t) ∨ (∃ s t, y = .nan s t)) : Datum.sum x y = none := by
  rcases h with ⟨s, t, rfl⟩ | ⟨s, t, rfl⟩
  · cases y <;> rfl
  · cases x <;> rfl
theorem prod_nan (x y : Datum) (h : (∃ s t, x = .nan s t) ∨ (∃ s t, y = .nan s t)) : Datum.product x y = none := by
  rcases h with ⟨s, t, rfl⟩ | ⟨s, t, rfl⟩
  · cases y <;> rfl
  · cases x <;> rfl
theorem quot_nan (k : Nat) (x y : Datum) (h : (∃ s t, x = .nan s t) ∨ (∃ s t, y = .nan s t)) : Datum.quotient k x y = none := by
  rcases h with ⟨s, t, rfl⟩ | ⟨s, t, rfl⟩
  · cases y <;> rfl
  · cases x <;> rfl
theorem fb_add (hF : Fmt F bi) (can : Nat) {a b : Nat} (ha : a < 2 * F.signWeight) (hb : b < 2 * F.signWeight) : fbinM F bi can 0 a b = (F.add a b).getD can := by
  unfold fbinM
  cases na : nanB F a
  · cases nb : nanB F b
    · simp only [Bool.false_eq_true, if_false, if_true]
      exact soft_add hF can ha hb (nan3 hF na) (nan3 hF nb)
    · simp only [Bool.false_eq_true, if_false, if_true]
      unfold Format.add
      rw [sum_nan _ _ (.inr (read_nan hF hb nb))]; rfl
  · simp only [if_true]
    unfold Format.add
    rw [sum_nan _ _ (.inl (read_nan hF ha na))]; rfl
theorem fb_sub (hF : Fmt F bi) (can : Nat) {a b : Nat} (ha : a < 2 * F.signWeight) (hb : b < 2 * F.signWeight) : fbinM F bi can 1 a b = (F.sub a b).getD can := by
  obtain ⟨f1, f2⟩ := flip_lt hb
  have hnf : nanB F (flipW F b) = nanB F b := by unfold nanB; rw [f2]
  rw [sub_flip hF a hb, ← fb_add hF can ha f1]
  unfold fbinM
  rw [hnf]
  cases nanB F a <;> cases nanB F b <;> simp
theorem fb_mul (hF : Fmt F bi) (can : Nat) {a b : Nat} (ha : a < 2 * F.signWeight) (hb : b < 2 * F.signWeight) : fbinM F bi can 2 a b = (F.mul a b).getD can := by
  unfold fbinM
  cases na : nanB F a
  · cases nb : nanB F b
    · simp only [Bool.false_eq_true, if_false, if_true, show ¬ (2 = 0) by decide, show ¬ (2 = 1) by decide]
      exact soft_mul hF can ha hb (nan3 hF na) (nan3 hF nb)
    · simp only [Bool.false_eq_true, if_false, if_true]
      unfold Format.mul
      rw [prod_nan _ _ (.inr (read_nan hF hb nb))]; rfl
  · simp only [if_true]
    unfold Format.mul
    rw [prod_nan _ _ (.inl (read_nan hF ha na))]; rfl
theorem fb_div (hF : Fmt F bi) (can : Nat) {a b : Nat} (ha : a < 2 * F.signWeight) (hb : b < 2 * F.signWeight) : fbinM F bi can 3 a b = (F.div a b).getD can := by
  unfold fbinM
  cases na : nanB F a
  · cases nb : nanB F b
    · simp only [Bool.false_eq_true, if_false, if_true, show ¬ (3 = 0) by decide, show ¬ (3 = 1) by decide, show ¬ (3 = 2) by decide]
      exact soft_div hF can ha hb (nan3 hF na) (nan3 hF nb)
    · simp only [Bool.false_eq_true, if_false, if_true]
      unfold Format.div
      rw [quot_nan _ _ _ (.inr (read_nan hF hb nb))]; rfl
  · simp only [if_true]
    unfold Format.div
    rw [quot_nan _ _ _ (.inl (read_nan hF ha na))]; rfl
/- equal to nought -/
theorem order_zero (hF : Fmt F bi) {b : Nat} (hb : b < 2 * F.signWeight) : (F.order b 0 == some .eq) = decide (b % F.signWeight = 0) := by
  have hs0 := hF.sw0
  have hinf : 0 < F.infRung := by rw [hF.inf]; exact Nat.mul_pos (by omega) (Nat.two_pow_pos _)
  by_cases hn : isN F bi b
  · rw [order_nan hF hb hn, decide_eq_false]
    · rfl
    · intro e
      have h1 := hn.1
      unfold exB at h1
      rw [e, Nat.zero_div] at h1
      omega
  · obtain ⟨z1, z2⟩ := word_num hF false (r := 0) (by omega)
    have hz : F.word false 0 = 0 := rfl
    have hs := sgR_word hF false (r := 0) (by omega)
    rw [hz] at z1 z2 hs
    rw [soft_order hF hb z2 hn z1, hs, Bool.eq_iff_iff, beq_iff_eq, Option.some.injEq, cmp_eq_iff, decide_eq_true_iff]
    unfold sgR
    cases sgB F b
    · simp only [Bool.false_eq_true, if_false]; omega
    · simp only [Bool.false_eq_true, if_false, if_true]; omega
theorem unp_zero (hF : Fmt F bi) {b : Nat} (h : b % F.signWeight = 0) : (unpS F bi b).2.1 = 0 ∧ (unpS F bi b).1 = sgB F b := by
  have h1 : exB F b = 0 := by unfold exB; rw [h, Nat.zero_div]
  have h2 : frB F b = 0 := by unfold frB; rw [h, Nat.zero_mod]
  unfold unpS
  rw [if_neg (by omega), if_pos h1, if_pos h2]
  exact ⟨rfl, rfl⟩
theorem unp_nz (hF : Fmt F bi) {b : Nat} (h : b % F.signWeight ≠ 0) : (unpS F bi b).2.1 ≠ 0 ∧ (unpS F bi b).1 = sgB F b := by
  have hmod : exB F b * 2 ^ F.fractionBits + frB F b = b % F.signWeight := by
    unfold exB frB; rw [Nat.mul_comm]; exact Nat.div_add_mod _ _
  unfold unpS
  by_cases h1 : exB F b = 2 * bi + 1
  · rw [if_pos h1]
    by_cases h2 : frB F b = 0
    · rw [if_pos h2]; exact ⟨by simp, rfl⟩
    · rw [if_neg h2]; exact ⟨by simp, rfl⟩
  · rw [if_neg h1]
    by_cases h0 : exB F b = 0
    · rw [if_pos h0]
      by_cases h2 : frB F b = 0
      · rw [h0, h2] at hmod; simp at hmod; omega
      · rw [if_neg h2]; exact ⟨by simp, rfl⟩
    · rw [if_neg h0]; exact ⟨by simp, rfl⟩
/- by nought -/
theorem div_zero (hF : Fmt F bi) (can : Nat) {a b : Nat} (hb : b % F.signWeight = 0) (na : nanB F a = false) : softDiv F bi can a b = if a % F.signWeight = 0 then can else F.word (sgB F a ^^ sgB F b) F.infRung := by
  obtain ⟨kb, sb⟩ := unp_zero hF hb
  unfold softDiv
  dsimp only
  rw [kb, sb]
  by_cases h0 : a % F.signWeight = 0
  · obtain ⟨ka, sa⟩ := unp_zero hF h0
    rw [ka, if_neg (by decide), if_neg (by decide), if_pos rfl, if_pos rfl, if_pos h0]
  · obtain ⟨ka, sa⟩ := unp_nz hF h0
    rw [sa, if_neg h0]
    by_cases k2 : (unpS F bi a).2.1 = 2
    · rw [if_pos k2, if_neg (by decide)]
    · rw [if_neg k2, if_neg (by decide), if_pos rfl, if_neg ka]
end
theorem andn_32 (a : Nat) (h : a < 4294967296) : bits .andNot .u32 (a : Int) 2147483648 = ((a % 2147483648 : Nat) : Int) := by
  unfold bits
  have e : (BitVec.ofInt IntKind.u32.bits (a : Int) &&& ~~~ BitVec.ofInt IntKind.u32.bits 2147483648).toNat = a % 2147483648 := by
    have e1 : (BitVec.ofInt IntKind.u32.bits (a : Int)).toNat = a := ofInt_n32 a h
    have e2 : (~~~ BitVec.ofInt IntKind.u32.bits 2147483648).toNat = 2147483647 := by decide
    rw [BitVec.toNat_and, e1, e2]
    exact Nat.and_two_pow_sub_one_eq_mod a 31
  simp only [e, wrap_u32]
  omega
theorem sgn_or_32 (s : Bool) (r : Nat) (h : r < 2147483648) : bits .or .u32 (r : Int) ((Ieee.single.word s 0 : Nat) : Int) = ((Ieee.single.word s r : Nat) : Int) := by
  have hw : Ieee.single.word s 0 < 4294967296 := by rw [word_32]; split <;> omega
  have h1 := bits_or_32 r (Ieee.single.word s 0) (by omega) hw
  have h2 : r ||| Ieee.single.word s 0 = Ieee.single.word s r := by
    rw [word_32, word_32]
    cases s
    · simp
    · simp only [if_true]
      rw [Nat.or_comm, or_sum (2147483648 + 0) r 31 h (by decide)]
  rw [h2] at h1
  exact h1
theorem sgn_xor_32 (a b : Nat) (ha : a < 4294967296) (hb : b < 4294967296) : a ^^^ b < 4294967296 ∧ sgB Ieee.single (a ^^^ b) = (sgB Ieee.single a ^^ sgB Ieee.single b) := by
  have hl : a ^^^ b < 2 ^ 32 := Nat.xor_lt_two_pow ha hb
  refine ⟨hl, ?_⟩
  have key : ∀ x : Nat, x < 4294967296 → decide (2147483648 ≤ x) = x.testBit 31 := fun x hx => by
    by_cases hc : 2147483648 ≤ x
    · rw [decide_eq_true hc, Nat.testBit_eq_decide_div_mod_eq]
      have : x / 2 ^ 31 = 1 := Nat.div_eq_of_lt_le (by omega) (by omega)
      rw [this]; rfl
    · rw [decide_eq_false hc, Nat.testBit_lt_two_pow (by omega)]
  unfold sgB
  rw [sw_32, key _ hl, key a ha, key b hb, Nat.testBit_xor]
set_option maxHeartbeats 4000000 in
theorem rf32_139 (a b : Nat) (ha : a < 4294967296) (hb : b < 4294967296) (w : World) : Calls Tryz.prog 176 #[.int .i64 139, .int .u32 (a : Int), .int .u32 (b : Int)] w fun e w' => e = .returned (.int .u32 (((funM Ieee.single 127 2143289344 0 a) : Nat) : Int)) ∧ sameWorld w w' := by
  have ha2 : a < 2 * Ieee.single.signWeight := by rw [sw_32]; exact ha
  have hb2 : b < 2 * Ieee.single.signWeight := by rw [sw_32]; exact hb
  unfold funM
  rw [if_pos rfl, sw_32]
  have h1 := andn_32 a ha
  go_enter Tryz.func176, Tryz.ntmps176
  go_wp2_with (simp only [c136])
  go_ret
  exact ⟨by first | rfl | exact ret1_eq h1, sw_refl _⟩
set_option maxHeartbeats 4000000 in
theorem rf32_140 (a b : Nat) (ha : a < 4294967296) (hb : b < 4294967296) (w : World) : Calls Tryz.prog 176 #[.int .i64 140, .int .u32 (a : Int), .int .u32 (b : Int)] w fun e w' => e = .returned (.int .u32 (((funM Ieee.single 127 2143289344 1 a) : Nat) : Int)) ∧ sameWorld w w' := by
  have ha2 : a < 2 * Ieee.single.signWeight := by rw [sw_32]; exact ha
  have hb2 : b < 2 * Ieee.single.signWeight := by rw [sw_32]; exact hb
  unfold funM
  rw [if_neg (by decide), if_pos rfl]
  have h0 := bits_xor_32 a 2147483648 ha (by decide)
  have h2 := neg_flip Ieee.single ha2
  have h3 : a ^^^ 2147483648 = flipW Ieee.single a := h2
  rw [h3] at h0
  have h1 : bits .xor .u32 (a : Int) 2147483648 = ((flipW Ieee.single a : Nat) : Int) := h0
  clear h0 h2 h3
  generalize flipW Ieee.single a = Z at *
  go_enter Tryz.func176, Tryz.ntmps176
  go_wp2_with (simp only [c136])
  go_ret
  exact ⟨by first | rfl | exact ret1_eq h1, sw_refl _⟩
set_option maxHeartbeats 4000000 in
theorem rf32_141 (a b : Nat) (ha : a < 4294967296) (hb : b < 4294967296) (w : World) : Calls Tryz.prog 176 #[.int .i64 141, .int .u32 (a : Int), .int .u32 (b : Int)] w fun e w' => e = .returned (.int .u32 (((funM Ieee.single 127 2143289344 2 a) : Nat) : Int)) ∧ sameWorld w w' := by
  have ha2 : a < 2 * Ieee.single.signWeight := by rw [sw_32]; exact ha
  have hb2 : b < 2 * Ieee.single.signWeight := by rw [sw_32]; exact hb
  unfold funM
  rw [if_neg (by decide), if_neg (by decide), if_neg (by decide)]
  have hc := fun w => ceil_x32 a ha w
  go_enter Tryz.func176, Tryz.ntmps176
  go_wp2_with (first | simp only [c136, Int.toNat_natCast] | (go_at_call 221; refine (hc _).mono ?_; rintro e w1 ⟨r, rfl, hcan, hsw⟩) | (go_at_call 220; refine (canon32_any _ _).mono ?_; rintro e w' ⟨rfl, rfl⟩))
  go_ret
  exact ⟨by rw [← hcan]; rfl, hsw⟩
set_option maxHeartbeats 4000000 in
theorem rf32_142 (a b : Nat) (ha : a < 4294967296) (hb : b < 4294967296) (w : World) : Calls Tryz.prog 176 #[.int .i64 142, .int .u32 (a : Int), .int .u32 (b : Int)] w fun e w' => e = .returned (.int .u32 (((funM Ieee.single 127 2143289344 3 a) : Nat) : Int)) ∧ sameWorld w w' := by
  have ha2 : a < 2 * Ieee.single.signWeight := by rw [sw_32]; exact ha
  have hb2 : b < 2 * Ieee.single.signWeight := by rw [sw_32]; exact hb
  unfold funM
  rw [if_neg (by decide), if_neg (by decide), if_neg (by decide)]
  have hc := fun w => floor_x32 a ha w
  go_enter Tryz.func176, Tryz.ntmps176
  go_wp2_with (first | simp only [c136, Int.toNat_natCast] | (go_at_call 222; refine (hc _).mono ?_; rintro e w1 ⟨r, rfl, hcan, hsw⟩) | (go_at_call 220; refine (canon32_any _ _).mono ?_; rintro e w' ⟨rfl, rfl⟩))
  go_ret
  exact ⟨by rw [← hcan]; rfl, hsw⟩
set_option maxHeartbeats 4000000 in
theorem rf32_144 (a b : Nat) (ha : a < 4294967296) (hb : b < 4294967296) (w : World) : Calls Tryz.prog 176 #[.int .i64 144, .int .u32 (a : Int), .int .u32 (b : Int)] w fun e w' => e = .returned (.int .u32 (((funM Ieee.single 127 2143289344 5 a) : Nat) : Int)) ∧ sameWorld w w' := by
  have ha2 : a < 2 * Ieee.single.signWeight := by rw [sw_32]; exact ha
  have hb2 : b < 2 * Ieee.single.signWeight := by rw [sw_32]; exact hb
  unfold funM
  rw [if_neg (by decide), if_neg (by decide), if_neg (by decide)]
  have hc := fun w => near_x32 a ha w
  go_enter Tryz.func176, Tryz.ntmps176
  go_wp2_with (first | simp only [c136, Int.toNat_natCast] | (go_at_call 224; refine (hc _).mono ?_; rintro e w1 ⟨r, rfl, hcan, hsw⟩) | (go_at_call 220; refine (canon32_any _ _).mono ?_; rintro e w' ⟨rfl, rfl⟩))
  go_ret
  exact ⟨by rw [← hcan]; rfl, hsw⟩
set_option maxHeartbeats 4000000 in
theorem rf32_143 (a b : Nat) (ha : a < 4294967296) (hb : b < 4294967296) (w : World) : Calls Tryz.prog 176 #[.int .i64 143, .int .u32 (a : Int), .int .u32 (b : Int)] w fun e w' => e = .returned (.int .u32 (((funM Ieee.single 127 2143289344 4 a) : Nat) : Int)) ∧ sameWorld w w' := by
  have ha2 : a < 2 * Ieee.single.signWeight := by rw [sw_32]; exact ha
  have hb2 : b < 2 * Ieee.single.signWeight := by rw [sw_32]; exact hb
  unfold funM
  rw [if_neg (by decide), if_neg (by decide), if_neg (by decide)]
  have hc := fun w => cut_x32 a ha w
  have hs := cut_soft fmt_single (by decide) 2143289344 ha2
  have hcan : can32 (cutWd Ieee.single 127 a) = ((softWhole Ieee.single 127 2143289344 4 a : Nat) : Int) := by rw [can32_B, hs]
  generalize cutWd Ieee.single 127 a = r at *
  clear hs
  go_enter Tryz.func176, Tryz.ntmps176
  go_wp2_with (first | simp only [c136, Int.toNat_natCast] | (go_at_call 223; refine (hc _).mono ?_; rintro e w' ⟨rfl, rfl⟩) | (go_at_call 220; refine (canon32_any _ _).mono ?_; rintro e w' ⟨rfl, rfl⟩))
  go_ret
  exact ⟨by rw [← hcan]; rfl, sw_refl _⟩
set_option maxHeartbeats 4000000 in
theorem rf32_146 (a b : Nat) (ha : a < 4294967296) (hb : b < 4294967296) (w : World) : Calls Tryz.prog 176 #[.int .i64 146, .int .u32 (a : Int), .int .u32 (b : Int)] w fun e w' => e = .returned (.int .u32 (((fbinX Ieee.single 127 2143289344 0 a b) : Nat) : Int)) ∧ sameWorld w w' := by
  have ha2 : a < 2 * Ieee.single.signWeight := by rw [sw_32]; exact ha
  have hb2 : b < 2 * Ieee.single.signWeight := by rw [sw_32]; exact hb
  unfold fbinX
  rw [if_neg (by decide), fb_add fmt_single 2143289344 ha2 hb2]
  cases h : Ieee.single.add a b with
  | some r =>
    have h' : floatBits .add .f32 a b = some r := h
    have hr : ∀ w, (binOp .add 268 (.float .f32 a) (.float .f32 b)).run Tryz.prog w = .ok (.float .f32 r) w := fun w => run_float_arith w .add 268 .f32 a b r h'
    have hcan : can32 r = (r : Int) := by rw [can32_B, add_can fmt_single 2143289344 h]
    clear h h'
    go_enter Tryz.func176, Tryz.ntmps176
    go_wp2_with (first | simp only [c136, Int.toNat_natCast, hr] | (go_at_call 220; refine (canon32_any _ _).mono ?_; rw [hcan]; rintro e w' ⟨rfl, rfl⟩))
    go_ret
    exact ⟨rfl, sw_refl _⟩
  | none =>
    have h' : floatBits .add .f32 a b = none := h
    have hr : ∀ w, (binOp .add 268 (.float .f32 a) (.float .f32 b)).run Tryz.prog w = .ok (.float .f32 (nanAt .f32 a b w)) w.drew := fun w => run_arith_nan .add (by decide) 268 .f32 a b h' w
    have hcn := can32_nan (nanAt_is .f32 a b w)
    clear h h'
    go_enter Tryz.func176, Tryz.ntmps176
    go_wp2_with (first | simp only [c136, Int.toNat_natCast, hr] | (go_at_call 220; refine (canon32_any _ _).mono ?_; rw [hcn]; rintro e w' ⟨rfl, rfl⟩))
    go_ret
    exact ⟨rfl, sw_drew _⟩
set_option maxHeartbeats 4000000 in
theorem rf32_147 (a b : Nat) (ha : a < 4294967296) (hb : b < 4294967296) (w : World) : Calls Tryz.prog 176 #[.int .i64 147, .int .u32 (a : Int), .int .u32 (b : Int)] w fun e w' => e = .returned (.int .u32 (((fbinX Ieee.single 127 2143289344 1 a b) : Nat) : Int)) ∧ sameWorld w w' := by
  have ha2 : a < 2 * Ieee.single.signWeight := by rw [sw_32]; exact ha
  have hb2 : b < 2 * Ieee.single.signWeight := by rw [sw_32]; exact hb
  unfold fbinX
  rw [if_neg (by decide), fb_sub fmt_single 2143289344 ha2 hb2]
  cases h : Ieee.single.sub a b with
  | some r =>
    have h' : floatBits .sub .f32 a b = some r := h
    have hr : ∀ w, (binOp .sub 268 (.float .f32 a) (.float .f32 b)).run Tryz.prog w = .ok (.float .f32 r) w := fun w => run_float_arith w .sub 268 .f32 a b r h'
    have hcan : can32 r = (r : Int) := by rw [can32_B, sub_can fmt_single 2143289344 h]
    clear h h'
    go_enter Tryz.func176, Tryz.ntmps176
    go_wp2_with (first | simp only [c136, Int.toNat_natCast, hr] | (go_at_call 220; refine (canon32_any _ _).mono ?_; rw [hcan]; rintro e w' ⟨rfl, rfl⟩))
    go_ret
    exact ⟨rfl, sw_refl _⟩
  | none =>
    have h' : floatBits .sub .f32 a b = none := h
    have hr : ∀ w, (binOp .sub 268 (.float .f32 a) (.float .f32 b)).run Tryz.prog w = .ok (.float .f32 (nanAt .f32 a b w)) w.drew := fun w => run_arith_nan .sub (by decide) 268 .f32 a b h' w
    have hcn := can32_nan (nanAt_is .f32 a b w)
    clear h h'
    go_enter Tryz.func176, Tryz.ntmps176
    go_wp2_with (first | simp only [c136, Int.toNat_natCast, hr] | (go_at_call 220; refine (canon32_any _ _).mono ?_; rw [hcn]; rintro e w' ⟨rfl, rfl⟩))
    go_ret
    exact ⟨rfl, sw_drew _⟩
set_option maxHeartbeats 4000000 in
theorem rf32_148 (a b : Nat) (ha : a < 4294967296) (hb : b < 4294967296) (w : World) : Calls Tryz.prog 176 #[.int .i64 148, .int .u32 (a : Int), .int .u32 (b : Int)] w fun e w' => e = .returned (.int .u32 (((fbinX Ieee.single 127 2143289344 2 a b) : Nat) : Int)) ∧ sameWorld w w' := by
  have ha2 : a < 2 * Ieee.single.signWeight := by rw [sw_32]; exact ha
  have hb2 : b < 2 * Ieee.single.signWeight := by rw [sw_32]; exact hb
  unfold fbinX
  rw [if_neg (by decide), fb_mul fmt_single 2143289344 ha2 hb2]
  cases h : Ieee.single.mul a b with
  | some r =>
    have h' : floatBits .mul .f32 a b = some r := h
    have hr : ∀ w, (binOp .mul 268 (.float .f32 a) (.float .f32 b)).run Tryz.prog w = .ok (.float .f32 r) w := fun w => run_float_arith w .mul 268 .f32 a b r h'
    have hcan : can32 r = (r : Int) := by rw [can32_B, mul_can fmt_single 2143289344 h]
    clear h h'
    go_enter Tryz.func176, Tryz.ntmps176
    go_wp2_with (first | simp only [c136, Int.toNat_natCast, hr] | (go_at_call 220; refine (canon32_any _ _).mono ?_; rw [hcan]; rintro e w' ⟨rfl, rfl⟩))
    go_ret
    exact ⟨rfl, sw_refl _⟩
  | none =>
    have h' : floatBits .mul .f32 a b = none := h
    have hr : ∀ w, (binOp .mul 268 (.float .f32 a) (.float .f32 b)).run Tryz.prog w = .ok (.float .f32 (nanAt .f32 a b w)) w.drew := fun w => run_arith_nan .mul (by decide) 268 .f32 a b h' w
    have hcn := can32_nan (nanAt_is .f32 a b w)
    clear h h'
    go_enter Tryz.func176, Tryz.ntmps176
    go_wp2_with (first | simp only [c136, Int.toNat_natCast, hr] | (go_at_call 220; refine (canon32_any _ _).mono ?_; rw [hcn]; rintro e w' ⟨rfl, rfl⟩))
    go_ret
    exact ⟨rfl, sw_drew _⟩
set_option maxHeartbeats 4000000 in
theorem rf32_149 (a b : Nat) (ha : a < 4294967296) (hb : b < 4294967296) (w : World) : Calls Tryz.prog 176 #[.int .i64 149, .int .u32 (a : Int), .int .u32 (b : Int)] w fun e w' => e = .returned (.int .u32 (((fbinX Ieee.single 127 2143289344 3 a b) : Nat) : Int)) ∧ sameWorld w w' := by
  have ha2 : a < 2 * Ieee.single.signWeight := by rw [sw_32]; exact ha
  have hb2 : b < 2 * Ieee.single.signWeight := by rw [sw_32]; exact hb
  unfold fbinX
  rw [if_neg (by decide)]
  have hoz := order_zero fmt_single hb2
  have hoa := order_zero fmt_single ha2
  by_cases hz : b % Ieee.single.signWeight = 0
  · rw [decide_eq_true hz] at hoz
    have h1 : (FloatKind.f32.format.order b 0 == some .eq) = true := hoz
    have hnb : nanB Ieee.single b = false := by unfold nanB; rw [hz]; exact decide_eq_false (by rw [show Ieee.single.infRung = 2139095040 by decide]; omega)
    have hself : (Ieee.single.order a a != some .eq) = nanB Ieee.single a := by
      cases hn : nanB Ieee.single a
      · rw [soft_order fmt_single ha2 ha2 (fun e => by rw [(nan_isN fmt_single).2 e] at hn; cases hn) (fun e => by rw [(nan_isN fmt_single).2 e] at hn; cases hn), cmp_self]; rfl
      · rw [order_nan fmt_single ha2 ((nan_isN fmt_single).1 hn)]; rfl
    have hself' : (FloatKind.f32.format.order a a != some .eq) = nanB Ieee.single a := hself
    have hoa' : (FloatKind.f32.format.order a 0 == some .eq) = decide (a % Ieee.single.signWeight = 0) := hoa
    have hdz := div_zero fmt_single 2143289344 (a := a) hz
    cases hn : nanB Ieee.single a
    · rw [hn] at hself'
      have hd := hdz hn
      have hsp : fbinM Ieee.single 127 2143289344 3 a b = softDiv Ieee.single 127 2143289344 a b := by unfold fbinM; rw [hn, hnb]; simp
      rw [hsp, hd]
      by_cases haz : a % Ieee.single.signWeight = 0
      · rw [decide_eq_true haz] at hoa'
        rw [if_pos haz]
        clear hself hoa hoz hdz hd hsp
        go_enter Tryz.func176, Tryz.ntmps176
        go_wp2_with (simp only [c136, Int.toNat_natCast])
        go_ret
        exact ⟨rfl, sw_refl _⟩
      · rw [decide_eq_false haz] at hoa'
        rw [if_neg haz]
        obtain ⟨x1, x2⟩ := sgn_xor_32 a b ha hb
        have y1 := bits_xor_32 a b ha hb
        have y2 := sgn_and_32 (a ^^^ b) x1
        rw [x2] at y2
        have y3 := sgn_or_32 (sgB Ieee.single a ^^ sgB Ieee.single b) 2139095040 (by decide)
        rw [show Ieee.single.infRung = 2139095040 by decide]
        obtain ⟨xx, hxx⟩ : ∃ xx : Nat, a ^^^ b = xx := ⟨_, rfl⟩
        rw [hxx] at y1 y2 x1
        obtain ⟨yy, hyy⟩ : ∃ yy : Nat, Ieee.single.word (sgB Ieee.single a ^^ sgB Ieee.single b) 0 = yy := ⟨_, rfl⟩
        rw [hyy] at y2 y3
        generalize Ieee.single.word (sgB Ieee.single a ^^ sgB Ieee.single b) 2139095040 = ZZ at y3 ⊢
        have y3' : bits .or .u32 2139095040 (yy : Int) = (ZZ : Int) := y3
        clear hself hoa hoz hdz hd hsp hxx hyy x2 y3
        go_enter Tryz.func176, Tryz.ntmps176
        go_wp2_with (simp only [c136, Int.toNat_natCast])
        go_ret
        exact ⟨by first | rfl | (simp only [y1, y2, y3']), sw_refl _⟩
    · rw [hn] at hself'
      have hsp : fbinM Ieee.single 127 2143289344 3 a b = 2143289344 := by unfold fbinM; rw [hn]; rfl
      rw [hsp]
      clear hself hoa hoz hdz hsp
      go_enter Tryz.func176, Tryz.ntmps176
      go_wp2_with (simp only [c136, Int.toNat_natCast])
      go_ret
      exact ⟨rfl, sw_refl _⟩
  · rw [decide_eq_false hz] at hoz
    have h1 : (FloatKind.f32.format.order b 0 == some .eq) = false := hoz
    rw [fb_div fmt_single 2143289344 ha2 hb2]
    clear hoz hoa
    cases h : Ieee.single.div a b with
    | some r =>
      have h' : floatBits .quo .f32 a b = some r := h
      have hr : ∀ w, (binOp .quo 268 (.float .f32 a) (.float .f32 b)).run Tryz.prog w = .ok (.float .f32 r) w := fun w => run_float_arith w .quo 268 .f32 a b r h'
      have hcan : can32 r = (r : Int) := by rw [can32_B, div_can fmt_single 2143289344 h]
      clear h h'
      go_enter Tryz.func176, Tryz.ntmps176
      go_wp2_with (first | simp only [c136, Int.toNat_natCast, hr] | (go_at_call 220; refine (canon32_any _ _).mono ?_; rw [hcan]; rintro e w' ⟨rfl, rfl⟩))
      go_ret
      exact ⟨rfl, sw_refl _⟩
    | none =>
      have h' : floatBits .quo .f32 a b = none := h
      have hr : ∀ w, (binOp .quo 268 (.float .f32 a) (.float .f32 b)).run Tryz.prog w = .ok (.float .f32 (nanAt .f32 a b w)) w.drew := fun w => run_arith_nan .quo (by decide) 268 .f32 a b h' w
      have hcn := can32_nan (nanAt_is .f32 a b w)
      clear h h'
      go_enter Tryz.func176, Tryz.ntmps176
      go_wp2_with (first | simp only [c136, Int.toNat_natCast, hr] | (go_at_call 220; refine (canon32_any _ _).mono ?_; rw [hcn]; rintro e w' ⟨rfl, rfl⟩))
      go_ret
      exact ⟨rfl, sw_drew _⟩
set_option maxHeartbeats 4000000 in
theorem least_x32 (a b : Nat) (ha : a < 4294967296) (hb : b < 4294967296) (w : World) : Calls Tryz.prog 226 #[.int .u32 (a : Int), .int .u32 (b : Int)] w fun e w' => e = .returned (.int .u32 ((fbinM Ieee.single 127 2143289344 4 a b : Nat) : Int)) ∧ w' = w := by
  have ha2 : a < 2 * Ieee.single.signWeight := by rw [sw_32]; exact ha
  have hb2 : b < 2 * Ieee.single.signWeight := by rw [sw_32]; exact hb
  have hself : ∀ v, v < 2 * Ieee.single.signWeight → (FloatKind.f32.format.order v v != some .eq) = nanB Ieee.single v := fun v hv => by
    show (Ieee.single.order v v != some .eq) = _
    cases hn : nanB Ieee.single v
    · rw [soft_order fmt_single hv hv (fun e => by rw [(nan_isN fmt_single).2 e] at hn; cases hn) (fun e => by rw [(nan_isN fmt_single).2 e] at hn; cases hn), cmp_self]; rfl
    · rw [order_nan fmt_single hv ((nan_isN fmt_single).1 hn)]; rfl
  have sa := hself a ha2
  have sb := hself b hb2
  clear hself
  cases hna : nanB Ieee.single a
  · rw [hna] at sa
    cases hnb : nanB Ieee.single b
    · rw [hnb] at sb
      obtain ⟨m1, m2, m3⟩ := min_soft fmt_single ha2 hb2 hna hnb
      have hsp : fbinM Ieee.single 127 2143289344 4 a b = if keyN Ieee.single a < keyN Ieee.single b then a else b := by unfold fbinM; rw [hna, hnb]; simp
      rw [hsp]
      cases ho : Ieee.single.order a b with
      | none =>
        exfalso
        rw [soft_order fmt_single ha2 hb2 (fun e => by rw [(nan_isN fmt_single).2 e] at hna; cases hna) (fun e => by rw [(nan_isN fmt_single).2 e] at hnb; cases hnb)] at ho
        cases ho
      | some c =>
        have ho' : FloatKind.f32.format.order a b = some c := ho
        cases c with
        | eq =>
          have h3 : (FloatKind.f32.format.order a b == some .eq) = true := by rw [ho']; rfl
          have hv := bits_or_32 a b ha hb
          have he : a ||| b = if keyN Ieee.single a < keyN Ieee.single b then a else b := by
            rcases m3 ho with rfl | ⟨z1, z2⟩
            · rw [Nat.or_self, ite_self]
            · rw [sw_32] at z1 z2
              rcases (by omega : a = 0 ∨ a = 2147483648) with rfl | rfl <;> rcases (by omega : b = 0 ∨ b = 2147483648) with rfl | rfl <;> decide
          rw [he] at hv
          generalize (if keyN Ieee.single a < keyN Ieee.single b then a else b) = Z at hv ⊢
          clear m1 m2 m3 ho ho' he hsp hna hnb
          go_enter Tryz.func226, Tryz.ntmps226
          go_wp2_with (simp only [c136, Int.toNat_natCast])
          go_ret
          exact ⟨by first | rfl | exact ret1_eq hv, rfl⟩
        | lt =>
          have h3 : (FloatKind.f32.format.order a b == some .eq) = false := by rw [ho']; rfl
          have h4 : (FloatKind.f32.format.order a b == some .lt) = true := by rw [ho']; rfl
          rw [if_pos (m1 ho)]
          clear m1 m2 m3 ho ho' hsp hna hnb
          go_enter Tryz.func226, Tryz.ntmps226
          go_wp2_with (simp only [c136, Int.toNat_natCast])
          go_ret
          exact ⟨rfl, rfl⟩
        | gt =>
          have h3 : (FloatKind.f32.format.order a b == some .eq) = false := by rw [ho']; rfl
          have h4 : (FloatKind.f32.format.order a b == some .lt) = false := by rw [ho']; rfl
          rw [if_neg (m2 ho).1]
          clear m1 m2 m3 ho ho' hsp hna hnb
          go_enter Tryz.func226, Tryz.ntmps226
          go_wp2_with (simp only [c136, Int.toNat_natCast])
          go_ret
          exact ⟨rfl, rfl⟩
    · rw [hnb] at sb
      have hsp : fbinM Ieee.single 127 2143289344 4 a b = 2143289344 := by unfold fbinM; rw [hna, hnb]; simp
      rw [hsp]
      clear hsp hna hnb
      go_enter Tryz.func226, Tryz.ntmps226
      go_wp2_with (simp only [c136, Int.toNat_natCast])
      go_ret
      exact ⟨rfl, rfl⟩
  · rw [hna] at sa
    have hsp : fbinM Ieee.single 127 2143289344 4 a b = 2143289344 := by unfold fbinM; rw [hna]; simp
    rw [hsp]
    clear hsp hna
    go_enter Tryz.func226, Tryz.ntmps226
    go_wp2_with (simp only [c136, Int.toNat_natCast])
    go_ret
    exact ⟨rfl, rfl⟩
set_option maxHeartbeats 4000000 in
theorem rf32_150 (a b : Nat) (ha : a < 4294967296) (hb : b < 4294967296) (w : World) : Calls Tryz.prog 176 #[.int .i64 150, .int .u32 (a : Int), .int .u32 (b : Int)] w fun e w' => e = .returned (.int .u32 (((fbinX Ieee.single 127 2143289344 4 a b) : Nat) : Int)) ∧ sameWorld w w' := by
  have ha2 : a < 2 * Ieee.single.signWeight := by rw [sw_32]; exact ha
  have hb2 : b < 2 * Ieee.single.signWeight := by rw [sw_32]; exact hb
  unfold fbinX
  rw [if_neg (by decide)]
  have hc := fun w => least_x32 a b ha hb w
  generalize fbinM Ieee.single 127 2143289344 4 a b = Z at *
  go_enter Tryz.func176, Tryz.ntmps176
  go_wp2_with (first | simp only [c136, Int.toNat_natCast] | (go_at_call 226; refine (hc _).mono ?_; rintro e w' ⟨rfl, rfl⟩))
  go_ret
  exact ⟨rfl, sw_refl _⟩
set_option maxHeartbeats 4000000 in
theorem most_x32 (a b : Nat) (ha : a < 4294967296) (hb : b < 4294967296) (w : World) : Calls Tryz.prog 227 #[.int .u32 (a : Int), .int .u32 (b : Int)] w fun e w' => e = .returned (.int .u32 ((fbinM Ieee.single 127 2143289344 5 a b : Nat) : Int)) ∧ w' = w := by
  have ha2 : a < 2 * Ieee.single.signWeight := by rw [sw_32]; exact ha
  have hb2 : b < 2 * Ieee.single.signWeight := by rw [sw_32]; exact hb
  have hself : ∀ v, v < 2 * Ieee.single.signWeight → (FloatKind.f32.format.order v v != some .eq) = nanB Ieee.single v := fun v hv => by
    show (Ieee.single.order v v != some .eq) = _
    cases hn : nanB Ieee.single v
    · rw [soft_order fmt_single hv hv (fun e => by rw [(nan_isN fmt_single).2 e] at hn; cases hn) (fun e => by rw [(nan_isN fmt_single).2 e] at hn; cases hn), cmp_self]; rfl
    · rw [order_nan fmt_single hv ((nan_isN fmt_single).1 hn)]; rfl
  have sa := hself a ha2
  have sb := hself b hb2
  clear hself
  cases hna : nanB Ieee.single a
  · rw [hna] at sa
    cases hnb : nanB Ieee.single b
    · rw [hnb] at sb
      obtain ⟨m1, m2, m3⟩ := min_soft fmt_single ha2 hb2 hna hnb
      have hsp : fbinM Ieee.single 127 2143289344 5 a b = if keyN Ieee.single a < keyN Ieee.single b then b else a := by unfold fbinM; rw [hna, hnb]; simp
      rw [hsp]
      cases ho : Ieee.single.order a b with
      | none =>
        exfalso
        rw [soft_order fmt_single ha2 hb2 (fun e => by rw [(nan_isN fmt_single).2 e] at hna; cases hna) (fun e => by rw [(nan_isN fmt_single).2 e] at hnb; cases hnb)] at ho
        cases ho
      | some c =>
        have ho' : FloatKind.f32.format.order a b = some c := ho
        cases c with
        | eq =>
          have h3 : (FloatKind.f32.format.order a b == some .eq) = true := by rw [ho']; rfl
          have hv := bits_and_32 a b ha hb
          have he : a &&& b = if keyN Ieee.single a < keyN Ieee.single b then b else a := by
            rcases m3 ho with rfl | ⟨z1, z2⟩
            · rw [Nat.and_self, ite_self]
            · rw [sw_32] at z1 z2
              rcases (by omega : a = 0 ∨ a = 2147483648) with rfl | rfl <;> rcases (by omega : b = 0 ∨ b = 2147483648) with rfl | rfl <;> decide
          rw [he] at hv
          generalize (if keyN Ieee.single a < keyN Ieee.single b then b else a) = Z at hv ⊢
          clear m1 m2 m3 ho ho' he hsp hna hnb
          go_enter Tryz.func227, Tryz.ntmps227
          go_wp2_with (simp only [c136, Int.toNat_natCast])
          go_ret
          exact ⟨by first | rfl | exact ret1_eq hv, rfl⟩
        | lt =>
          have h3 : (FloatKind.f32.format.order a b == some .eq) = false := by rw [ho']; rfl
          have h4 : (FloatKind.f32.format.order a b == some .gt) = false := by rw [ho']; rfl
          rw [if_pos (m1 ho)]
          clear m1 m2 m3 ho ho' hsp hna hnb
          go_enter Tryz.func227, Tryz.ntmps227
          go_wp2_with (simp only [c136, Int.toNat_natCast])
          go_ret
          exact ⟨rfl, rfl⟩
        | gt =>
          have h3 : (FloatKind.f32.format.order a b == some .eq) = false := by rw [ho']; rfl
          have h4 : (FloatKind.f32.format.order a b == some .gt) = true := by rw [ho']; rfl
          rw [if_neg (m2 ho).1]
          clear m1 m2 m3 ho ho' hsp hna hnb
          go_enter Tryz.func227, Tryz.ntmps227
          go_wp2_with (simp only [c136, Int.toNat_natCast])
          go_ret
          exact ⟨rfl, rfl⟩
    · rw [hnb] at sb
      have hsp : fbinM Ieee.single 127 2143289344 5 a b = 2143289344 := by unfold fbinM; rw [hna, hnb]; simp
      rw [hsp]
      clear hsp hna hnb
      go_enter Tryz.func227, Tryz.ntmps227
      go_wp2_with (simp only [c136, Int.toNat_natCast])
      go_ret
      exact ⟨rfl, rfl⟩
  · rw [hna] at sa
    have hsp : fbinM Ieee.single 127 2143289344 5 a b = 2143289344 := by unfold fbinM; rw [hna]; simp
    rw [hsp]
    clear hsp hna
    go_enter Tryz.func227, Tryz.ntmps227
    go_wp2_with (simp only [c136, Int.toNat_natCast])
    go_ret
    exact ⟨rfl, rfl⟩
set_option maxHeartbeats 4000000 in
theorem rf32_151 (a b : Nat) (ha : a < 4294967296) (hb : b < 4294967296) (w : World) : Calls Tryz.prog 176 #[.int .i64 151, .int .u32 (a : Int), .int .u32 (b : Int)] w fun e w' => e = .returned (.int .u32 (((fbinX Ieee.single 127 2143289344 5 a b) : Nat) : Int)) ∧ sameWorld w w' := by
  have ha2 : a < 2 * Ieee.single.signWeight := by rw [sw_32]; exact ha
  have hb2 : b < 2 * Ieee.single.signWeight := by rw [sw_32]; exact hb
  unfold fbinX
  rw [if_neg (by decide)]
  have hc := fun w => most_x32 a b ha hb w
  generalize fbinM Ieee.single 127 2143289344 5 a b = Z at *
  go_enter Tryz.func176, Tryz.ntmps176
  go_wp2_with (first | simp only [c136, Int.toNat_natCast] | (go_at_call 227; refine (hc _).mono ?_; rintro e w' ⟨rfl, rfl⟩))
  go_ret
  exact ⟨rfl, sw_refl _⟩
set_option maxHeartbeats 4000000 in
theorem rf32_152 (a b : Nat) (ha : a < 4294967296) (hb : b < 4294967296) (w : World) : Calls Tryz.prog 176 #[.int .i64 152, .int .u32 (a : Int), .int .u32 (b : Int)] w fun e w' => e = .returned (.int .u32 (((fbinX Ieee.single 127 2143289344 6 a b) : Nat) : Int)) ∧ sameWorld w w' := by
  have ha2 : a < 2 * Ieee.single.signWeight := by rw [sw_32]; exact ha
  have hb2 : b < 2 * Ieee.single.signWeight := by rw [sw_32]; exact hb
  unfold fbinX
  rw [if_pos rfl, sw_32]
  have h1 := andn_32 a ha
  have h2 := sgn_and_32 b hb
  have h3 := sgn_or_32 (sgB Ieee.single b) (a % 2147483648) (Nat.mod_lt _ (by decide))
  obtain ⟨x, hx⟩ : ∃ x : Nat, a % 2147483648 = x := ⟨_, rfl⟩
  rw [hx] at h1 h3 ⊢
  obtain ⟨y, hy⟩ : ∃ y : Nat, Ieee.single.word (sgB Ieee.single b) 0 = y := ⟨_, rfl⟩
  rw [hy] at h2 h3
  generalize Ieee.single.word (sgB Ieee.single b) x = Z at h3 ⊢
  clear hx hy
  go_enter Tryz.func176, Tryz.ntmps176
  go_wp2_with (simp only [c136, Int.toNat_natCast])
  go_ret
  exact ⟨by first | rfl | (simp only [h1, h2, h3]), sw_refl _⟩
set_option maxHeartbeats 4000000 in
theorem rl32_91 (a b : Nat) (ha : a < 4294967296) (hb : b < 4294967296) (w : World) : Calls Tryz.prog 170 #[.int .i64 91, .float .f32 a, .float .f32 b] w fun e w' => e = .returned (.bool (cmpM Ieee.single 0 a b)) ∧ w' = w := by
  have ha2 : a < 2 * Ieee.single.signWeight := by rw [sw_32]; exact ha
  have hb2 : b < 2 * Ieee.single.signWeight := by rw [sw_32]; exact hb
  rw [cmp_soft fmt_single (by decide) ha2 hb2]
  go_enter Tryz.func170, Tryz.ntmps170
  go_wp2
  go_ret
  exact ⟨rfl, rfl⟩
set_option maxHeartbeats 4000000 in
theorem rl32_92 (a b : Nat) (ha : a < 4294967296) (hb : b < 4294967296) (w : World) : Calls Tryz.prog 170 #[.int .i64 92, .float .f32 a, .float .f32 b] w fun e w' => e = .returned (.bool (cmpM Ieee.single 1 a b)) ∧ w' = w := by
  have ha2 : a < 2 * Ieee.single.signWeight := by rw [sw_32]; exact ha
  have hb2 : b < 2 * Ieee.single.signWeight := by rw [sw_32]; exact hb
  rw [cmp_soft fmt_single (by decide) ha2 hb2]
  go_enter Tryz.func170, Tryz.ntmps170
  go_wp2
  go_ret
  exact ⟨rfl, rfl⟩
set_option maxHeartbeats 4000000 in
theorem rl32_93 (a b : Nat) (ha : a < 4294967296) (hb : b < 4294967296) (w : World) : Calls Tryz.prog 170 #[.int .i64 93, .float .f32 a, .float .f32 b] w fun e w' => e = .returned (.bool (cmpM Ieee.single 2 a b)) ∧ w' = w := by
  have ha2 : a < 2 * Ieee.single.signWeight := by rw [sw_32]; exact ha
  have hb2 : b < 2 * Ieee.single.signWeight := by rw [sw_32]; exact hb
  rw [cmp_soft fmt_single (by decide) ha2 hb2]
  go_enter Tryz.func170, Tryz.ntmps170
  go_wp2
  go_ret
  exact ⟨rfl, rfl⟩
set_option maxHeartbeats 4000000 in
theorem rl32_94 (a b : Nat) (ha : a < 4294967296) (hb : b < 4294967296) (w : World) : Calls Tryz.prog 170 #[.int .i64 94, .float .f32 a, .float .f32 b] w fun e w' => e = .returned (.bool (cmpM Ieee.single 3 a b)) ∧ w' = w := by
  have ha2 : a < 2 * Ieee.single.signWeight := by rw [sw_32]; exact ha
  have hb2 : b < 2 * Ieee.single.signWeight := by rw [sw_32]; exact hb
  rw [cmp_soft fmt_single (by decide) ha2 hb2]
  go_enter Tryz.func170, Tryz.ntmps170
  go_wp2
  go_ret
  exact ⟨rfl, rfl⟩
set_option maxHeartbeats 4000000 in
theorem rl32_95 (a b : Nat) (ha : a < 4294967296) (hb : b < 4294967296) (w : World) : Calls Tryz.prog 170 #[.int .i64 95, .float .f32 a, .float .f32 b] w fun e w' => e = .returned (.bool (cmpM Ieee.single 4 a b)) ∧ w' = w := by
  have ha2 : a < 2 * Ieee.single.signWeight := by rw [sw_32]; exact ha
  have hb2 : b < 2 * Ieee.single.signWeight := by rw [sw_32]; exact hb
  rw [cmp_soft fmt_single (by decide) ha2 hb2]
  go_enter Tryz.func170, Tryz.ntmps170
  go_wp2
  go_ret
  exact ⟨rfl, rfl⟩
set_option maxHeartbeats 4000000 in
theorem rl32_96 (a b : Nat) (ha : a < 4294967296) (hb : b < 4294967296) (w : World) : Calls Tryz.prog 170 #[.int .i64 96, .float .f32 a, .float .f32 b] w fun e w' => e = .returned (.bool (cmpM Ieee.single 5 a b)) ∧ w' = w := by
  have ha2 : a < 2 * Ieee.single.signWeight := by rw [sw_32]; exact ha
  have hb2 : b < 2 * Ieee.single.signWeight := by rw [sw_32]; exact hb
  rw [cmp_soft fmt_single (by decide) ha2 hb2]
  go_enter Tryz.func170, Tryz.ntmps170
  go_wp2
  go_ret
  exact ⟨rfl, rfl⟩
theorem andn_64 (a : Nat) (h : a < 18446744073709551616) : bits .andNot .u64 (a : Int) 9223372036854775808 = ((a % 9223372036854775808 : Nat) : Int) := by
  unfold bits
  have e : (BitVec.ofInt IntKind.u64.bits (a : Int) &&& ~~~ BitVec.ofInt IntKind.u64.bits 9223372036854775808).toNat = a % 9223372036854775808 := by
    have e1 : (BitVec.ofInt IntKind.u64.bits (a : Int)).toNat = a := ofInt_nat a h
    have e2 : (~~~ BitVec.ofInt IntKind.u64.bits 9223372036854775808).toNat = 9223372036854775807 := by decide
    rw [BitVec.toNat_and, e1, e2]
    exact Nat.and_two_pow_sub_one_eq_mod a 63
  simp only [e, wrap_u64]
  omega
theorem sgn_or_64 (s : Bool) (r : Nat) (h : r < 9223372036854775808) : bits .or .u64 (r : Int) ((Ieee.double.word s 0 : Nat) : Int) = ((Ieee.double.word s r : Nat) : Int) := by
  have hw : Ieee.double.word s 0 < 18446744073709551616 := by rw [word_64]; split <;> omega
  have h1 := bits_or_n r (Ieee.double.word s 0) (by omega) hw
  have h2 : r ||| Ieee.double.word s 0 = Ieee.double.word s r := by
    rw [word_64, word_64]
    cases s
    · simp
    · simp only [if_true]
      rw [Nat.or_comm, or_sum (9223372036854775808 + 0) r 63 h (by decide)]
  rw [h2] at h1
  exact h1
theorem sgn_xor_64 (a b : Nat) (ha : a < 18446744073709551616) (hb : b < 18446744073709551616) : a ^^^ b < 18446744073709551616 ∧ sgB Ieee.double (a ^^^ b) = (sgB Ieee.double a ^^ sgB Ieee.double b) := by
  have hl : a ^^^ b < 2 ^ 64 := Nat.xor_lt_two_pow ha hb
  refine ⟨hl, ?_⟩
  have key : ∀ x : Nat, x < 18446744073709551616 → decide (9223372036854775808 ≤ x) = x.testBit 63 := fun x hx => by
    by_cases hc : 9223372036854775808 ≤ x
    · rw [decide_eq_true hc, Nat.testBit_eq_decide_div_mod_eq]
      have : x / 2 ^ 63 = 1 := Nat.div_eq_of_lt_le (by omega) (by omega)
      rw [this]; rfl
    · rw [decide_eq_false hc, Nat.testBit_lt_two_pow (by omega)]
  unfold sgB
  rw [sw_64, key _ hl, key a ha, key b hb, Nat.testBit_xor]
set_option maxHeartbeats 4000000 in
theorem rf64_153 (a b : Nat) (ha : a < 18446744073709551616) (hb : b < 18446744073709551616) (w : World) : Calls Tryz.prog 177 #[.int .i64 153, .int .u64 (a : Int), .int .u64 (b : Int)] w fun e w' => e = .returned (.int .u64 (((funM Ieee.double 1023 9221120237041090560 0 a) : Nat) : Int)) ∧ sameWorld w w' := by
  have ha2 : a < 2 * Ieee.double.signWeight := by rw [sw_64]; exact ha
  have hb2 : b < 2 * Ieee.double.signWeight := by rw [sw_64]; exact hb
  unfold funM
  rw [if_pos rfl, sw_64]
  have h1 := andn_64 a ha
  go_enter Tryz.func177, Tryz.ntmps177
  go_wp2_with (simp only [c138])
  go_ret
  exact ⟨by first | rfl | exact ret1_eq h1, sw_refl _⟩
set_option maxHeartbeats 4000000 in
theorem rf64_154 (a b : Nat) (ha : a < 18446744073709551616) (hb : b < 18446744073709551616) (w : World) : Calls Tryz.prog 177 #[.int .i64 154, .int .u64 (a : Int), .int .u64 (b : Int)] w fun e w' => e = .returned (.int .u64 (((funM Ieee.double 1023 9221120237041090560 1 a) : Nat) : Int)) ∧ sameWorld w w' := by
  have ha2 : a < 2 * Ieee.double.signWeight := by rw [sw_64]; exact ha
  have hb2 : b < 2 * Ieee.double.signWeight := by rw [sw_64]; exact hb
  unfold funM
  rw [if_neg (by decide), if_pos rfl]
  have h0 := bits_xor_n a 9223372036854775808 ha (by decide)
  have h2 := neg_flip Ieee.double ha2
  have h3 : a ^^^ 9223372036854775808 = flipW Ieee.double a := h2
  rw [h3] at h0
  have h1 : bits .xor .u64 (a : Int) 9223372036854775808 = ((flipW Ieee.double a : Nat) : Int) := h0
  clear h0 h2 h3
  generalize flipW Ieee.double a = Z at *
  go_enter Tryz.func177, Tryz.ntmps177
  go_wp2_with (simp only [c138])
  go_ret
  exact ⟨by first | rfl | exact ret1_eq h1, sw_refl _⟩
set_option maxHeartbeats 4000000 in
theorem rf64_155 (a b : Nat) (ha : a < 18446744073709551616) (hb : b < 18446744073709551616) (w : World) : Calls Tryz.prog 177 #[.int .i64 155, .int .u64 (a : Int), .int .u64 (b : Int)] w fun e w' => e = .returned (.int .u64 (((funM Ieee.double 1023 9221120237041090560 2 a) : Nat) : Int)) ∧ sameWorld w w' := by
  have ha2 : a < 2 * Ieee.double.signWeight := by rw [sw_64]; exact ha
  have hb2 : b < 2 * Ieee.double.signWeight := by rw [sw_64]; exact hb
  unfold funM
  rw [if_neg (by decide), if_neg (by decide), if_neg (by decide)]
  have hc := fun w => ceil_x64 a ha w
  go_enter Tryz.func177, Tryz.ntmps177
  go_wp2_with (first | simp only [c138, Int.toNat_natCast] | (go_at_call 229; refine (hc _).mono ?_; rintro e w1 ⟨r, rfl, hcan, hsw⟩) | (go_at_call 228; refine (canon64_any _ _).mono ?_; rintro e w' ⟨rfl, rfl⟩))
  go_ret
  exact ⟨by rw [← hcan]; rfl, hsw⟩
set_option maxHeartbeats 4000000 in
theorem rf64_156 (a b : Nat) (ha : a < 18446744073709551616) (hb : b < 18446744073709551616) (w : World) : Calls Tryz.prog 177 #[.int .i64 156, .int .u64 (a : Int), .int .u64 (b : Int)] w fun e w' => e = .returned (.int .u64 (((funM Ieee.double 1023 9221120237041090560 3 a) : Nat) : Int)) ∧ sameWorld w w' := by
  have ha2 : a < 2 * Ieee.double.signWeight := by rw [sw_64]; exact ha
  have hb2 : b < 2 * Ieee.double.signWeight := by rw [sw_64]; exact hb
  unfold funM
  rw [if_neg (by decide), if_neg (by decide), if_neg (by decide)]
  have hc := fun w => floor_x64 a ha w
  go_enter Tryz.func177, Tryz.ntmps177
  go_wp2_with (first | simp only [c138, Int.toNat_natCast] | (go_at_call 230; refine (hc _).mono ?_; rintro e w1 ⟨r, rfl, hcan, hsw⟩) | (go_at_call 228; refine (canon64_any _ _).mono ?_; rintro e w' ⟨rfl, rfl⟩))
  go_ret
  exact ⟨by rw [← hcan]; rfl, hsw⟩
set_option maxHeartbeats 4000000 in
theorem rf64_158 (a b : Nat) (ha : a < 18446744073709551616) (hb : b < 18446744073709551616) (w : World) : Calls Tryz.prog 177 #[.int .i64 158, .int .u64 (a : Int), .int .u64 (b : Int)] w fun e w' => e = .returned (.int .u64 (((funM Ieee.double 1023 9221120237041090560 5 a) : Nat) : Int)) ∧ sameWorld w w' := by
  have ha2 : a < 2 * Ieee.double.signWeight := by rw [sw_64]; exact ha
  have hb2 : b < 2 * Ieee.double.signWeight := by rw [sw_64]; exact hb
  unfold funM
  rw [if_neg (by decide), if_neg (by decide), if_neg (by decide)]
  have hc := fun w => near_x64 a ha w
  go_enter Tryz.func177, Tryz.ntmps177
  go_wp2_with (first | simp only [c138, Int.toNat_natCast] | (go_at_call 232; refine (hc _).mono ?_; rintro e w1 ⟨r, rfl, hcan, hsw⟩) | (go_at_call 228; refine (canon64_any _ _).mono ?_; rintro e w' ⟨rfl, rfl⟩))
  go_ret
  exact ⟨by rw [← hcan]; rfl, hsw⟩
set_option maxHeartbeats 4000000 in
theorem rf64_157 (a b : Nat) (ha : a < 18446744073709551616) (hb : b < 18446744073709551616) (w : World) : Calls Tryz.prog 177 #[.int .i64 157, .int .u64 (a : Int), .int .u64 (b : Int)] w fun e w' => e = .returned (.int .u64 (((funM Ieee.double 1023 9221120237041090560 4 a) : Nat) : Int)) ∧ sameWorld w w' := by
  have ha2 : a < 2 * Ieee.double.signWeight := by rw [sw_64]; exact ha
  have hb2 : b < 2 * Ieee.double.signWeight := by rw [sw_64]; exact hb
  unfold funM
  rw [if_neg (by decide), if_neg (by decide), if_neg (by decide)]
  have hc := fun w => cut_x64 a ha w
  have hs := cut_soft fmt_double (by decide) 9221120237041090560 ha2
  have hcan : can64 (cutWd Ieee.double 1023 a) = ((softWhole Ieee.double 1023 9221120237041090560 4 a : Nat) : Int) := by rw [can64_B, hs]
  generalize cutWd Ieee.double 1023 a = r at *
  clear hs
  go_enter Tryz.func177, Tryz.ntmps177
  go_wp2_with (first | simp only [c138, Int.toNat_natCast] | (go_at_call 231; refine (hc _).mono ?_; rintro e w' ⟨rfl, rfl⟩) | (go_at_call 228; refine (canon64_any _ _).mono ?_; rintro e w' ⟨rfl, rfl⟩))
  go_ret
  exact ⟨by rw [← hcan]; rfl, sw_refl _⟩
set_option maxHeartbeats 4000000 in
theorem rf64_160 (a b : Nat) (ha : a < 18446744073709551616) (hb : b < 18446744073709551616) (w : World) : Calls Tryz.prog 177 #[.int .i64 160, .int .u64 (a : Int), .int .u64 (b : Int)] w fun e w' => e = .returned (.int .u64 (((fbinX Ieee.double 1023 9221120237041090560 0 a b) : Nat) : Int)) ∧ sameWorld w w' := by
  have ha2 : a < 2 * Ieee.double.signWeight := by rw [sw_64]; exact ha
  have hb2 : b < 2 * Ieee.double.signWeight := by rw [sw_64]; exact hb
  unfold fbinX
  rw [if_neg (by decide), fb_add fmt_double 9221120237041090560 ha2 hb2]
  cases h : Ieee.double.add a b with
  | some r =>
    have h' : floatBits .add .f64 a b = some r := h
    have hr : ∀ w, (binOp .add 271 (.float .f64 a) (.float .f64 b)).run Tryz.prog w = .ok (.float .f64 r) w := fun w => run_float_arith w .add 271 .f64 a b r h'
    have hcan : can64 r = (r : Int) := by rw [can64_B, add_can fmt_double 9221120237041090560 h]
    clear h h'
    go_enter Tryz.func177, Tryz.ntmps177
    go_wp2_with (first | simp only [c138, Int.toNat_natCast, hr] | (go_at_call 228; refine (canon64_any _ _).mono ?_; rw [hcan]; rintro e w' ⟨rfl, rfl⟩))
    go_ret
    exact ⟨rfl, sw_refl _⟩
  | none =>
    have h' : floatBits .add .f64 a b = none := h
    have hr : ∀ w, (binOp .add 271 (.float .f64 a) (.float .f64 b)).run Tryz.prog w = .ok (.float .f64 (nanAt .f64 a b w)) w.drew := fun w => run_arith_nan .add (by decide) 271 .f64 a b h' w
    have hcn := can64_nan (nanAt_is .f64 a b w)
    clear h h'
    go_enter Tryz.func177, Tryz.ntmps177
    go_wp2_with (first | simp only [c138, Int.toNat_natCast, hr] | (go_at_call 228; refine (canon64_any _ _).mono ?_; rw [hcn]; rintro e w' ⟨rfl, rfl⟩))
    go_ret
    exact ⟨rfl, sw_drew _⟩
set_option maxHeartbeats 4000000 in
theorem rf64_161 (a b : Nat) (ha : a < 18446744073709551616) (hb : b < 18446744073709551616) (w : World) : Calls Tryz.prog 177 #[.int .i64 161, .int .u64 (a : Int), .int .u64 (b : Int)] w fun e w' => e = .returned (.int .u64 (((fbinX Ieee.double 1023 9221120237041090560 1 a b) : Nat) : Int)) ∧ sameWorld w w' := by
  have ha2 : a < 2 * Ieee.double.signWeight := by rw [sw_64]; exact ha
  have hb2 : b < 2 * Ieee.double.signWeight := by rw [sw_64]; exact hb
  unfold fbinX
  rw [if_neg (by decide), fb_sub fmt_double 9221120237041090560 ha2 hb2]
  cases h : Ieee.double.sub a b with
  | some r =>
    have h' : floatBits .sub .f64 a b = some r := h
    have hr : ∀ w, (binOp .sub 271 (.float .f64 a) (.float .f64 b)).run Tryz.prog w = .ok (.float .f64 r) w := fun w => run_float_arith w .sub 271 .f64 a b r h'
    have hcan : can64 r = (r : Int) := by rw [can64_B, sub_can fmt_double 9221120237041090560 h]
    clear h h'
    go_enter Tryz.func177, Tryz.ntmps177
    go_wp2_with (first | simp only [c138, Int.toNat_natCast, hr] | (go_at_call 228; refine (canon64_any _ _).mono ?_; rw [hcan]; rintro e w' ⟨rfl, rfl⟩))
    go_ret
    exact ⟨rfl, sw_refl _⟩
  | none =>
    have h' : floatBits .sub .f64 a b = none := h
    have hr : ∀ w, (binOp .sub 271 (.float .f64 a) (.float .f64 b)).run Tryz.prog w = .ok (.float .f64 (nanAt .f64 a b w)) w.drew := fun w => run_arith_nan .sub (by decide) 271 .f64 a b h' w
    have hcn := can64_nan (nanAt_is .f64 a b w)
    clear h h'
    go_enter Tryz.func177, Tryz.ntmps177
    go_wp2_with (first | simp only [c138, Int.toNat_natCast, hr] | (go_at_call 228; refine (canon64_any _ _).mono ?_; rw [hcn]; rintro e w' ⟨rfl, rfl⟩))
    go_ret
    exact ⟨rfl, sw_drew _⟩
set_option maxHeartbeats 4000000 in
theorem rf64_162 (a b : Nat) (ha : a < 18446744073709551616) (hb : b < 18446744073709551616) (w : World) : Calls Tryz.prog 177 #[.int .i64 162, .int .u64 (a : Int), .int .u64 (b : Int)] w fun e w' => e = .returned (.int .u64 (((fbinX Ieee.double 1023 9221120237041090560 2 a b) : Nat) : Int)) ∧ sameWorld w w' := by
  have ha2 : a < 2 * Ieee.double.signWeight := by rw [sw_64]; exact ha
  have hb2 : b < 2 * Ieee.double.signWeight := by rw [sw_64]; exact hb
  unfold fbinX
  rw [if_neg (by decide), fb_mul fmt_double 9221120237041090560 ha2 hb2]
  cases h : Ieee.double.mul a b with
  | some r =>
    have h' : floatBits .mul .f64 a b = some r := h
    have hr : ∀ w, (binOp .mul 271 (.float .f64 a) (.float .f64 b)).run Tryz.prog w = .ok (.float .f64 r) w := fun w => run_float_arith w .mul 271 .f64 a b r h'
    have hcan : can64 r = (r : Int) := by rw [can64_B, mul_can fmt_double 9221120237041090560 h]
    clear h h'
    go_enter Tryz.func177, Tryz.ntmps177
    go_wp2_with (first | simp only [c138, Int.toNat_natCast, hr] | (go_at_call 228; refine (canon64_any _ _).mono ?_; rw [hcan]; rintro e w' ⟨rfl, rfl⟩))
    go_ret
    exact ⟨rfl, sw_refl _⟩
  | none =>
    have h' : floatBits .mul .f64 a b = none := h
    have hr : ∀ w, (binOp .mul 271 (.float .f64 a) (.float .f64 b)).run Tryz.prog w = .ok (.float .f64 (nanAt .f64 a b w)) w.drew := fun w => run_arith_nan .mul (by decide) 271 .f64 a b h' w
    have hcn := can64_nan (nanAt_is .f64 a b w)
    clear h h'
    go_enter Tryz.func177, Tryz.ntmps177
    go_wp2_with (first | simp only [c138, Int.toNat_natCast, hr] | (go_at_call 228; refine (canon64_any _ _).mono ?_; rw [hcn]; rintro e w' ⟨rfl, rfl⟩))
    go_ret
    exact ⟨rfl, sw_drew _⟩
set_option maxHeartbeats 4000000 in
theorem rf64_163 (a b : Nat) (ha : a < 18446744073709551616) (hb : b < 18446744073709551616) (w : World) : Calls Tryz.prog 177 #[.int .i64 163, .int .u64 (a : Int), .int .u64 (b : Int)] w fun e w' => e = .returned (.int .u64 (((fbinX Ieee.double 1023 9221120237041090560 3 a b) : Nat) : Int)) ∧ sameWorld w w' := by
  have ha2 : a < 2 * Ieee.double.signWeight := by rw [sw_64]; exact ha
  have hb2 : b < 2 * Ieee.double.signWeight := by rw [sw_64]; exact hb
  unfold fbinX
  rw [if_neg (by decide)]
  have hoz := order_zero fmt_double hb2
  have hoa := order_zero fmt_double ha2
  by_cases hz : b % Ieee.double.signWeight = 0
  · rw [decide_eq_true hz] at hoz
    have h1 : (FloatKind.f64.format.order b 0 == some .eq) = true := hoz
    have hnb : nanB Ieee.double b = false := by unfold nanB; rw [hz]; exact decide_eq_false (by rw [show Ieee.double.infRung = 9218868437227405312 by decide]; omega)
    have hself : (Ieee.double.order a a != some .eq) = nanB Ieee.double a := by
      cases hn : nanB Ieee.double a
      · rw [soft_order fmt_double ha2 ha2 (fun e => by rw [(nan_isN fmt_double).2 e] at hn; cases hn) (fun e => by rw [(nan_isN fmt_double).2 e] at hn; cases hn), cmp_self]; rfl
      · rw [order_nan fmt_double ha2 ((nan_isN fmt_double).1 hn)]; rfl
    have hself' : (FloatKind.f64.format.order a a != some .eq) = nanB Ieee.double a := hself
    have hoa' : (FloatKind.f64.format.order a 0 == some .eq) = decide (a % Ieee.double.signWeight = 0) := hoa
    have hdz := div_zero fmt_double 9221120237041090560 (a := a) hz
    cases hn : nanB Ieee.double a
    · rw [hn] at hself'
      have hd := hdz hn
      have hsp : fbinM Ieee.double 1023 9221120237041090560 3 a b = softDiv Ieee.double 1023 9221120237041090560 a b := by unfold fbinM; rw [hn, hnb]; simp
      rw [hsp, hd]
      by_cases haz : a % Ieee.double.signWeight = 0
      · rw [decide_eq_true haz] at hoa'
        rw [if_pos haz]
        clear hself hoa hoz hdz hd hsp
        go_enter Tryz.func177, Tryz.ntmps177
        go_wp2_with (simp only [c138, Int.toNat_natCast])
        go_ret
        exact ⟨rfl, sw_refl _⟩
      · rw [decide_eq_false haz] at hoa'
        rw [if_neg haz]
        obtain ⟨x1, x2⟩ := sgn_xor_64 a b ha hb
        have y1 := bits_xor_n a b ha hb
        have y2 := sgn_and_64 (a ^^^ b) x1
        rw [x2] at y2
        have y3 := sgn_or_64 (sgB Ieee.double a ^^ sgB Ieee.double b) 9218868437227405312 (by decide)
        rw [show Ieee.double.infRung = 9218868437227405312 by decide]
        obtain ⟨xx, hxx⟩ : ∃ xx : Nat, a ^^^ b = xx := ⟨_, rfl⟩
        rw [hxx] at y1 y2 x1
        obtain ⟨yy, hyy⟩ : ∃ yy : Nat, Ieee.double.word (sgB Ieee.double a ^^ sgB Ieee.double b) 0 = yy := ⟨_, rfl⟩
        rw [hyy] at y2 y3
        generalize Ieee.double.word (sgB Ieee.double a ^^ sgB Ieee.double b) 9218868437227405312 = ZZ at y3 ⊢
        have y3' : bits .or .u64 9218868437227405312 (yy : Int) = (ZZ : Int) := y3
        clear hself hoa hoz hdz hd hsp hxx hyy x2 y3
        go_enter Tryz.func177, Tryz.ntmps177
        go_wp2_with (simp only [c138, Int.toNat_natCast])
        go_ret
        exact ⟨by first | rfl | (simp only [y1, y2, y3']), sw_refl _⟩
    · rw [hn] at hself'
      have hsp : fbinM Ieee.double 1023 9221120237041090560 3 a b = 9221120237041090560 := by unfold fbinM; rw [hn]; rfl
      rw [hsp]
      clear hself hoa hoz hdz hsp
      go_enter Tryz.func177, Tryz.ntmps177
      go_wp2_with (simp only [c138, Int.toNat_natCast])
      go_ret
      exact ⟨rfl, sw_refl _⟩
  · rw [decide_eq_false hz] at hoz
    have h1 : (FloatKind.f64.format.order b 0 == some .eq) = false := hoz
    rw [fb_div fmt_double 9221120237041090560 ha2 hb2]
    clear hoz hoa
    cases h : Ieee.double.div a b with
    | some r =>
      have h' : floatBits .quo .f64 a b = some r := h
      have hr : ∀ w, (binOp .quo 271 (.float .f64 a) (.float .f64 b)).run Tryz.prog w = .ok (.float .f64 r) w := fun w => run_float_arith w .quo 271 .f64 a b r h'
      have hcan : can64 r = (r : Int) := by rw [can64_B, div_can fmt_double 9221120237041090560 h]
      clear h h'
      go_enter Tryz.func177, Tryz.ntmps177
      go_wp2_with (first | simp only [c138, Int.toNat_natCast, hr] | (go_at_call 228; refine (canon64_any _ _).mono ?_; rw [hcan]; rintro e w' ⟨rfl, rfl⟩))
      go_ret
      exact ⟨rfl, sw_refl _⟩
    | none =>
      have h' : floatBits .quo .f64 a b = none := h
      have hr : ∀ w, (binOp .quo 271 (.float .f64 a) (.float .f64 b)).run Tryz.prog w = .ok (.float .f64 (nanAt .f64 a b w)) w.drew := fun w => run_arith_nan .quo (by decide) 271 .f64 a b h' w
      have hcn := can64_nan (nanAt_is .f64 a b w)
      clear h h'
      go_enter Tryz.func177, Tryz.ntmps177
      go_wp2_with (first | simp only [c138, Int.toNat_natCast, hr] | (go_at_call 228; refine (canon64_any _ _).mono ?_; rw [hcn]; rintro e w' ⟨rfl, rfl⟩))
      go_ret
      exact ⟨rfl, sw_drew _⟩
set_option maxHeartbeats 4000000 in
theorem least_x64 (a b : Nat) (ha : a < 18446744073709551616) (hb : b < 18446744073709551616) (w : World) : Calls Tryz.prog 233 #[.int .u64 (a : Int), .int .u64 (b : Int)] w fun e w' => e = .returned (.int .u64 ((fbinM Ieee.double 1023 9221120237041090560 4 a b : Nat) : Int)) ∧ w' = w := by
  have ha2 : a < 2 * Ieee.double.signWeight := by rw [sw_64]; exact ha
  have hb2 : b < 2 * Ieee.double.signWeight := by rw [sw_64]; exact hb
  have hself : ∀ v, v < 2 * Ieee.double.signWeight → (FloatKind.f64.format.order v v != some .eq) = nanB Ieee.double v := fun v hv => by
    show (Ieee.double.order v v != some .eq) = _
    cases hn : nanB Ieee.double v
    · rw [soft_order fmt_double hv hv (fun e => by rw [(nan_isN fmt_double).2 e] at hn; cases hn) (fun e => by rw [(nan_isN fmt_double).2 e] at hn; cases hn), cmp_self]; rfl
    · rw [order_nan fmt_double hv ((nan_isN fmt_double).1 hn)]; rfl
  have sa := hself a ha2
  have sb := hself b hb2
  clear hself
  cases hna : nanB Ieee.double a
  · rw [hna] at sa
    cases hnb : nanB Ieee.double b
    · rw [hnb] at sb
      obtain ⟨m1, m2, m3⟩ := min_soft fmt_double ha2 hb2 hna hnb
      have hsp : fbinM Ieee.double 1023 9221120237041090560 4 a b = if keyN Ieee.double a < keyN Ieee.double b then a else b := by unfold fbinM; rw [hna, hnb]; simp
      rw [hsp]
      cases ho : Ieee.double.order a b with
      | none =>
        exfalso
        rw [soft_order fmt_double ha2 hb2 (fun e => by rw [(nan_isN fmt_double).2 e] at hna; cases hna) (fun e => by rw [(nan_isN fmt_double).2 e] at hnb; cases hnb)] at ho
        cases ho
      | some c =>
        have ho' : FloatKind.f64.format.order a b = some c := ho
        cases c with
        | eq =>
          have h3 : (FloatKind.f64.format.order a b == some .eq) = true := by rw [ho']; rfl
          have hv := bits_or_n a b ha hb
          have he : a ||| b = if keyN Ieee.double a < keyN Ieee.double b then a else b := by
            rcases m3 ho with rfl | ⟨z1, z2⟩
            · rw [Nat.or_self, ite_self]
            · rw [sw_64] at z1 z2
              rcases (by omega : a = 0 ∨ a = 9223372036854775808) with rfl | rfl <;> rcases (by omega : b = 0 ∨ b = 9223372036854775808) with rfl | rfl <;> decide
          rw [he] at hv
          generalize (if keyN Ieee.double a < keyN Ieee.double b then a else b) = Z at hv ⊢
          clear m1 m2 m3 ho ho' he hsp hna hnb
          go_enter Tryz.func233, Tryz.ntmps233
          go_wp2_with (simp only [c138, Int.toNat_natCast])
          go_ret
          exact ⟨by first | rfl | exact ret1_eq hv, rfl⟩
        | lt =>
          have h3 : (FloatKind.f64.format.order a b == some .eq) = false := by rw [ho']; rfl
          have h4 : (FloatKind.f64.format.order a b == some .lt) = true := by rw [ho']; rfl
          rw [if_pos (m1 ho)]
          clear m1 m2 m3 ho ho' hsp hna hnb
          go_enter Tryz.func233, Tryz.ntmps233
          go_wp2_with (simp only [c138, Int.toNat_natCast])
          go_ret
          exact ⟨rfl, rfl⟩
        | gt =>
          have h3 : (FloatKind.f64.format.order a b == some .eq) = false := by rw [ho']; rfl
          have h4 : (FloatKind.f64.format.order a b == some .lt) = false := by rw [ho']; rfl
          rw [if_neg (m2 ho).1]
          clear m1 m2 m3 ho ho' hsp hna hnb
          go_enter Tryz.func233, Tryz.ntmps233
          go_wp2_with (simp only [c138, Int.toNat_natCast])
          go_ret
          exact ⟨rfl, rfl⟩
    · rw [hnb] at sb
      have hsp : fbinM Ieee.double 1023 9221120237041090560 4 a b = 9221120237041090560 := by unfold fbinM; rw [hna, hnb]; simp
      rw [hsp]
      clear hsp hna hnb
      go_enter Tryz.func233, Tryz.ntmps233
      go_wp2_with (simp only [c138, Int.toNat_natCast])
      go_ret
      exact ⟨rfl, rfl⟩
  · rw [hna] at sa
    have hsp : fbinM Ieee.double 1023 9221120237041090560 4 a b = 9221120237041090560 := by unfold fbinM; rw [hna]; simp
    rw [hsp]
    clear hsp hna
    go_enter Tryz.func233, Tryz.ntmps233
    go_wp2_with (simp only [c138, Int.toNat_natCast])
    go_ret
    exact ⟨rfl, rfl⟩
set_option maxHeartbeats 4000000 in
theorem rf64_164 (a b : Nat) (ha : a < 18446744073709551616) (hb : b < 18446744073709551616) (w : World) : Calls Tryz.prog 177 #[.int .i64 164, .int .u64 (a : Int), .int .u64 (b : Int)] w fun e w' => e = .returned (.int .u64 (((fbinX Ieee.double 1023 9221120237041090560 4 a b) : Nat) : Int)) ∧ sameWorld w w' := by
  have ha2 : a < 2 * Ieee.double.signWeight := by rw [sw_64]; exact ha
  have hb2 : b < 2 * Ieee.double.signWeight := by rw [sw_64]; exact hb
  unfold fbinX
  rw [if_neg (by decide)]
  have hc := fun w => least_x64 a b ha hb w
  generalize fbinM Ieee.double 1023 9221120237041090560 4 a b = Z at *
  go_enter Tryz.func177, Tryz.ntmps177
  go_wp2_with (first | simp only [c138, Int.toNat_natCast] | (go_at_call 233; refine (hc _).mono ?_; rintro e w' ⟨rfl, rfl⟩))
  go_ret
  exact ⟨rfl, sw_refl _⟩
set_option maxHeartbeats 4000000 in
theorem most_x64 (a b : Nat) (ha : a < 18446744073709551616) (hb : b < 18446744073709551616) (w : World) : Calls Tryz.prog 234 #[.int .u64 (a : Int), .int .u64 (b : Int)] w fun e w' => e = .returned (.int .u64 ((fbinM Ieee.double 1023 9221120237041090560 5 a b : Nat) : Int)) ∧ w' = w := by
  have ha2 : a < 2 * Ieee.double.signWeight := by rw [sw_64]; exact ha
  have hb2 : b < 2 * Ieee.double.signWeight := by rw [sw_64]; exact hb
  have hself : ∀ v, v < 2 * Ieee.double.signWeight → (FloatKind.f64.format.order v v != some .eq) = nanB Ieee.double v := fun v hv => by
    show (Ieee.double.order v v != some .eq) = _
    cases hn : nanB Ieee.double v
    · rw [soft_order fmt_double hv hv (fun e => by rw [(nan_isN fmt_double).2 e] at hn; cases hn) (fun e => by rw [(nan_isN fmt_double).2 e] at hn; cases hn), cmp_self]; rfl
    · rw [order_nan fmt_double hv ((nan_isN fmt_double).1 hn)]; rfl
  have sa := hself a ha2
  have sb := hself b hb2
  clear hself
  cases hna : nanB Ieee.double a
  · rw [hna] at sa
    cases hnb : nanB Ieee.double b
    · rw [hnb] at sb
      obtain ⟨m1, m2, m3⟩ := min_soft fmt_double ha2 hb2 hna hnb
      have hsp : fbinM Ieee.double 1023 9221120237041090560 5 a b = if keyN Ieee.double a < keyN Ieee.double b then b else a := by unfold fbinM; rw [hna, hnb]; simp
      rw [hsp]
      cases ho : Ieee.double.order a b with
      | none =>
        exfalso
        rw [soft_order fmt_double ha2 hb2 (fun e => by rw [(nan_isN fmt_double).2 e] at hna; cases hna) (fun e => by rw [(nan_isN fmt_double).2 e] at hnb; cases hnb)] at ho
        cases ho
      | some c =>
        have ho' : FloatKind.f64.format.order a b = some c := ho
        cases c with
        | eq =>
          have h3 : (FloatKind.f64.format.order a b == some .eq) = true := by rw [ho']; rfl
          have hv := bits_and_n a b ha hb
          have he : a &&& b = if keyN Ieee.double a < keyN Ieee.double b then b else a := by
            rcases m3 ho with rfl | ⟨z1, z2⟩
            · rw [Nat.and_self, ite_self]
            · rw [sw_64] at z1 z2
              rcases (by omega : a = 0 ∨ a = 9223372036854775808) with rfl | rfl <;> rcases (by omega : b = 0 ∨ b = 9223372036854775808) with rfl | rfl <;> decide
          rw [he] at hv
          generalize (if keyN Ieee.double a < keyN Ieee.double b then b else a) = Z at hv ⊢
          clear m1 m2 m3 ho ho' he hsp hna hnb
          go_enter Tryz.func234, Tryz.ntmps234
          go_wp2_with (simp only [c138, Int.toNat_natCast])
          go_ret
          exact ⟨by first | rfl | exact ret1_eq hv, rfl⟩
        | lt =>
          have h3 : (FloatKind.f64.format.order a b == some .eq) = false := by rw [ho']; rfl
          have h4 : (FloatKind.f64.format.order a b == some .gt) = false := by rw [ho']; rfl
          rw [if_pos (m1 ho)]
          clear m1 m2 m3 ho ho' hsp hna hnb
          go_enter Tryz.func234, Tryz.ntmps234
          go_wp2_with (simp only [c138, Int.toNat_natCast])
          go_ret
          exact ⟨rfl, rfl⟩
        | gt =>
          have h3 : (FloatKind.f64.format.order a b == some .eq) = false := by rw [ho']; rfl
          have h4 : (FloatKind.f64.format.order a b == some .gt) = true := by rw [ho']; rfl
          rw [if_neg (m2 ho).1]
          clear m1 m2 m3 ho ho' hsp hna hnb
          go_enter Tryz.func234, Tryz.ntmps234
          go_wp2_with (simp only [c138, Int.toNat_natCast])
          go_ret
          exact ⟨rfl, rfl⟩
    · rw [hnb] at sb
      have hsp : fbinM Ieee.double 1023 9221120237041090560 5 a b = 9221120237041090560 := by unfold fbinM; rw [hna, hnb]; simp
      rw [hsp]
      clear hsp hna hnb
      go_enter Tryz.func234, Tryz.ntmps234
      go_wp2_with (simp only [c138, Int.toNat_natCast])
      go_ret
      exact ⟨rfl, rfl⟩
  · rw [hna] at sa
    have hsp : fbinM Ieee.double 1023 9221120237041090560 5 a b = 9221120237041090560 := by unfold fbinM; rw [hna]; simp
    rw [hsp]
    clear hsp hna
    go_enter Tryz.func234, Tryz.ntmps234
    go_wp2_with (simp only [c138, Int.toNat_natCast])
    go_ret
    exact ⟨rfl, rfl⟩
set_option maxHeartbeats 4000000 in
theorem rf64_165 (a b : Nat) (ha : a < 18446744073709551616) (hb : b < 18446744073709551616) (w : World) : Calls Tryz.prog 177 #[.int .i64 165, .int .u64 (a : Int), .int .u64 (b : Int)] w fun e w' => e = .returned (.int .u64 (((fbinX Ieee.double 1023 9221120237041090560 5 a b) : Nat) : Int)) ∧ sameWorld w w' := by
  have ha2 : a < 2 * Ieee.double.signWeight := by rw [sw_64]; exact ha
  have hb2 : b < 2 * Ieee.double.signWeight := by rw [sw_64]; exact hb
  unfold fbinX
  rw [if_neg (by decide)]
  have hc := fun w => most_x64 a b ha hb w
  generalize fbinM Ieee.double 1023 9221120237041090560 5 a b = Z at *
  go_enter Tryz.func177, Tryz.ntmps177
  go_wp2_with (first | simp only [c138, Int.toNat_natCast] | (go_at_call 234; refine (hc _).mono ?_; rintro e w' ⟨rfl, rfl⟩))
  go_ret
  exact ⟨rfl, sw_refl _⟩
set_option maxHeartbeats 4000000 in
theorem rf64_166 (a b : Nat) (ha : a < 18446744073709551616) (hb : b < 18446744073709551616) (w : World) : Calls Tryz.prog 177 #[.int .i64 166, .int .u64 (a : Int), .int .u64 (b : Int)] w fun e w' => e = .returned (.int .u64 (((fbinX Ieee.double 1023 9221120237041090560 6 a b) : Nat) : Int)) ∧ sameWorld w w' := by
  have ha2 : a < 2 * Ieee.double.signWeight := by rw [sw_64]; exact ha
  have hb2 : b < 2 * Ieee.double.signWeight := by rw [sw_64]; exact hb
  unfold fbinX
  rw [if_pos rfl, sw_64]
  have h1 := andn_64 a ha
  have h2 := sgn_and_64 b hb
  have h3 := sgn_or_64 (sgB Ieee.double b) (a % 9223372036854775808) (Nat.mod_lt _ (by decide))
  obtain ⟨x, hx⟩ : ∃ x : Nat, a % 9223372036854775808 = x := ⟨_, rfl⟩
  rw [hx] at h1 h3 ⊢
  obtain ⟨y, hy⟩ : ∃ y : Nat, Ieee.double.word (sgB Ieee.double b) 0 = y := ⟨_, rfl⟩
  rw [hy] at h2 h3
  generalize Ieee.double.word (sgB Ieee.double b) x = Z at h3 ⊢
  clear hx hy
  go_enter Tryz.func177, Tryz.ntmps177
  go_wp2_with (simp only [c138, Int.toNat_natCast])
  go_ret
  exact ⟨by first | rfl | (simp only [h1, h2, h3]), sw_refl _⟩
set_option maxHeartbeats 4000000 in
theorem rl64_97 (a b : Nat) (ha : a < 18446744073709551616) (hb : b < 18446744073709551616) (w : World) : Calls Tryz.prog 172 #[.int .i64 97, .float .f64 a, .float .f64 b] w fun e w' => e = .returned (.bool (cmpM Ieee.double 0 a b)) ∧ w' = w := by
  have ha2 : a < 2 * Ieee.double.signWeight := by rw [sw_64]; exact ha
  have hb2 : b < 2 * Ieee.double.signWeight := by rw [sw_64]; exact hb
  rw [cmp_soft fmt_double (by decide) ha2 hb2]
  go_enter Tryz.func172, Tryz.ntmps172
  go_wp2
  go_ret
  exact ⟨rfl, rfl⟩
set_option maxHeartbeats 4000000 in
theorem rl64_98 (a b : Nat) (ha : a < 18446744073709551616) (hb : b < 18446744073709551616) (w : World) : Calls Tryz.prog 172 #[.int .i64 98, .float .f64 a, .float .f64 b] w fun e w' => e = .returned (.bool (cmpM Ieee.double 1 a b)) ∧ w' = w := by
  have ha2 : a < 2 * Ieee.double.signWeight := by rw [sw_64]; exact ha
  have hb2 : b < 2 * Ieee.double.signWeight := by rw [sw_64]; exact hb
  rw [cmp_soft fmt_double (by decide) ha2 hb2]
  go_enter Tryz.func172, Tryz.ntmps172
  go_wp2
  go_ret
  exact ⟨rfl, rfl⟩
set_option maxHeartbeats 4000000 in
theorem rl64_99 (a b : Nat) (ha : a < 18446744073709551616) (hb : b < 18446744073709551616) (w : World) : Calls Tryz.prog 172 #[.int .i64 99, .float .f64 a, .float .f64 b] w fun e w' => e = .returned (.bool (cmpM Ieee.double 2 a b)) ∧ w' = w := by
  have ha2 : a < 2 * Ieee.double.signWeight := by rw [sw_64]; exact ha
  have hb2 : b < 2 * Ieee.double.signWeight := by rw [sw_64]; exact hb
  rw [cmp_soft fmt_double (by decide) ha2 hb2]
  go_enter Tryz.func172, Tryz.ntmps172
  go_wp2
  go_ret
  exact ⟨rfl, rfl⟩
set_option maxHeartbeats 4000000 in
theorem rl64_100 (a b : Nat) (ha : a < 18446744073709551616) (hb : b < 18446744073709551616) (w : World) : Calls Tryz.prog 172 #[.int .i64 100, .float .f64 a, .float .f64 b] w fun e w' => e = .returned (.bool (cmpM Ieee.double 3 a b)) ∧ w' = w := by
  have ha2 : a < 2 * Ieee.double.signWeight := by rw [sw_64]; exact ha
  have hb2 : b < 2 * Ieee.double.signWeight := by rw [sw_64]; exact hb
  rw [cmp_soft fmt_double (by decide) ha2 hb2]
  go_enter Tryz.func172, Tryz.ntmps172
  go_wp2
  go_ret
  exact ⟨rfl, rfl⟩
set_option maxHeartbeats 4000000 in
theorem rl64_101 (a b : Nat) (ha : a < 18446744073709551616) (hb : b < 18446744073709551616) (w : World) : Calls Tryz.prog 172 #[.int .i64 101, .float .f64 a, .float .f64 b] w fun e w' => e = .returned (.bool (cmpM Ieee.double 4 a b)) ∧ w' = w := by
  have ha2 : a < 2 * Ieee.double.signWeight := by rw [sw_64]; exact ha
  have hb2 : b < 2 * Ieee.double.signWeight := by rw [sw_64]; exact hb
  rw [cmp_soft fmt_double (by decide) ha2 hb2]
  go_enter Tryz.func172, Tryz.ntmps172
  go_wp2
  go_ret
  exact ⟨rfl, rfl⟩
set_option maxHeartbeats 4000000 in
theorem rl64_102 (a b : Nat) (ha : a < 18446744073709551616) (hb : b < 18446744073709551616) (w : World) : Calls Tryz.prog 172 #[.int .i64 102, .float .f64 a, .float .f64 b] w fun e w' => e = .returned (.bool (cmpM Ieee.double 5 a b)) ∧ w' = w := by
  have ha2 : a < 2 * Ieee.double.signWeight := by rw [sw_64]; exact ha
  have hb2 : b < 2 * Ieee.double.signWeight := by rw [sw_64]; exact hb
  rw [cmp_soft fmt_double (by decide) ha2 hb2]
  go_enter Tryz.func172, Tryz.ntmps172
  go_wp2
  go_ret
  exact ⟨rfl, rfl⟩
end Go.Proofs.Qxb6500275aGreatDoor
