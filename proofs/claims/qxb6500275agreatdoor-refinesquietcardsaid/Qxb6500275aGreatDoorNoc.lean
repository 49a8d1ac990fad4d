import Derived.Test.Qxb6500275aGreatDoorNob
set_option maxRecDepth 100000
set_option linter.unusedVariables false
set_option linter.unusedSimpArgs false
namespace Go.Proofs.Qxb6500275aGreatDoor
open Go Go.RowKit
theorem enc_inf32 (s : Bool) : FloatKind.f32.encode (.infinity s) = Ieee.single.word s Ieee.single.infRung := by cases s <;> rfl
theorem enc_inf64 (s : Bool) : FloatKind.f64.encode (.infinity s) = Ieee.double.word s Ieee.double.infRung := by cases s <;> rfl
set_option maxHeartbeats 4000000 in
theorem rc_187 (a : Nat) (ha : a < 18446744073709551616) (w : World) : Calls Tryz.prog 178 #[.int .i64 187, .int .u64 (a : Int)] w fun e' w' => e' = .returned (.tuple #[.int .u64 (((convM 187 (cut32 187 a)).1 : Nat) : Int), .int .i64 (((convM 187 (cut32 187 a)).2 : Nat) : Int)]) ∧ sameWorld w w' := by
  have hcut : cut32 187 a = a % 4294967296 := by unfold cut32; rw [if_pos (by decide)]
  rw [hcut]
  obtain ⟨x, hx⟩ : ∃ x : Nat, a % 4294967296 = x := ⟨_, rfl⟩
  have hxl : x < 4294967296 := by rw [← hx]; exact Nat.mod_lt _ (by decide)
  have hxi : (a : Int) % 4294967296 = (x : Int) := by omega
  rw [hx]
  clear hx hcut
  unfold convM
  rw [if_neg (by decide), if_neg (by decide), if_neg (by decide), if_neg (by decide), if_neg (by decide), if_neg (by decide), if_neg (by decide), if_neg (by decide), if_neg (by decide), if_neg (by decide), if_neg (by decide), if_neg (by decide), if_neg (by decide), if_neg (by decide), if_neg (by decide), if_neg (by decide), if_neg (by decide), if_neg (by decide), if_neg (by decide), if_neg (by decide), if_pos rfl]
  dsimp only
  have hv2 : x < 2 * Ieee.single.signWeight := by rw [sw_32]; exact hxl
  rw [ref_read fmt_single fmt_double 9221120237041090560 hv2]
  cases hr : Ieee.single.read x with
  | nan s f =>
    have hN : IsN .f32 x := ⟨s, f, hr⟩
    have hup := fun w => cv_up_nan w hN
    have hcn := can64_nan (nanCv_is .f64 x w)
    dsimp only
    clear hr hv2
    go_enter Tryz.func178, Tryz.ntmps178
    go_wp2_with (first | simp only [c136, c138, c192, c193, Int.toNat_natCast, hup] | (go_at_call 228; refine (canon64_any _ _).mono ?_; rw [hcn]; rintro e w' ⟨rfl, rfl⟩))
    go_ret2
    exact ⟨ret2_eq (by rfl) rfl, sw_drew _⟩
  | infinity s =>
    have hup := fun w => cv_up w (promote_inf hr)
    obtain ⟨y1, y2⟩ := word_num fmt_double s (r := Ieee.double.infRung) (Nat.le_refl _)
    rw [enc_inf64] at hup
    dsimp only
    have hcn : can64 (Ieee.double.word s Ieee.double.infRung) = ((Ieee.double.word s Ieee.double.infRung : Nat) : Int) := by rw [can64_B, canB_num fmt_double _ y2 y1]
    generalize Ieee.double.word s Ieee.double.infRung = Z at *
    clear hr hv2 y1 y2
    go_enter Tryz.func178, Tryz.ntmps178
    go_wp2_with (first | simp only [c136, c138, c192, c193, Int.toNat_natCast, hup] | (go_at_call 228; refine (canon64_any _ _).mono ?_; rw [hcn]; rintro e w' ⟨rfl, rfl⟩))
    go_ret2
    exact ⟨ret2_eq (by rfl) rfl, sw_refl _⟩
  | number s m i =>
    have hup := fun w => cv_up w (promote_num hr)
    obtain ⟨y1, y2⟩ := write_num fmt_double s m i
    have y1' : ¬ isN Ieee.double 1023 (Ieee.double.nearest s m i) := y1
    have y2' : Ieee.double.nearest s m i < 2 * Ieee.double.signWeight := y2
    dsimp only
    have hcn : can64 (Ieee.double.nearest s m i) = ((Ieee.double.nearest s m i : Nat) : Int) := by rw [can64_B, canB_num fmt_double _ y2' y1']
    generalize Ieee.double.nearest s m i = Z at *
    clear hr hv2 y1 y2 y1' y2'
    go_enter Tryz.func178, Tryz.ntmps178
    go_wp2_with (first | simp only [c136, c138, c192, c193, Int.toNat_natCast, hup] | (go_at_call 228; refine (canon64_any _ _).mono ?_; rw [hcn]; rintro e w' ⟨rfl, rfl⟩))
    go_ret2
    exact ⟨ret2_eq (by rfl) rfl, sw_refl _⟩
set_option maxHeartbeats 4000000 in
theorem rc_182 (a : Nat) (ha : a < 18446744073709551616) (w : World) : Calls Tryz.prog 178 #[.int .i64 182, .int .u64 (a : Int)] w fun e' w' => e' = .returned (.tuple #[.int .u64 (((convM 182 (cut32 182 a)).1 : Nat) : Int), .int .i64 (((convM 182 (cut32 182 a)).2 : Nat) : Int)]) ∧ sameWorld w w' := by
  have hcut : cut32 182 a = a := by unfold cut32; rw [if_neg (by decide)]
  rw [hcut]
  clear hcut
  unfold convM
  rw [if_neg (by decide), if_neg (by decide), if_neg (by decide), if_neg (by decide), if_neg (by decide), if_neg (by decide), if_neg (by decide), if_neg (by decide), if_neg (by decide), if_neg (by decide), if_neg (by decide), if_neg (by decide), if_neg (by decide), if_neg (by decide), if_neg (by decide), if_pos rfl]
  dsimp only
  have hv2 : a < 2 * Ieee.double.signWeight := by rw [sw_64]; exact ha
  have hrr := ref_read fmt_double fmt_single 2143289344 hv2
  cases h1 : (FloatKind.f64.format.order a 5183643170835005440 == some .gt || FloatKind.f64.format.order a 5183643170835005440 == some .eq)
  case' true =>
    have hz : softRef Ieee.double 1023 Ieee.single 127 2143289344 a = 2139095040 := by
      rw [hrr]
      have h1' : (Ieee.Datum.order (Ieee.double.read a) (Ieee.double.read 5183643170835005440) == some .gt || Ieee.Datum.order (Ieee.double.read a) (Ieee.double.read 5183643170835005440) == some .eq) = true := h1
      rw [t_read] at h1'
      cases hr : Ieee.double.read a with
      | nan s f => rw [hr] at h1'; simp [Ieee.Datum.order] at h1'
      | infinity s =>
        rw [hr] at h1'
        cases s
        · rfl
        · simp [Ieee.Datum.order] at h1'
      | number s m i =>
        rw [hr] at h1'
        dsimp only
        cases s with
        | true =>
          exfalso
          simp only [Ieee.Datum.order, Ieee.signed, if_true, Bool.false_eq_true, if_false, Nat.shiftLeft_eq, Bool.or_eq_true, beq_iff_eq, Option.some.injEq] at h1'
          have hp : 0 < 9007198986305536 * 2 ^ (75 - min i 75).toNat := Nat.mul_pos (by decide) (Nat.two_pow_pos _)
          rcases h1' with e | e
          · have := (cmp_gt_iff _ _).1 e; omega
          · have := (cmp_eq_iff _ _).1 e; omega
        | false =>
          rw [demote_big hr]
          · rfl
          · simp only [Ieee.Datum.order, Ieee.signed, Bool.false_eq_true, if_false, Nat.shiftLeft_eq, Bool.or_eq_true, beq_iff_eq, Option.some.injEq] at h1'
            rcases h1' with e | e
            · have := (cmp_gt_iff _ _).1 e; omega
            · have := (cmp_eq_iff _ _).1 e; omega
    rw [hz]
    clear hz hv2 hrr
    go_enter Tryz.func178, Tryz.ntmps178
    go_wp2_with (first | simp only [c136, c138, c192, c193, Int.toNat_natCast])
    go_ret2
    exact ⟨ret2_eq (by rfl) rfl, sw_refl _⟩
  cases h2 : (FloatKind.f64.format.order a 14407015207689781248 == some .lt || FloatKind.f64.format.order a 14407015207689781248 == some .eq)
  case' true =>
    have hz : softRef Ieee.double 1023 Ieee.single 127 2143289344 a = 4286578688 := by
      rw [hrr]
      have h1' : (Ieee.Datum.order (Ieee.double.read a) (Ieee.double.read 14407015207689781248) == some .lt || Ieee.Datum.order (Ieee.double.read a) (Ieee.double.read 14407015207689781248) == some .eq) = true := h2
      rw [tn_read] at h1'
      cases hr : Ieee.double.read a with
      | nan s f => rw [hr] at h1'; simp [Ieee.Datum.order] at h1'
      | infinity s =>
        rw [hr] at h1'
        cases s
        · simp [Ieee.Datum.order] at h1'
        · rfl
      | number s m i =>
        rw [hr] at h1'
        dsimp only
        cases s with
        | false =>
          exfalso
          simp only [Ieee.Datum.order, Ieee.signed, if_true, Bool.false_eq_true, if_false, Nat.shiftLeft_eq, Bool.or_eq_true, beq_iff_eq, Option.some.injEq] at h1'
          have hp : 0 < 9007198986305536 * 2 ^ (75 - min i 75).toNat := Nat.mul_pos (by decide) (Nat.two_pow_pos _)
          rcases h1' with e | e
          · have := (cmp_lt_iff _ _).1 e; omega
          · have := (cmp_eq_iff _ _).1 e; omega
        | true =>
          rw [demote_big hr]
          · rfl
          · simp only [Ieee.Datum.order, Ieee.signed, if_true, Nat.shiftLeft_eq, Bool.or_eq_true, beq_iff_eq, Option.some.injEq] at h1'
            rcases h1' with e | e
            · have := (cmp_lt_iff _ _).1 e; omega
            · have := (cmp_eq_iff _ _).1 e; omega
    rw [hz]
    clear hz hv2 hrr
    go_enter Tryz.func178, Tryz.ntmps178
    go_wp2_with (first | simp only [c136, c138, c192, c193, Int.toNat_natCast])
    go_ret2
    exact ⟨ret2_eq (by rfl) rfl, sw_refl _⟩
  cases hr : Ieee.double.read a with
  | nan s f =>
    have hN : IsN .f64 a := ⟨s, f, hr⟩
    have hdn := fun w => cv_dn_nan w hN
    have hcn := can32_nan (nanCv_is .f32 a w)
    rw [hr] at hrr
    dsimp only at hrr
    rw [hrr]
    clear hr hv2 hrr
    go_enter Tryz.func178, Tryz.ntmps178
    go_wp2_with (first | simp only [c136, c138, c192, c193, Int.toNat_natCast, hdn] | (go_at_call 220; refine (canon32_any _ _).mono ?_; rw [hcn]; rintro e w' ⟨rfl, rfl⟩))
    go_ret2
    exact ⟨ret2_eq (by rfl) rfl, sw_drew _⟩
  | infinity s =>
    have hdn := fun w => cv_dn w (demote_inf hr)
    obtain ⟨y1, y2⟩ := word_num fmt_single s (r := Ieee.single.infRung) (Nat.le_refl _)
    rw [enc_inf32] at hdn
    rw [hr] at hrr
    dsimp only at hrr
    rw [hrr]
    clear hrr
    have hcn : can32 (Ieee.single.word s Ieee.single.infRung) = ((Ieee.single.word s Ieee.single.infRung : Nat) : Int) := by rw [can32_B, canB_num fmt_single _ y2 y1]
    rw [sw_32] at y2
    generalize Ieee.single.word s Ieee.single.infRung = Z at *
    clear hr hv2 y1
    go_enter Tryz.func178, Tryz.ntmps178
    go_wp2_with (first | simp only [c136, c138, c192, c193, Int.toNat_natCast, hdn] | (go_at_call 220; refine (canon32_any _ _).mono ?_; rw [hcn]; rintro e w' ⟨rfl, rfl⟩))
    go_ret2
    exact ⟨ret2_eq (by first | rfl | omega) rfl, sw_refl _⟩
  | number s m i =>
    obtain ⟨m', i', e⟩ := demote_in hr h1 h2
    have hdn := fun w => cv_dn w (demote_num hr e)
    obtain ⟨y1, y2⟩ := write_num fmt_single s m i
    have y1' : ¬ isN Ieee.single 127 (Ieee.single.nearest s m i) := y1
    have y2' : Ieee.single.nearest s m i < 2 * Ieee.single.signWeight := y2
    rw [hr] at hrr
    dsimp only at hrr
    rw [hrr]
    clear hrr
    have hcn : can32 (Ieee.single.nearest s m i) = ((Ieee.single.nearest s m i : Nat) : Int) := by rw [can32_B, canB_num fmt_single _ y2' y1']
    rw [sw_32] at y2'
    generalize Ieee.single.nearest s m i = Z at *
    clear hr hv2 y1 y2 y1' e
    go_enter Tryz.func178, Tryz.ntmps178
    go_wp2_with (first | simp only [c136, c138, c192, c193, Int.toNat_natCast, hdn] | (go_at_call 220; refine (canon32_any _ _).mono ?_; rw [hcn]; rintro e w' ⟨rfl, rfl⟩))
    go_ret2
    exact ⟨ret2_eq (by first | rfl | omega) rfl, sw_refl _⟩
set_option maxHeartbeats 4000000 in
theorem rf64_159 (a b : Nat) (ha : a < 18446744073709551616) (hb : b < 18446744073709551616) (w : World) : Calls Tryz.prog 177 #[.int .i64 159, .int .u64 (a : Int), .int .u64 (b : Int)] w fun e w' => e = .returned (.int .u64 ((funM Ieee.double 1023 9221120237041090560 6 a : Nat) : Int)) ∧ sameWorld w w' := by
  have ha2 : a < 2 * Ieee.double.signWeight := by rw [sw_64]; exact ha
  unfold funM
  rw [if_neg (by decide), if_neg (by decide), if_pos rfl, soft_sqrt fmt_double _ ha2]
  cases h : Ieee.double.sqrt a with
  | some r =>
    have hcn : can64 r = (r : Int) := by rw [can64_B, sqrt_can fmt_double _ h]
    go_enter Tryz.func177, Tryz.ntmps177
    go_wp2_with (first | simp only [c138, Int.toNat_natCast] | (go_at_call 225; refine (sqrt_some h _).mono ?_; rintro e w' ⟨rfl, rfl⟩) | (go_at_call 228; refine (canon64_any _ _).mono ?_; rw [hcn]; rintro e w' ⟨rfl, rfl⟩))
    go_ret
    exact ⟨rfl, sw_refl _⟩
  | none =>
    go_enter Tryz.func177, Tryz.ntmps177
    go_wp2_with (first | simp only [c138, Int.toNat_natCast] | (go_at_call 225; refine (sqrt_none h _).mono ?_; rintro e w1 ⟨r, rfl, hn, hsw⟩) | (go_at_call 228; refine (canon64_any _ _).mono ?_; rw [can64_nan hn]; rintro e w' ⟨rfl, rfl⟩))
    go_ret
    exact ⟨rfl, hsw⟩
end Go.Proofs.Qxb6500275aGreatDoor
