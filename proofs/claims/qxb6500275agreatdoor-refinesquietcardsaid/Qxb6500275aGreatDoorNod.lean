import Derived.Test.Qxb6500275aGreatDoorNp4
set_option maxRecDepth 100000
set_option linter.unusedVariables false
set_option linter.unusedSimpArgs false
namespace Go.Proofs.Qxb6500275aGreatDoor
open Go Go.RowKit
section
open Ieee
theorem root_zero (k : Nat) (s : Bool) (i : Int) : Datum.root k (.number s 0 i) = some (.number s 0 i) := by
  unfold Datum.root
  dsimp only
  rw [if_pos rfl]
theorem root_neg (k : Nat) {m : Nat} (hm : m ≠ 0) (i : Int) : Datum.root k (.number true m i) = none := by
  unfold Datum.root
  dsimp only
  rw [if_neg hm, if_pos rfl]
theorem sq32_plain (can : Nat) {x m : Nat} {s : Bool} {i : Int} (hx : x < 4294967296) (hr : single.read x = .number s m i) :
    (double.sqrt (double.nearest s m i) = none → softSqrt single 127 can x = can) ∧
    (∀ r, double.sqrt (double.nearest s m i) = some r → ∀ s2 m2 i2, double.read r = .number s2 m2 i2 → single.nearest s2 m2 i2 = softSqrt single 127 can x) := by
  have hx2 : x < 2 * single.signWeight := by rw [sw_32]; exact hx
  by_cases hm : m = 0
  · subst hm
    have hy : double.read (double.nearest s 0 i) = .number s 0 (-1074) := by
      rw [nearest_zero]
      cases s <;> rfl
    have hs : double.sqrt (double.nearest s 0 i) = some (double.word s 0) := by
      unfold Format.sqrt
      rw [hy, root_zero]
      show some (double.nearest s 0 (-1074)) = _
      rw [nearest_zero]
    have hf : softSqrt single 127 can x = single.word s 0 := by
      rw [soft_sqrt fmt_single can hx2]
      unfold Format.sqrt
      rw [hr, root_zero]
      show single.nearest s 0 i = _
      rw [nearest_zero]
    refine ⟨fun e => (by rw [hs] at e; cases e), fun r e s2 m2 i2 h2 => ?_⟩
    rw [hs] at e
    cases e
    have : double.read (double.word s 0) = .number s 0 (-1074) := by cases s <;> rfl
    rw [this] at h2
    cases h2
    rw [nearest_zero, hf]
  · cases s with
    | true =>
      obtain ⟨k1, k2, k3, k4⟩ := read_single hr
      obtain ⟨R, r1, r2, r3⟩ := nearest_exact fmt_double true (M := m) (i := i) (by show m < 2 ^ 53; omega) (by rw [d_least]; omega) (by omega)
      obtain ⟨my, iy, q1, q2, q3⟩ := read_rung fmt_double true r1
      have hmy : my ≠ 0 := by
        rintro rfl
        rw [Nat.zero_mul] at q3
        rw [← q3] at r3
        have := Nat.mul_pos (Nat.pos_of_ne_zero hm) (Nat.two_pow_pos (i - double.leastPlace).toNat)
        omega
      have hs : double.sqrt (double.nearest true m i) = none := by
        unfold Format.sqrt
        rw [r2, q1, root_neg _ hmy]
        rfl
      refine ⟨fun _ => ?_, fun r e => (by rw [hs] at e; cases e)⟩
      rw [soft_sqrt fmt_single can hx2]
      unfold Format.sqrt
      rw [hr, root_neg _ hm]
      rfl
    | false =>
      obtain ⟨r, h1, h2⟩ := sqrt_twice can hx hr hm
      refine ⟨fun e => (by rw [h1] at e; cases e), fun r' e => ?_⟩
      rw [h1] at e
      cases e
      exact h2
end
set_option maxHeartbeats 4000000 in
theorem rf32_145 (a b : Nat) (ha : a < 4294967296) (hb : b < 4294967296) (w : World) : Calls Tryz.prog 176 #[.int .i64 145, .int .u32 (a : Int), .int .u32 (b : Int)] w fun e w' => e = .returned (.int .u32 ((funM Ieee.single 127 2143289344 6 a : Nat) : Int)) ∧ sameWorld w w' := by
  have ha2 : a < 2 * Ieee.single.signWeight := by rw [sw_32]; exact ha
  unfold funM
  rw [if_neg (by decide), if_neg (by decide), if_pos rfl]
  cases hx : Ieee.single.read a with
  | nan s f =>
    have hN : IsN .f32 a := ⟨s, f, hx⟩
    have hsp : softSqrt Ieee.single 127 2143289344 a = 2143289344 := by
      rw [soft_sqrt fmt_single _ ha2]
      unfold Ieee.Format.sqrt
      rw [hx]
      rfl
    rw [hsp]
    have hup := fun w => cv_up_nan w hN
    have hsq := fun w => sqrt_nan (nanCv_is .f64 a w)
    go_enter Tryz.func176, Tryz.ntmps176
    go_wp2_with (first | simp only [c136, Int.toNat_natCast, hup] | (go_at_call 225; refine (sqrt_none (hsq _) _).mono ?_; rintro e w1 ⟨r, rfl, hn, hsw⟩; have hdn := fun w => cv_dn_nan w hn; have hcn := fun w => can32_nan (nanCv_is .f32 r w)) | simp only [hdn] | (go_at_call 220; refine (canon32_any _ _).mono ?_; rw [hcn]; rintro e w' ⟨rfl, rfl⟩))
    go_ret
    exact ⟨rfl, sw_trans (sw_trans (sw_drew _) hsw) (sw_drew _)⟩
  | infinity s =>
    have hup := fun w => cv_up w (promote_inf hx)
    cases s with
    | true =>
      have hsp : softSqrt Ieee.single 127 2143289344 a = 2143289344 := by
        rw [soft_sqrt fmt_single _ ha2]
        unfold Ieee.Format.sqrt
        rw [hx]
        rfl
      rw [hsp]
      have hs : Ieee.double.sqrt (FloatKind.f64.encode (.infinity true)) = none := by decide
      go_enter Tryz.func176, Tryz.ntmps176
      go_wp2_with (first | simp only [c136, Int.toNat_natCast, hup] | (go_at_call 225; refine (sqrt_none hs _).mono ?_; rintro e w1 ⟨r, rfl, hn, hsw⟩; have hdn := fun w => cv_dn_nan w hn; have hcn := fun w => can32_nan (nanCv_is .f32 r w)) | simp only [hdn] | (go_at_call 220; refine (canon32_any _ _).mono ?_; rw [hcn]; rintro e w' ⟨rfl, rfl⟩))
      go_ret
      exact ⟨rfl, sw_trans hsw (sw_drew _)⟩
    | false =>
      have hsp : softSqrt Ieee.single 127 2143289344 a = 2139095040 := by
        rw [soft_sqrt fmt_single _ ha2]
        unfold Ieee.Format.sqrt
        rw [hx]
        decide
      rw [hsp]
      have hs : Ieee.double.sqrt (FloatKind.f64.encode (.infinity false)) = some 9218868437227405312 := by decide
      have hr : Ieee.double.read 9218868437227405312 = .infinity false := rfl
      have hdn := fun w => cv_dn w (demote_inf hr)
      have hcn : can32 (FloatKind.f32.encode (.infinity false)) = 2139095040 := by decide
      go_enter Tryz.func176, Tryz.ntmps176
      go_wp2_with (first | simp only [c136, Int.toNat_natCast, hup] | (go_at_call 225; refine (sqrt_some hs _).mono ?_; rintro e w' ⟨rfl, rfl⟩) | simp only [hdn] | (go_at_call 220; refine (canon32_any _ _).mono ?_; rw [hcn]; rintro e w' ⟨rfl, rfl⟩))
      go_ret
      exact ⟨rfl, sw_refl _⟩
  | number s m i =>
    have hup := fun w => cv_up w (promote_num hx)
    obtain ⟨p1, p2⟩ := sq32_plain 2143289344 ha hx
    cases hs : Ieee.double.sqrt (Ieee.double.nearest s m i) with
    | none =>
      rw [p1 hs]
      clear p1 p2
      go_enter Tryz.func176, Tryz.ntmps176
      go_wp2_with (first | simp only [c136, Int.toNat_natCast, hup] | (go_at_call 225; refine (sqrt_none hs _).mono ?_; rintro e w1 ⟨r, rfl, hn, hsw⟩; have hdn := fun w => cv_dn_nan w hn; have hcn := fun w => can32_nan (nanCv_is .f32 r w)) | simp only [hdn] | (go_at_call 220; refine (canon32_any _ _).mono ?_; rw [hcn]; rintro e w' ⟨rfl, rfl⟩))
      go_ret
      exact ⟨rfl, sw_trans hsw (sw_drew _)⟩
    | some r =>
      obtain ⟨s', m', i', e1, m'', i'', e2⟩ := Ieee.sqrt_chain hx hs
      have hsp := p2 r hs s' m' i' e1
      rw [← hsp]
      have hdn := fun w => cv_dn w (demote_num e1 e2)
      obtain ⟨y1, y2⟩ := write_num fmt_single s' m' i'
      have y1' : ¬ isN Ieee.single 127 (Ieee.single.nearest s' m' i') := y1
      have y2' : Ieee.single.nearest s' m' i' < 2 * Ieee.single.signWeight := y2
      have hcn : can32 (Ieee.single.nearest s' m' i') = ((Ieee.single.nearest s' m' i' : Nat) : Int) := by rw [can32_B, canB_num fmt_single _ y2' y1']
      generalize Ieee.single.nearest s' m' i' = Z at *
      clear p1 p2 hsp e1 e2 y1 y2 y1' y2'
      go_enter Tryz.func176, Tryz.ntmps176
      go_wp2_with (first | simp only [c136, Int.toNat_natCast, hup] | (go_at_call 225; refine (sqrt_some hs _).mono ?_; rintro e w' ⟨rfl, rfl⟩) | simp only [hdn] | (go_at_call 220; refine (canon32_any _ _).mono ?_; rw [hcn]; rintro e w' ⟨rfl, rfl⟩))
      go_ret
      exact ⟨rfl, sw_refl _⟩
end Go.Proofs.Qxb6500275aGreatDoor
