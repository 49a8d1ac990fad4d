import Derived.Test.Qxb6500275aGreatDoorNm5
set_option linter.unusedVariables false
set_option linter.unusedSimpArgs false
set_option maxRecDepth 20000
namespace Go.Proofs.Qxb6500275aGreatDoor
open Go Go.RowKit

theorem inf_read64 (s : Bool) : Ieee.double.read (FloatKind.f64.encode (.infinity s)) = .infinity s := by cases s <;> rfl
theorem inf_read32 (s : Bool) : Ieee.single.read (FloatKind.f32.encode (.infinity s)) = .infinity s := by cases s <;> rfl

theorem promote_num {x : Nat} {s : Bool} {m : Nat} {i : Int} (h : Ieee.single.read x = .number s m i) : floatToFloatBits .f32 x .f64 = some (Ieee.double.nearest s m i) := by
  obtain ⟨_, _, _, h4⟩ := Ieee.read_single h
  obtain ⟨m', i', e, _⟩ := Ieee.near_double s m i (by omega)
  have h' : FloatKind.f32.decode x = .number s m i := h
  have e' : FloatKind.f64.decode (FloatKind.f64.encode (.number s m i)) = .number s m' i' := e
  unfold floatToFloatBits
  rw [if_neg (by decide), h']
  dsimp only
  rw [e']
  rfl
theorem promote_inf {x : Nat} {s : Bool} (h : Ieee.single.read x = .infinity s) : floatToFloatBits .f32 x .f64 = some (FloatKind.f64.encode (.infinity s)) := by
  have h' : FloatKind.f32.decode x = .infinity s := h
  unfold floatToFloatBits
  rw [if_neg (by decide), h']
theorem demote_inf {x : Nat} {s : Bool} (h : Ieee.double.read x = .infinity s) : floatToFloatBits .f64 x .f32 = some (FloatKind.f32.encode (.infinity s)) := by
  have h' : FloatKind.f64.decode x = .infinity s := h
  unfold floatToFloatBits
  rw [if_neg (by decide), h']
theorem demote_num {x : Nat} {s : Bool} {m : Nat} {i : Int} (h : Ieee.double.read x = .number s m i) {m' : Nat} {i' : Int} (e : Ieee.single.read (Ieee.single.nearest s m i) = .number s m' i') : floatToFloatBits .f64 x .f32 = some (Ieee.single.nearest s m i) := by
  have h' : FloatKind.f64.decode x = .number s m i := h
  have e' : FloatKind.f32.decode (FloatKind.f32.encode (.number s m i)) = .number s m' i' := e
  unfold floatToFloatBits
  rw [if_neg (by decide), h']
  dsimp only
  rw [e']
  rfl

section
variable (w : World)
theorem cv_up {x r : Nat} (h : floatToFloatBits .f32 x .f64 = some r) : (convert 268 271 (.float .f32 x)).run Tryz.prog w = .ok (.float .f64 r) w :=
  run_convert_float_float w 268 271 .f32 .f64 x r (by kernel_rfl) (by kernel_rfl) h
theorem cv_dn {x r : Nat} (h : floatToFloatBits .f64 x .f32 = some r) : (convert 271 268 (.float .f64 x)).run Tryz.prog w = .ok (.float .f32 r) w :=
  run_convert_float_float w 271 268 .f64 .f32 x r (by kernel_rfl) (by kernel_rfl) h
theorem cv_up_nan {x : Nat} (h : IsN .f32 x) : (convert 268 271 (.float .f32 x)).run Tryz.prog w = .ok (.float .f64 (nanCv .f64 x w)) w.drew :=
  run_conv_nan 268 271 .f32 .f64 (by decide) x (by kernel_rfl) (by kernel_rfl) h w
theorem cv_dn_nan {x : Nat} (h : IsN .f64 x) : (convert 271 268 (.float .f64 x)).run Tryz.prog w = .ok (.float .f32 (nanCv .f32 x w)) w.drew :=
  run_conv_nan 271 268 .f64 .f32 (by decide) x (by kernel_rfl) (by kernel_rfl) h w
end

/- math.Sqrt -/
set_option maxHeartbeats 400000 in
theorem sqrt_some {x r : Nat} (h : Ieee.double.sqrt x = some r) (w : World) : Calls Tryz.prog 225 #[.float .f64 x] w fun e w' => e = .returned (.float .f64 r) ∧ w' = w := by
  have hc : ∀ w, (callFunc 267 #[.float .f64 x]).run Tryz.prog w = .ok (.value (.float .f64 r)) w := fun w => by rw [c215, run_sqrt_some x r h]; rfl
  go_enter Tryz.func225, Tryz.ntmps225
  go_wp2_with (simp only [hc])
  go_ret
  exact ⟨rfl, rfl⟩
set_option maxHeartbeats 400000 in
theorem sqrt_none {x : Nat} (h : Ieee.double.sqrt x = none) (w : World) : Calls Tryz.prog 225 #[.float .f64 x] w fun e w' => ∃ r, e = .returned (.float .f64 r) ∧ IsN .f64 r ∧ sameWorld w w' := by
  have hc : ∀ w, (callFunc 267 #[.float .f64 x]).run Tryz.prog w = .ok (.value (.float .f64 (nanAt .f64 x x w))) w.drew := fun w => by rw [c215, run_sqrt_none x h]; rfl
  go_enter Tryz.func225, Tryz.ntmps225
  go_wp2_with (simp only [hc])
  go_ret
  exact ⟨_, rfl, nanAt_is .., sw_drew _⟩
theorem sqrt_nan {x : Nat} (h : IsN .f64 x) : Ieee.double.sqrt x = none := by
  obtain ⟨s, f, h⟩ := h
  have h' : Ieee.double.read x = .nan s f := h
  simp [Ieee.Format.sqrt, h', Ieee.Datum.root]

set_option maxHeartbeats 1000000 in
theorem floatf64_159 (a b : Int) (ha : 0 ≤ a ∧ a < 18446744073709551616) (hb : 0 ≤ b ∧ b < 18446744073709551616) : ∃ c : Int, 0 ≤ c ∧ c < 18446744073709551616 ∧ ∀ w, Calls Tryz.prog 177 #[.int .i64 159, .int .u64 a, .int .u64 b] w fun e w' => e = .returned (.int .u64 c) ∧ sameWorld w w' := by
  cases h : Ieee.double.sqrt a.toNat with
  | some r =>
    have hr : r < 18446744073709551616 := Ieee.double.sqrt_lt h
    refine ⟨can64 r, (can64_range hr).1, (can64_range hr).2, fun w => ?_⟩
    go_enter Tryz.func177, Tryz.ntmps177
    go_wp2_with (first | simp only [c138] | (go_at_call 225; refine (sqrt_some h _).mono ?_; rintro e w' ⟨rfl, rfl⟩) | (go_at_call 228; refine (canon64_any _ _).mono ?_; rintro e w' ⟨rfl, rfl⟩))
    go_ret
    exact ⟨rfl, sw_refl _⟩
  | none =>
    refine ⟨9221120237041090560, by decide, by decide, fun w => ?_⟩
    go_enter Tryz.func177, Tryz.ntmps177
    go_wp2_with (first | simp only [c138] | (go_at_call 225; refine (sqrt_none h _).mono ?_; rintro e w1 ⟨r, rfl, hn, hsw⟩) | (go_at_call 228; refine (canon64_any _ _).mono ?_; rw [can64_nan hn]; rintro e w' ⟨rfl, rfl⟩))
    go_ret
    exact ⟨rfl, hsw⟩

set_option maxHeartbeats 2000000 in
theorem floatf32_145 (a b : Int) (ha : 0 ≤ a ∧ a < 4294967296) (hb : 0 ≤ b ∧ b < 4294967296) : ∃ c : Int, 0 ≤ c ∧ c < 4294967296 ∧ ∀ w, Calls Tryz.prog 176 #[.int .i64 145, .int .u32 a, .int .u32 b] w fun e w' => e = .returned (.int .u32 c) ∧ sameWorld w w' := by
  cases hx : Ieee.single.read a.toNat with
  | nan s f =>
    have hN : IsN .f32 a.toNat := ⟨s, f, hx⟩
    have hup := fun w => cv_up_nan w hN
    have hsq := fun w => sqrt_nan (nanCv_is .f64 a.toNat w)
    refine ⟨2143289344, by decide, by decide, fun w => ?_⟩
    go_enter Tryz.func176, Tryz.ntmps176
    go_wp2_with (first | simp only [c136, hup] | (go_at_call 225; refine (sqrt_none (hsq _) _).mono ?_; rintro e w1 ⟨r, rfl, hn, hsw⟩; have hdn := fun w => cv_dn_nan w hn; have hcn := fun w => can32_nan (nanCv_is .f32 r w)) | simp only [hdn] | (go_at_call 220; refine (canon32_any _ _).mono ?_; rw [hcn]; rintro e w' ⟨rfl, rfl⟩))
    go_ret
    exact ⟨rfl, sw_trans (sw_trans (sw_drew _) hsw) (sw_drew _)⟩
  | infinity s =>
    have hup := fun w => cv_up w (promote_inf hx)
    cases hs : Ieee.double.sqrt (FloatKind.f64.encode (.infinity s)) with
    | none =>
      refine ⟨2143289344, by decide, by decide, fun w => ?_⟩
      go_enter Tryz.func176, Tryz.ntmps176
      go_wp2_with (first | simp only [c136, hup] | (go_at_call 225; refine (sqrt_none hs _).mono ?_; rintro e w1 ⟨r, rfl, hn, hsw⟩; have hdn := fun w => cv_dn_nan w hn; have hcn := fun w => can32_nan (nanCv_is .f32 r w)) | simp only [hdn] | (go_at_call 220; refine (canon32_any _ _).mono ?_; rw [hcn]; rintro e w' ⟨rfl, rfl⟩))
      go_ret
      exact ⟨rfl, sw_trans hsw (sw_drew _)⟩
    | some r =>
      have hr : Ieee.double.read r = .infinity false := by
        cases s with
        | true =>
          have : Ieee.double.sqrt (FloatKind.f64.encode (.infinity true)) = none := by decide
          rw [this] at hs
          cases hs
        | false =>
          have : Ieee.double.sqrt (FloatKind.f64.encode (.infinity false)) = some 9218868437227405312 := by decide
          rw [this] at hs
          cases hs
          rfl
      have hdn := fun w => cv_dn w (demote_inf hr)
      have hlt : FloatKind.f32.encode (.infinity false) < 4294967296 := by decide
      refine ⟨can32 (FloatKind.f32.encode (.infinity false)), (can32_range hlt).1, (can32_range hlt).2, fun w => ?_⟩
      go_enter Tryz.func176, Tryz.ntmps176
      go_wp2_with (first | simp only [c136, hup] | (go_at_call 225; refine (sqrt_some hs _).mono ?_; rintro e w' ⟨rfl, rfl⟩) | simp only [hdn] | (go_at_call 220; refine (canon32_any _ _).mono ?_; rintro e w' ⟨rfl, rfl⟩))
      go_ret
      exact ⟨rfl, sw_refl _⟩
  | number s m i =>
    have hup := fun w => cv_up w (promote_num hx)
    cases hs : Ieee.double.sqrt (Ieee.double.nearest s m i) with
    | none =>
      refine ⟨2143289344, by decide, by decide, fun w => ?_⟩
      go_enter Tryz.func176, Tryz.ntmps176
      go_wp2_with (first | simp only [c136, hup] | (go_at_call 225; refine (sqrt_none hs _).mono ?_; rintro e w1 ⟨r, rfl, hn, hsw⟩; have hdn := fun w => cv_dn_nan w hn; have hcn := fun w => can32_nan (nanCv_is .f32 r w)) | simp only [hdn] | (go_at_call 220; refine (canon32_any _ _).mono ?_; rw [hcn]; rintro e w' ⟨rfl, rfl⟩))
      go_ret
      exact ⟨rfl, sw_trans hsw (sw_drew _)⟩
    | some r =>
      obtain ⟨s', m', i', e1, m'', i'', e2⟩ := Ieee.sqrt_chain hx hs
      have hdn := fun w => cv_dn w (demote_num e1 e2)
      have hlt : Ieee.single.nearest s' m' i' < 4294967296 := Ieee.single.nearest_lt s' m' i'
      refine ⟨can32 (Ieee.single.nearest s' m' i'), (can32_range hlt).1, (can32_range hlt).2, fun w => ?_⟩
      go_enter Tryz.func176, Tryz.ntmps176
      go_wp2_with (first | simp only [c136, hup] | (go_at_call 225; refine (sqrt_some hs _).mono ?_; rintro e w' ⟨rfl, rfl⟩) | simp only [hdn] | (go_at_call 220; refine (canon32_any _ _).mono ?_; rintro e w' ⟨rfl, rfl⟩))
      go_ret
      exact ⟨rfl, sw_refl _⟩

set_option maxHeartbeats 2000000 in
theorem conv_187 (a : Int) (ha : 0 ≤ a ∧ a < 18446744073709551616) : ∃ b e : Int, 0 ≤ b ∧ b < 18446744073709551616 ∧ (e = 0 ∨ 38 ≤ e ∧ e ≤ 45) ∧ ∀ w, Calls Tryz.prog 178 #[.int .i64 187, .int .u64 a] w fun e' w' => e' = .returned (.tuple #[.int .u64 b, .int .i64 e]) ∧ sameWorld w w' := by
  cases hx : Ieee.single.read (a % 4294967296).toNat with
  | nan s f =>
    have hN : IsN .f32 (a % 4294967296).toNat := ⟨s, f, hx⟩
    have hup := fun w => cv_up_nan w hN
    refine ⟨9221120237041090560, 0, ?_, ?_, by decide, fun w => ?_⟩
    · decide
    · decide
    have hcn := can64_nan (nanCv_is .f64 (a % 4294967296).toNat w)
    go_enter Tryz.func178, Tryz.ntmps178
    go_wp2_with (first | simp only [c136, c138, c192, c193, hup] | (go_at_call 228; refine (canon64_any _ _).mono ?_; rw [hcn]; rintro e w' ⟨rfl, rfl⟩))
    go_ret2
    exact ⟨rfl, sw_drew _⟩
  | infinity s =>
    have hup := fun w => cv_up w (promote_inf hx)
    have hlt : FloatKind.f64.encode (.infinity s) < 18446744073709551616 := by cases s <;> decide
    refine ⟨can64 (FloatKind.f64.encode (.infinity s)), 0, ?_, ?_, by decide, fun w => ?_⟩
    · exact (can64_range hlt).1
    · exact (can64_range hlt).2
    go_enter Tryz.func178, Tryz.ntmps178
    go_wp2_with (first | simp only [c136, c138, c192, c193, hup] | (go_at_call 228; refine (canon64_any _ _).mono ?_; rintro e w' ⟨rfl, rfl⟩))
    go_ret2
    exact ⟨rfl, sw_refl _⟩
  | number s m i =>
    have hup := fun w => cv_up w (promote_num hx)
    have hlt : Ieee.double.nearest s m i < 18446744073709551616 := Ieee.double.nearest_lt s m i
    refine ⟨can64 (Ieee.double.nearest s m i), 0, ?_, ?_, by decide, fun w => ?_⟩
    · exact (can64_range hlt).1
    · exact (can64_range hlt).2
    go_enter Tryz.func178, Tryz.ntmps178
    go_wp2_with (first | simp only [c136, c138, c192, c193, hup] | (go_at_call 228; refine (canon64_any _ _).mono ?_; rintro e w' ⟨rfl, rfl⟩))
    go_ret2
    exact ⟨rfl, sw_refl _⟩

theorem t_read : Ieee.double.read 5183643170835005440 = .number false 9007198986305536 75 := by rfl
theorem tn_read : Ieee.double.read 14407015207689781248 = .number true 9007198986305536 75 := by rfl
theorem demote_in {x : Nat} {s : Bool} {m : Nat} {i : Int} (hx : Ieee.double.read x = .number s m i) (h1 : (FloatKind.f64.format.order x 5183643170835005440 == some .gt || FloatKind.f64.format.order x 5183643170835005440 == some .eq) = false)
    (h2 : (FloatKind.f64.format.order x 14407015207689781248 == some .lt || FloatKind.f64.format.order x 14407015207689781248 == some .eq) = false) : ∃ m' i', Ieee.single.read (Ieee.single.nearest s m i) = .number s m' i' := by
  refine Ieee.demote_ok hx ?_
  have e1 : FloatKind.f64.format.order x 5183643170835005440 = Ieee.Datum.order (.number s m i) (.number false 9007198986305536 75) := by
    show Ieee.Datum.order (Ieee.double.read x) (Ieee.double.read 5183643170835005440) = _
    rw [hx, t_read]
  have e2 : FloatKind.f64.format.order x 14407015207689781248 = Ieee.Datum.order (.number s m i) (.number true 9007198986305536 75) := by
    show Ieee.Datum.order (Ieee.double.read x) (Ieee.double.read 14407015207689781248) = _
    rw [hx, tn_read]
  rw [e1] at h1
  rw [e2] at h2
  cases s with
  | false =>
    simp only [Ieee.Datum.order, Ieee.signed, Bool.false_eq_true, if_false, Nat.shiftLeft_eq] at h1
    generalize hc : compare (((m * 2 ^ (i - min i 75).toNat : Nat)) : Int) ((9007198986305536 * 2 ^ (75 - min i 75).toNat : Nat) : Int) = c at h1
    cases c with
    | lt => have := Ieee.cmp_lt hc; exact_mod_cast this
    | eq => simp at h1
    | gt => simp at h1
  | true =>
    simp only [Ieee.Datum.order, Ieee.signed, if_true, Nat.shiftLeft_eq] at h2
    generalize hc : compare (-((m * 2 ^ (i - min i 75).toNat : Nat) : Int)) (-((9007198986305536 * 2 ^ (75 - min i 75).toNat : Nat) : Int)) = c at h2
    cases c with
    | gt =>
      have := Ieee.cmp_gt hc
      have h3 : ((m * 2 ^ (i - min i 75).toNat : Nat) : Int) < ((9007198986305536 * 2 ^ (75 - min i 75).toNat : Nat) : Int) := by omega
      exact_mod_cast h3
    | eq => simp at h2
    | lt => simp at h2
theorem wrap_u64_id {n : Int} (h : 0 ≤ n ∧ n < 4294967296) : IntKind.u64.wrap n = n := by simp [IntKind.wrap, IntKind.bits, IntKind.signed]; omega

set_option maxHeartbeats 2000000 in
theorem conv_182 (a : Int) (ha : 0 ≤ a ∧ a < 18446744073709551616) : ∃ b e : Int, 0 ≤ b ∧ b < 18446744073709551616 ∧ (e = 0 ∨ 38 ≤ e ∧ e ≤ 45) ∧ ∀ w, Calls Tryz.prog 178 #[.int .i64 182, .int .u64 a] w fun e' w' => e' = .returned (.tuple #[.int .u64 b, .int .i64 e]) ∧ sameWorld w w' := by
  cases h1 : (FloatKind.f64.format.order a.toNat 5183643170835005440 == some .gt || FloatKind.f64.format.order a.toNat 5183643170835005440 == some .eq)
  case' true =>
    apply Exists.intro
    apply Exists.intro
    refine ⟨?_, ?_, ?_, ?_⟩
    rotate_left 3
    · intro w
      go_enter Tryz.func178, Tryz.ntmps178
      go_wp2_with (simp only [c136, c138])
      go_ret2
      exact ⟨rfl, sw_refl _⟩
    · decide
    · decide
    · decide
  cases h2 : (FloatKind.f64.format.order a.toNat 14407015207689781248 == some .lt || FloatKind.f64.format.order a.toNat 14407015207689781248 == some .eq)
  case' true =>
    apply Exists.intro
    apply Exists.intro
    refine ⟨?_, ?_, ?_, ?_⟩
    rotate_left 3
    · intro w
      go_enter Tryz.func178, Tryz.ntmps178
      go_wp2_with (simp only [c136, c138])
      go_ret2
      exact ⟨rfl, sw_refl _⟩
    · decide
    · decide
    · decide
  cases hx : Ieee.double.read a.toNat with
  | nan s f =>
    have hN : IsN .f64 a.toNat := ⟨s, f, hx⟩
    have hdn := fun w => cv_dn_nan w hN
    refine ⟨2143289344, 0, ?_, ?_, by decide, fun w => ?_⟩
    · decide
    · decide
    have hcn := can32_nan (nanCv_is .f32 a.toNat w)
    go_enter Tryz.func178, Tryz.ntmps178
    go_wp2_with (first | simp only [c136, c138, c192, c193, hdn] | (go_at_call 220; refine (canon32_any _ _).mono ?_; rw [hcn]; rintro e w' ⟨rfl, rfl⟩))
    go_ret2
    exact ⟨rfl, sw_drew _⟩
  | infinity s =>
    have hdn := fun w => cv_dn w (demote_inf hx)
    have hlt : FloatKind.f32.encode (.infinity s) < 4294967296 := by cases s <;> decide
    have hrg := can32_range hlt
    have hwi := wrap_u64_id hrg
    refine ⟨can32 (FloatKind.f32.encode (.infinity s)), 0, ?_, ?_, by decide, fun w => ?_⟩
    · omega
    · omega
    go_enter Tryz.func178, Tryz.ntmps178
    go_wp2_with (first | simp only [c136, c138, c192, c193, hdn, hwi] | (go_at_call 220; refine (canon32_any _ _).mono ?_; rintro e w' ⟨rfl, rfl⟩))
    go_ret2
    exact ⟨rfl, sw_refl _⟩
  | number s m i =>
    obtain ⟨m', i', e⟩ := demote_in hx h1 h2
    have hdn := fun w => cv_dn w (demote_num hx e)
    have hlt : Ieee.single.nearest s m i < 4294967296 := Ieee.single.nearest_lt s m i
    have hrg := can32_range hlt
    have hwi := wrap_u64_id hrg
    refine ⟨can32 (Ieee.single.nearest s m i), 0, ?_, ?_, by decide, fun w => ?_⟩
    · omega
    · omega
    go_enter Tryz.func178, Tryz.ntmps178
    go_wp2_with (first | simp only [c136, c138, c192, c193, hdn, hwi] | (go_at_call 220; refine (canon32_any _ _).mono ?_; rintro e w' ⟨rfl, rfl⟩))
    go_ret2
    exact ⟨rfl, sw_refl _⟩

end Go.Proofs.Qxb6500275aGreatDoor
