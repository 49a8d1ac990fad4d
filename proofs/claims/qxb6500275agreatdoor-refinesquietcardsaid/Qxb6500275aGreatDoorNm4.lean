import Derived.Test.Qxb6500275aGreatDoorNm3
set_option linter.unusedVariables false
set_option linter.unusedSimpArgs false
set_option maxRecDepth 20000
namespace Go.Proofs.Qxb6500275aGreatDoor
open Go Go.RowKit

set_option maxHeartbeats 400000 in
theorem relF_91 (x y : Nat) : ∃ b, ∀ w, Calls Tryz.prog 170 #[.int .i64 91, .float .f32 x, .float .f32 y] w fun e w' => e = .returned (.bool b) ∧ w' = w := by
  apply Exists.intro
  · intro w
    go_enter Tryz.func170, Tryz.ntmps170
    go_wp2
    go_ret
    exact ⟨rfl, rfl⟩
set_option maxHeartbeats 400000 in
theorem relF_92 (x y : Nat) : ∃ b, ∀ w, Calls Tryz.prog 170 #[.int .i64 92, .float .f32 x, .float .f32 y] w fun e w' => e = .returned (.bool b) ∧ w' = w := by
  apply Exists.intro
  · intro w
    go_enter Tryz.func170, Tryz.ntmps170
    go_wp2
    go_ret
    exact ⟨rfl, rfl⟩
set_option maxHeartbeats 400000 in
theorem relF_93 (x y : Nat) : ∃ b, ∀ w, Calls Tryz.prog 170 #[.int .i64 93, .float .f32 x, .float .f32 y] w fun e w' => e = .returned (.bool b) ∧ w' = w := by
  apply Exists.intro
  · intro w
    go_enter Tryz.func170, Tryz.ntmps170
    go_wp2
    go_ret
    exact ⟨rfl, rfl⟩
set_option maxHeartbeats 400000 in
theorem relF_94 (x y : Nat) : ∃ b, ∀ w, Calls Tryz.prog 170 #[.int .i64 94, .float .f32 x, .float .f32 y] w fun e w' => e = .returned (.bool b) ∧ w' = w := by
  apply Exists.intro
  · intro w
    go_enter Tryz.func170, Tryz.ntmps170
    go_wp2
    go_ret
    exact ⟨rfl, rfl⟩
set_option maxHeartbeats 400000 in
theorem relF_95 (x y : Nat) : ∃ b, ∀ w, Calls Tryz.prog 170 #[.int .i64 95, .float .f32 x, .float .f32 y] w fun e w' => e = .returned (.bool b) ∧ w' = w := by
  apply Exists.intro
  · intro w
    go_enter Tryz.func170, Tryz.ntmps170
    go_wp2
    go_ret
    exact ⟨rfl, rfl⟩
set_option maxHeartbeats 400000 in
theorem relF_96 (x y : Nat) : ∃ b, ∀ w, Calls Tryz.prog 170 #[.int .i64 96, .float .f32 x, .float .f32 y] w fun e w' => e = .returned (.bool b) ∧ w' = w := by
  apply Exists.intro
  · intro w
    go_enter Tryz.func170, Tryz.ntmps170
    go_wp2
    go_ret
    exact ⟨rfl, rfl⟩
set_option maxHeartbeats 1000000 in
theorem leastf32_all (a b : Int) (ha : 0 ≤ a ∧ a < 4294967296) (hb : 0 ≤ b ∧ b < 4294967296) : ∃ c : Int, 0 ≤ c ∧ c < 4294967296 ∧ ∀ w, Calls Tryz.prog 226 #[.int .u32 a, .int .u32 b] w fun e w' => e = .returned (.int .u32 c) ∧ w' = w := by
  cases h1 : FloatKind.f32.format.order a.toNat a.toNat != some .eq
  · cases h2 : FloatKind.f32.format.order b.toNat b.toNat != some .eq
    · cases h3 : FloatKind.f32.format.order a.toNat b.toNat == some .eq
      · cases h4 : FloatKind.f32.format.order a.toNat b.toNat == some .lt
        ·
          apply Exists.intro
          refine ⟨?_, ?_, ?_⟩
          rotate_left 2
          · intro w
            go_enter Tryz.func226, Tryz.ntmps226
            go_wp2_with (simp only [c136])
            go_ret
            exact ⟨rfl, rfl⟩
          · exact hb.1
          · exact hb.2
        ·
          apply Exists.intro
          refine ⟨?_, ?_, ?_⟩
          rotate_left 2
          · intro w
            go_enter Tryz.func226, Tryz.ntmps226
            go_wp2_with (simp only [c136])
            go_ret
            exact ⟨rfl, rfl⟩
          · exact ha.1
          · exact ha.2
      ·
        apply Exists.intro
        refine ⟨?_, ?_, ?_⟩
        rotate_left 2
        · intro w
          go_enter Tryz.func226, Tryz.ntmps226
          go_wp2_with (simp only [c136])
          go_ret
          exact ⟨rfl, rfl⟩
        · exact bits_u32_nonneg _ _ _
        · exact bits_u32_lt _ _ _
    ·
      apply Exists.intro
      refine ⟨?_, ?_, ?_⟩
      rotate_left 2
      · intro w
        go_enter Tryz.func226, Tryz.ntmps226
        go_wp2_with (simp only [c136])
        go_ret
        exact ⟨rfl, rfl⟩
      · decide
      · decide
  ·
    apply Exists.intro
    refine ⟨?_, ?_, ?_⟩
    rotate_left 2
    · intro w
      go_enter Tryz.func226, Tryz.ntmps226
      go_wp2_with (simp only [c136])
      go_ret
      exact ⟨rfl, rfl⟩
    · decide
    · decide

set_option maxHeartbeats 1000000 in
theorem mostf32_all (a b : Int) (ha : 0 ≤ a ∧ a < 4294967296) (hb : 0 ≤ b ∧ b < 4294967296) : ∃ c : Int, 0 ≤ c ∧ c < 4294967296 ∧ ∀ w, Calls Tryz.prog 227 #[.int .u32 a, .int .u32 b] w fun e w' => e = .returned (.int .u32 c) ∧ w' = w := by
  cases h1 : FloatKind.f32.format.order a.toNat a.toNat != some .eq
  · cases h2 : FloatKind.f32.format.order b.toNat b.toNat != some .eq
    · cases h3 : FloatKind.f32.format.order a.toNat b.toNat == some .eq
      · cases h4 : FloatKind.f32.format.order a.toNat b.toNat == some .gt
        ·
          apply Exists.intro
          refine ⟨?_, ?_, ?_⟩
          rotate_left 2
          · intro w
            go_enter Tryz.func227, Tryz.ntmps227
            go_wp2_with (simp only [c136])
            go_ret
            exact ⟨rfl, rfl⟩
          · exact hb.1
          · exact hb.2
        ·
          apply Exists.intro
          refine ⟨?_, ?_, ?_⟩
          rotate_left 2
          · intro w
            go_enter Tryz.func227, Tryz.ntmps227
            go_wp2_with (simp only [c136])
            go_ret
            exact ⟨rfl, rfl⟩
          · exact ha.1
          · exact ha.2
      ·
        apply Exists.intro
        refine ⟨?_, ?_, ?_⟩
        rotate_left 2
        · intro w
          go_enter Tryz.func227, Tryz.ntmps227
          go_wp2_with (simp only [c136])
          go_ret
          exact ⟨rfl, rfl⟩
        · exact bits_u32_nonneg _ _ _
        · exact bits_u32_lt _ _ _
    ·
      apply Exists.intro
      refine ⟨?_, ?_, ?_⟩
      rotate_left 2
      · intro w
        go_enter Tryz.func227, Tryz.ntmps227
        go_wp2_with (simp only [c136])
        go_ret
        exact ⟨rfl, rfl⟩
      · decide
      · decide
  ·
    apply Exists.intro
    refine ⟨?_, ?_, ?_⟩
    rotate_left 2
    · intro w
      go_enter Tryz.func227, Tryz.ntmps227
      go_wp2_with (simp only [c136])
      go_ret
      exact ⟨rfl, rfl⟩
    · decide
    · decide

set_option maxHeartbeats 1000000 in
theorem floatf32_139 (a b : Int) (ha : 0 ≤ a ∧ a < 4294967296) (hb : 0 ≤ b ∧ b < 4294967296) : ∃ c : Int, 0 ≤ c ∧ c < 4294967296 ∧ ∀ w, Calls Tryz.prog 176 #[.int .i64 139, .int .u32 a, .int .u32 b] w fun e w' => e = .returned (.int .u32 c) ∧ sameWorld w w' := by
  apply Exists.intro
  refine ⟨?_, ?_, ?_⟩
  rotate_left 2
  · intro w
    go_enter Tryz.func176, Tryz.ntmps176
    go_wp2_with (simp only [c136])
    go_ret
    exact ⟨rfl, sw_refl _⟩
  · exact bits_u32_nonneg _ _ _
  · exact bits_u32_lt _ _ _

set_option maxHeartbeats 1000000 in
theorem floatf32_140 (a b : Int) (ha : 0 ≤ a ∧ a < 4294967296) (hb : 0 ≤ b ∧ b < 4294967296) : ∃ c : Int, 0 ≤ c ∧ c < 4294967296 ∧ ∀ w, Calls Tryz.prog 176 #[.int .i64 140, .int .u32 a, .int .u32 b] w fun e w' => e = .returned (.int .u32 c) ∧ sameWorld w w' := by
  apply Exists.intro
  refine ⟨?_, ?_, ?_⟩
  rotate_left 2
  · intro w
    go_enter Tryz.func176, Tryz.ntmps176
    go_wp2_with (simp only [c136])
    go_ret
    exact ⟨rfl, sw_refl _⟩
  · exact bits_u32_nonneg _ _ _
  · exact bits_u32_lt _ _ _

set_option maxHeartbeats 1000000 in
theorem floatf32_152 (a b : Int) (ha : 0 ≤ a ∧ a < 4294967296) (hb : 0 ≤ b ∧ b < 4294967296) : ∃ c : Int, 0 ≤ c ∧ c < 4294967296 ∧ ∀ w, Calls Tryz.prog 176 #[.int .i64 152, .int .u32 a, .int .u32 b] w fun e w' => e = .returned (.int .u32 c) ∧ sameWorld w w' := by
  apply Exists.intro
  refine ⟨?_, ?_, ?_⟩
  rotate_left 2
  · intro w
    go_enter Tryz.func176, Tryz.ntmps176
    go_wp2_with (simp only [c136])
    go_ret
    exact ⟨rfl, sw_refl _⟩
  · exact bits_u32_nonneg _ _ _
  · exact bits_u32_lt _ _ _

set_option maxHeartbeats 1000000 in
theorem floatf32_141 (a b : Int) (ha : 0 ≤ a ∧ a < 4294967296) (hb : 0 ≤ b ∧ b < 4294967296) : ∃ c : Int, 0 ≤ c ∧ c < 4294967296 ∧ ∀ w, Calls Tryz.prog 176 #[.int .i64 141, .int .u32 a, .int .u32 b] w fun e w' => e = .returned (.int .u32 c) ∧ sameWorld w w' := by
  obtain ⟨c, hc0, hc1, hc⟩ := ceilf32_all a.toNat (by omega)
  refine ⟨c, hc0, hc1, fun w => ?_⟩
  go_enter Tryz.func176, Tryz.ntmps176
  go_wp2_with (first | simp only [c136] | (go_at_call 221; refine (hc _).mono ?_; rintro e w1 ⟨r, rfl, hcan, hsw⟩) | (go_at_call 220; refine (canon32_any _ _).mono ?_; rintro e w' ⟨rfl, rfl⟩))
  go_ret
  exact ⟨by rw [← hcan]; rfl, hsw⟩

set_option maxHeartbeats 1000000 in
theorem floatf32_142 (a b : Int) (ha : 0 ≤ a ∧ a < 4294967296) (hb : 0 ≤ b ∧ b < 4294967296) : ∃ c : Int, 0 ≤ c ∧ c < 4294967296 ∧ ∀ w, Calls Tryz.prog 176 #[.int .i64 142, .int .u32 a, .int .u32 b] w fun e w' => e = .returned (.int .u32 c) ∧ sameWorld w w' := by
  obtain ⟨c, hc0, hc1, hc⟩ := floorf32_all a.toNat (by omega)
  refine ⟨c, hc0, hc1, fun w => ?_⟩
  go_enter Tryz.func176, Tryz.ntmps176
  go_wp2_with (first | simp only [c136] | (go_at_call 222; refine (hc _).mono ?_; rintro e w1 ⟨r, rfl, hcan, hsw⟩) | (go_at_call 220; refine (canon32_any _ _).mono ?_; rintro e w' ⟨rfl, rfl⟩))
  go_ret
  exact ⟨by rw [← hcan]; rfl, hsw⟩

set_option maxHeartbeats 1000000 in
theorem floatf32_143 (a b : Int) (ha : 0 ≤ a ∧ a < 4294967296) (hb : 0 ≤ b ∧ b < 4294967296) : ∃ c : Int, 0 ≤ c ∧ c < 4294967296 ∧ ∀ w, Calls Tryz.prog 176 #[.int .i64 143, .int .u32 a, .int .u32 b] w fun e w' => e = .returned (.int .u32 c) ∧ sameWorld w w' := by
  obtain ⟨r, hr, hc⟩ := cutf32_all a.toNat (by omega)
  refine ⟨can32 r, (can32_range hr).1, (can32_range hr).2, fun w => ?_⟩
  go_enter Tryz.func176, Tryz.ntmps176
  go_wp2_with (first | simp only [c136] | (go_at_call 223; refine (hc _).mono ?_; rintro e w' ⟨rfl, rfl⟩) | (go_at_call 220; refine (canon32_any _ _).mono ?_; rintro e w' ⟨rfl, rfl⟩))
  go_ret
  exact ⟨rfl, sw_refl _⟩

set_option maxHeartbeats 1000000 in
theorem floatf32_144 (a b : Int) (ha : 0 ≤ a ∧ a < 4294967296) (hb : 0 ≤ b ∧ b < 4294967296) : ∃ c : Int, 0 ≤ c ∧ c < 4294967296 ∧ ∀ w, Calls Tryz.prog 176 #[.int .i64 144, .int .u32 a, .int .u32 b] w fun e w' => e = .returned (.int .u32 c) ∧ sameWorld w w' := by
  obtain ⟨c, hc0, hc1, hc⟩ := nearf32_all a.toNat (by omega)
  refine ⟨c, hc0, hc1, fun w => ?_⟩
  go_enter Tryz.func176, Tryz.ntmps176
  go_wp2_with (first | simp only [c136] | (go_at_call 224; refine (hc _).mono ?_; rintro e w1 ⟨r, rfl, hcan, hsw⟩) | (go_at_call 220; refine (canon32_any _ _).mono ?_; rintro e w' ⟨rfl, rfl⟩))
  go_ret
  exact ⟨by rw [← hcan]; rfl, hsw⟩

set_option maxHeartbeats 1000000 in
theorem floatf32_146 (a b : Int) (ha : 0 ≤ a ∧ a < 4294967296) (hb : 0 ≤ b ∧ b < 4294967296) : ∃ c : Int, 0 ≤ c ∧ c < 4294967296 ∧ ∀ w, Calls Tryz.prog 176 #[.int .i64 146, .int .u32 a, .int .u32 b] w fun e w' => e = .returned (.int .u32 c) ∧ sameWorld w w' := by
  cases h : floatBits .add .f32 a.toNat b.toNat with
  | some r =>
    have hr : ∀ w, (binOp .add 268 (.float .f32 a.toNat) (.float .f32 b.toNat)).run Tryz.prog w = .ok (.float .f32 r) w := fun w => run_float_arith w .add 268 .f32 a.toNat b.toNat r h
    refine ⟨can32 r, (can32_range (floatBits_lt_f32 h)).1, (can32_range (floatBits_lt_f32 h)).2, fun w => ?_⟩
    go_enter Tryz.func176, Tryz.ntmps176
    go_wp2_with (first | simp only [c136, hr] | (go_at_call 220; refine (canon32_any _ _).mono ?_; rintro e w' ⟨rfl, rfl⟩))
    go_ret
    exact ⟨rfl, sw_refl _⟩
  | none =>
    have hr : ∀ w, (binOp .add 268 (.float .f32 a.toNat) (.float .f32 b.toNat)).run Tryz.prog w = .ok (.float .f32 (nanAt .f32 a.toNat b.toNat w)) w.drew := fun w => run_arith_nan .add (by decide) 268 .f32 a.toNat b.toNat h w
    refine ⟨2143289344, by decide, by decide, fun w => ?_⟩
    have hcn := can32_nan (nanAt_is .f32 a.toNat b.toNat w)
    go_enter Tryz.func176, Tryz.ntmps176
    go_wp2_with (first | simp only [c136, hr] | (go_at_call 220; refine (canon32_any _ _).mono ?_; rw [hcn]; rintro e w' ⟨rfl, rfl⟩))
    go_ret
    exact ⟨rfl, sw_drew _⟩

set_option maxHeartbeats 1000000 in
theorem floatf32_147 (a b : Int) (ha : 0 ≤ a ∧ a < 4294967296) (hb : 0 ≤ b ∧ b < 4294967296) : ∃ c : Int, 0 ≤ c ∧ c < 4294967296 ∧ ∀ w, Calls Tryz.prog 176 #[.int .i64 147, .int .u32 a, .int .u32 b] w fun e w' => e = .returned (.int .u32 c) ∧ sameWorld w w' := by
  cases h : floatBits .sub .f32 a.toNat b.toNat with
  | some r =>
    have hr : ∀ w, (binOp .sub 268 (.float .f32 a.toNat) (.float .f32 b.toNat)).run Tryz.prog w = .ok (.float .f32 r) w := fun w => run_float_arith w .sub 268 .f32 a.toNat b.toNat r h
    refine ⟨can32 r, (can32_range (floatBits_lt_f32 h)).1, (can32_range (floatBits_lt_f32 h)).2, fun w => ?_⟩
    go_enter Tryz.func176, Tryz.ntmps176
    go_wp2_with (first | simp only [c136, hr] | (go_at_call 220; refine (canon32_any _ _).mono ?_; rintro e w' ⟨rfl, rfl⟩))
    go_ret
    exact ⟨rfl, sw_refl _⟩
  | none =>
    have hr : ∀ w, (binOp .sub 268 (.float .f32 a.toNat) (.float .f32 b.toNat)).run Tryz.prog w = .ok (.float .f32 (nanAt .f32 a.toNat b.toNat w)) w.drew := fun w => run_arith_nan .sub (by decide) 268 .f32 a.toNat b.toNat h w
    refine ⟨2143289344, by decide, by decide, fun w => ?_⟩
    have hcn := can32_nan (nanAt_is .f32 a.toNat b.toNat w)
    go_enter Tryz.func176, Tryz.ntmps176
    go_wp2_with (first | simp only [c136, hr] | (go_at_call 220; refine (canon32_any _ _).mono ?_; rw [hcn]; rintro e w' ⟨rfl, rfl⟩))
    go_ret
    exact ⟨rfl, sw_drew _⟩

set_option maxHeartbeats 1000000 in
theorem floatf32_148 (a b : Int) (ha : 0 ≤ a ∧ a < 4294967296) (hb : 0 ≤ b ∧ b < 4294967296) : ∃ c : Int, 0 ≤ c ∧ c < 4294967296 ∧ ∀ w, Calls Tryz.prog 176 #[.int .i64 148, .int .u32 a, .int .u32 b] w fun e w' => e = .returned (.int .u32 c) ∧ sameWorld w w' := by
  cases h : floatBits .mul .f32 a.toNat b.toNat with
  | some r =>
    have hr : ∀ w, (binOp .mul 268 (.float .f32 a.toNat) (.float .f32 b.toNat)).run Tryz.prog w = .ok (.float .f32 r) w := fun w => run_float_arith w .mul 268 .f32 a.toNat b.toNat r h
    refine ⟨can32 r, (can32_range (floatBits_lt_f32 h)).1, (can32_range (floatBits_lt_f32 h)).2, fun w => ?_⟩
    go_enter Tryz.func176, Tryz.ntmps176
    go_wp2_with (first | simp only [c136, hr] | (go_at_call 220; refine (canon32_any _ _).mono ?_; rintro e w' ⟨rfl, rfl⟩))
    go_ret
    exact ⟨rfl, sw_refl _⟩
  | none =>
    have hr : ∀ w, (binOp .mul 268 (.float .f32 a.toNat) (.float .f32 b.toNat)).run Tryz.prog w = .ok (.float .f32 (nanAt .f32 a.toNat b.toNat w)) w.drew := fun w => run_arith_nan .mul (by decide) 268 .f32 a.toNat b.toNat h w
    refine ⟨2143289344, by decide, by decide, fun w => ?_⟩
    have hcn := can32_nan (nanAt_is .f32 a.toNat b.toNat w)
    go_enter Tryz.func176, Tryz.ntmps176
    go_wp2_with (first | simp only [c136, hr] | (go_at_call 220; refine (canon32_any _ _).mono ?_; rw [hcn]; rintro e w' ⟨rfl, rfl⟩))
    go_ret
    exact ⟨rfl, sw_drew _⟩

set_option maxHeartbeats 1000000 in
theorem floatf32_149 (a b : Int) (ha : 0 ≤ a ∧ a < 4294967296) (hb : 0 ≤ b ∧ b < 4294967296) : ∃ c : Int, 0 ≤ c ∧ c < 4294967296 ∧ ∀ w, Calls Tryz.prog 176 #[.int .i64 149, .int .u32 a, .int .u32 b] w fun e w' => e = .returned (.int .u32 c) ∧ sameWorld w w' := by
  cases h1 : FloatKind.f32.format.order b.toNat 0 == some .eq
  ·
    cases h : floatBits .quo .f32 a.toNat b.toNat with
    | some r =>
      have hr : ∀ w, (binOp .quo 268 (.float .f32 a.toNat) (.float .f32 b.toNat)).run Tryz.prog w = .ok (.float .f32 r) w := fun w => run_float_arith w .quo 268 .f32 a.toNat b.toNat r h
      refine ⟨can32 r, (can32_range (floatBits_lt_f32 h)).1, (can32_range (floatBits_lt_f32 h)).2, fun w => ?_⟩
      go_enter Tryz.func176, Tryz.ntmps176
      go_wp2_with (first | simp only [c136, hr] | (go_at_call 220; refine (canon32_any _ _).mono ?_; rintro e w' ⟨rfl, rfl⟩))
      go_ret
      exact ⟨rfl, sw_refl _⟩
    | none =>
      have hr : ∀ w, (binOp .quo 268 (.float .f32 a.toNat) (.float .f32 b.toNat)).run Tryz.prog w = .ok (.float .f32 (nanAt .f32 a.toNat b.toNat w)) w.drew := fun w => run_arith_nan .quo (by decide) 268 .f32 a.toNat b.toNat h w
      refine ⟨2143289344, by decide, by decide, fun w => ?_⟩
      have hcn := can32_nan (nanAt_is .f32 a.toNat b.toNat w)
      go_enter Tryz.func176, Tryz.ntmps176
      go_wp2_with (first | simp only [c136, hr] | (go_at_call 220; refine (canon32_any _ _).mono ?_; rw [hcn]; rintro e w' ⟨rfl, rfl⟩))
      go_ret
      exact ⟨rfl, sw_drew _⟩
  · cases h2 : FloatKind.f32.format.order a.toNat a.toNat != some .eq
    · cases h3 : FloatKind.f32.format.order a.toNat 0 == some .eq
      ·
        apply Exists.intro
        refine ⟨?_, ?_, ?_⟩
        rotate_left 2
        · intro w
          go_enter Tryz.func176, Tryz.ntmps176
          go_wp2_with (simp only [c136])
          go_ret
          exact ⟨rfl, sw_refl _⟩
        · exact bits_u32_nonneg _ _ _
        · exact bits_u32_lt _ _ _
      ·
        apply Exists.intro
        refine ⟨?_, ?_, ?_⟩
        rotate_left 2
        · intro w
          go_enter Tryz.func176, Tryz.ntmps176
          go_wp2_with (simp only [c136])
          go_ret
          exact ⟨rfl, sw_refl _⟩
        · decide
        · decide
    ·
      apply Exists.intro
      refine ⟨?_, ?_, ?_⟩
      rotate_left 2
      · intro w
        go_enter Tryz.func176, Tryz.ntmps176
        go_wp2_with (simp only [c136])
        go_ret
        exact ⟨rfl, sw_refl _⟩
      · decide
      · decide

set_option maxHeartbeats 1000000 in
theorem floatf32_150 (a b : Int) (ha : 0 ≤ a ∧ a < 4294967296) (hb : 0 ≤ b ∧ b < 4294967296) : ∃ c : Int, 0 ≤ c ∧ c < 4294967296 ∧ ∀ w, Calls Tryz.prog 176 #[.int .i64 150, .int .u32 a, .int .u32 b] w fun e w' => e = .returned (.int .u32 c) ∧ sameWorld w w' := by
  obtain ⟨c, hc0, hc1, hc⟩ := leastf32_all a b ha hb
  refine ⟨c, hc0, hc1, fun w => ?_⟩
  go_enter Tryz.func176, Tryz.ntmps176
  go_wp2_with (first | simp only [c136] | (go_at_call 226; refine (hc _).mono ?_; rintro e w' ⟨rfl, rfl⟩))
  go_ret
  exact ⟨rfl, sw_refl _⟩

set_option maxHeartbeats 1000000 in
theorem floatf32_151 (a b : Int) (ha : 0 ≤ a ∧ a < 4294967296) (hb : 0 ≤ b ∧ b < 4294967296) : ∃ c : Int, 0 ≤ c ∧ c < 4294967296 ∧ ∀ w, Calls Tryz.prog 176 #[.int .i64 151, .int .u32 a, .int .u32 b] w fun e w' => e = .returned (.int .u32 c) ∧ sameWorld w w' := by
  obtain ⟨c, hc0, hc1, hc⟩ := mostf32_all a b ha hb
  refine ⟨c, hc0, hc1, fun w => ?_⟩
  go_enter Tryz.func176, Tryz.ntmps176
  go_wp2_with (first | simp only [c136] | (go_at_call 227; refine (hc _).mono ?_; rintro e w' ⟨rfl, rfl⟩))
  go_ret
  exact ⟨rfl, sw_refl _⟩

set_option maxHeartbeats 400000 in
theorem relF_97 (x y : Nat) : ∃ b, ∀ w, Calls Tryz.prog 172 #[.int .i64 97, .float .f64 x, .float .f64 y] w fun e w' => e = .returned (.bool b) ∧ w' = w := by
  apply Exists.intro
  · intro w
    go_enter Tryz.func172, Tryz.ntmps172
    go_wp2
    go_ret
    exact ⟨rfl, rfl⟩
set_option maxHeartbeats 400000 in
theorem relF_98 (x y : Nat) : ∃ b, ∀ w, Calls Tryz.prog 172 #[.int .i64 98, .float .f64 x, .float .f64 y] w fun e w' => e = .returned (.bool b) ∧ w' = w := by
  apply Exists.intro
  · intro w
    go_enter Tryz.func172, Tryz.ntmps172
    go_wp2
    go_ret
    exact ⟨rfl, rfl⟩
set_option maxHeartbeats 400000 in
theorem relF_99 (x y : Nat) : ∃ b, ∀ w, Calls Tryz.prog 172 #[.int .i64 99, .float .f64 x, .float .f64 y] w fun e w' => e = .returned (.bool b) ∧ w' = w := by
  apply Exists.intro
  · intro w
    go_enter Tryz.func172, Tryz.ntmps172
    go_wp2
    go_ret
    exact ⟨rfl, rfl⟩
set_option maxHeartbeats 400000 in
theorem relF_100 (x y : Nat) : ∃ b, ∀ w, Calls Tryz.prog 172 #[.int .i64 100, .float .f64 x, .float .f64 y] w fun e w' => e = .returned (.bool b) ∧ w' = w := by
  apply Exists.intro
  · intro w
    go_enter Tryz.func172, Tryz.ntmps172
    go_wp2
    go_ret
    exact ⟨rfl, rfl⟩
set_option maxHeartbeats 400000 in
theorem relF_101 (x y : Nat) : ∃ b, ∀ w, Calls Tryz.prog 172 #[.int .i64 101, .float .f64 x, .float .f64 y] w fun e w' => e = .returned (.bool b) ∧ w' = w := by
  apply Exists.intro
  · intro w
    go_enter Tryz.func172, Tryz.ntmps172
    go_wp2
    go_ret
    exact ⟨rfl, rfl⟩
set_option maxHeartbeats 400000 in
theorem relF_102 (x y : Nat) : ∃ b, ∀ w, Calls Tryz.prog 172 #[.int .i64 102, .float .f64 x, .float .f64 y] w fun e w' => e = .returned (.bool b) ∧ w' = w := by
  apply Exists.intro
  · intro w
    go_enter Tryz.func172, Tryz.ntmps172
    go_wp2
    go_ret
    exact ⟨rfl, rfl⟩
set_option maxHeartbeats 1000000 in
theorem leastf64_all (a b : Int) (ha : 0 ≤ a ∧ a < 18446744073709551616) (hb : 0 ≤ b ∧ b < 18446744073709551616) : ∃ c : Int, 0 ≤ c ∧ c < 18446744073709551616 ∧ ∀ w, Calls Tryz.prog 233 #[.int .u64 a, .int .u64 b] w fun e w' => e = .returned (.int .u64 c) ∧ w' = w := by
  cases h1 : FloatKind.f64.format.order a.toNat a.toNat != some .eq
  · cases h2 : FloatKind.f64.format.order b.toNat b.toNat != some .eq
    · cases h3 : FloatKind.f64.format.order a.toNat b.toNat == some .eq
      · cases h4 : FloatKind.f64.format.order a.toNat b.toNat == some .lt
        ·
          apply Exists.intro
          refine ⟨?_, ?_, ?_⟩
          rotate_left 2
          · intro w
            go_enter Tryz.func233, Tryz.ntmps233
            go_wp2_with (simp only [c138])
            go_ret
            exact ⟨rfl, rfl⟩
          · exact hb.1
          · exact hb.2
        ·
          apply Exists.intro
          refine ⟨?_, ?_, ?_⟩
          rotate_left 2
          · intro w
            go_enter Tryz.func233, Tryz.ntmps233
            go_wp2_with (simp only [c138])
            go_ret
            exact ⟨rfl, rfl⟩
          · exact ha.1
          · exact ha.2
      ·
        apply Exists.intro
        refine ⟨?_, ?_, ?_⟩
        rotate_left 2
        · intro w
          go_enter Tryz.func233, Tryz.ntmps233
          go_wp2_with (simp only [c138])
          go_ret
          exact ⟨rfl, rfl⟩
        · exact bits_u64_nonneg _ _ _
        · exact bits_u64_lt _ _ _
    ·
      apply Exists.intro
      refine ⟨?_, ?_, ?_⟩
      rotate_left 2
      · intro w
        go_enter Tryz.func233, Tryz.ntmps233
        go_wp2_with (simp only [c138])
        go_ret
        exact ⟨rfl, rfl⟩
      · decide
      · decide
  ·
    apply Exists.intro
    refine ⟨?_, ?_, ?_⟩
    rotate_left 2
    · intro w
      go_enter Tryz.func233, Tryz.ntmps233
      go_wp2_with (simp only [c138])
      go_ret
      exact ⟨rfl, rfl⟩
    · decide
    · decide

set_option maxHeartbeats 1000000 in
theorem mostf64_all (a b : Int) (ha : 0 ≤ a ∧ a < 18446744073709551616) (hb : 0 ≤ b ∧ b < 18446744073709551616) : ∃ c : Int, 0 ≤ c ∧ c < 18446744073709551616 ∧ ∀ w, Calls Tryz.prog 234 #[.int .u64 a, .int .u64 b] w fun e w' => e = .returned (.int .u64 c) ∧ w' = w := by
  cases h1 : FloatKind.f64.format.order a.toNat a.toNat != some .eq
  · cases h2 : FloatKind.f64.format.order b.toNat b.toNat != some .eq
    · cases h3 : FloatKind.f64.format.order a.toNat b.toNat == some .eq
      · cases h4 : FloatKind.f64.format.order a.toNat b.toNat == some .gt
        ·
          apply Exists.intro
          refine ⟨?_, ?_, ?_⟩
          rotate_left 2
          · intro w
            go_enter Tryz.func234, Tryz.ntmps234
            go_wp2_with (simp only [c138])
            go_ret
            exact ⟨rfl, rfl⟩
          · exact hb.1
          · exact hb.2
        ·
          apply Exists.intro
          refine ⟨?_, ?_, ?_⟩
          rotate_left 2
          · intro w
            go_enter Tryz.func234, Tryz.ntmps234
            go_wp2_with (simp only [c138])
            go_ret
            exact ⟨rfl, rfl⟩
          · exact ha.1
          · exact ha.2
      ·
        apply Exists.intro
        refine ⟨?_, ?_, ?_⟩
        rotate_left 2
        · intro w
          go_enter Tryz.func234, Tryz.ntmps234
          go_wp2_with (simp only [c138])
          go_ret
          exact ⟨rfl, rfl⟩
        · exact bits_u64_nonneg _ _ _
        · exact bits_u64_lt _ _ _
    ·
      apply Exists.intro
      refine ⟨?_, ?_, ?_⟩
      rotate_left 2
      · intro w
        go_enter Tryz.func234, Tryz.ntmps234
        go_wp2_with (simp only [c138])
        go_ret
        exact ⟨rfl, rfl⟩
      · decide
      · decide
  ·
    apply Exists.intro
    refine ⟨?_, ?_, ?_⟩
    rotate_left 2
    · intro w
      go_enter Tryz.func234, Tryz.ntmps234
      go_wp2_with (simp only [c138])
      go_ret
      exact ⟨rfl, rfl⟩
    · decide
    · decide

set_option maxHeartbeats 1000000 in
theorem floatf64_153 (a b : Int) (ha : 0 ≤ a ∧ a < 18446744073709551616) (hb : 0 ≤ b ∧ b < 18446744073709551616) : ∃ c : Int, 0 ≤ c ∧ c < 18446744073709551616 ∧ ∀ w, Calls Tryz.prog 177 #[.int .i64 153, .int .u64 a, .int .u64 b] w fun e w' => e = .returned (.int .u64 c) ∧ sameWorld w w' := by
  apply Exists.intro
  refine ⟨?_, ?_, ?_⟩
  rotate_left 2
  · intro w
    go_enter Tryz.func177, Tryz.ntmps177
    go_wp2_with (simp only [c138])
    go_ret
    exact ⟨rfl, sw_refl _⟩
  · exact bits_u64_nonneg _ _ _
  · exact bits_u64_lt _ _ _

set_option maxHeartbeats 1000000 in
theorem floatf64_154 (a b : Int) (ha : 0 ≤ a ∧ a < 18446744073709551616) (hb : 0 ≤ b ∧ b < 18446744073709551616) : ∃ c : Int, 0 ≤ c ∧ c < 18446744073709551616 ∧ ∀ w, Calls Tryz.prog 177 #[.int .i64 154, .int .u64 a, .int .u64 b] w fun e w' => e = .returned (.int .u64 c) ∧ sameWorld w w' := by
  apply Exists.intro
  refine ⟨?_, ?_, ?_⟩
  rotate_left 2
  · intro w
    go_enter Tryz.func177, Tryz.ntmps177
    go_wp2_with (simp only [c138])
    go_ret
    exact ⟨rfl, sw_refl _⟩
  · exact bits_u64_nonneg _ _ _
  · exact bits_u64_lt _ _ _

set_option maxHeartbeats 1000000 in
theorem floatf64_166 (a b : Int) (ha : 0 ≤ a ∧ a < 18446744073709551616) (hb : 0 ≤ b ∧ b < 18446744073709551616) : ∃ c : Int, 0 ≤ c ∧ c < 18446744073709551616 ∧ ∀ w, Calls Tryz.prog 177 #[.int .i64 166, .int .u64 a, .int .u64 b] w fun e w' => e = .returned (.int .u64 c) ∧ sameWorld w w' := by
  apply Exists.intro
  refine ⟨?_, ?_, ?_⟩
  rotate_left 2
  · intro w
    go_enter Tryz.func177, Tryz.ntmps177
    go_wp2_with (simp only [c138])
    go_ret
    exact ⟨rfl, sw_refl _⟩
  · exact bits_u64_nonneg _ _ _
  · exact bits_u64_lt _ _ _

set_option maxHeartbeats 1000000 in
theorem floatf64_155 (a b : Int) (ha : 0 ≤ a ∧ a < 18446744073709551616) (hb : 0 ≤ b ∧ b < 18446744073709551616) : ∃ c : Int, 0 ≤ c ∧ c < 18446744073709551616 ∧ ∀ w, Calls Tryz.prog 177 #[.int .i64 155, .int .u64 a, .int .u64 b] w fun e w' => e = .returned (.int .u64 c) ∧ sameWorld w w' := by
  obtain ⟨c, hc0, hc1, hc⟩ := ceilf64_all a.toNat (by omega)
  refine ⟨c, hc0, hc1, fun w => ?_⟩
  go_enter Tryz.func177, Tryz.ntmps177
  go_wp2_with (first | simp only [c138] | (go_at_call 229; refine (hc _).mono ?_; rintro e w1 ⟨r, rfl, hcan, hsw⟩) | (go_at_call 228; refine (canon64_any _ _).mono ?_; rintro e w' ⟨rfl, rfl⟩))
  go_ret
  exact ⟨by rw [← hcan]; rfl, hsw⟩

set_option maxHeartbeats 1000000 in
theorem floatf64_156 (a b : Int) (ha : 0 ≤ a ∧ a < 18446744073709551616) (hb : 0 ≤ b ∧ b < 18446744073709551616) : ∃ c : Int, 0 ≤ c ∧ c < 18446744073709551616 ∧ ∀ w, Calls Tryz.prog 177 #[.int .i64 156, .int .u64 a, .int .u64 b] w fun e w' => e = .returned (.int .u64 c) ∧ sameWorld w w' := by
  obtain ⟨c, hc0, hc1, hc⟩ := floorf64_all a.toNat (by omega)
  refine ⟨c, hc0, hc1, fun w => ?_⟩
  go_enter Tryz.func177, Tryz.ntmps177
  go_wp2_with (first | simp only [c138] | (go_at_call 230; refine (hc _).mono ?_; rintro e w1 ⟨r, rfl, hcan, hsw⟩) | (go_at_call 228; refine (canon64_any _ _).mono ?_; rintro e w' ⟨rfl, rfl⟩))
  go_ret
  exact ⟨by rw [← hcan]; rfl, hsw⟩

set_option maxHeartbeats 1000000 in
theorem floatf64_157 (a b : Int) (ha : 0 ≤ a ∧ a < 18446744073709551616) (hb : 0 ≤ b ∧ b < 18446744073709551616) : ∃ c : Int, 0 ≤ c ∧ c < 18446744073709551616 ∧ ∀ w, Calls Tryz.prog 177 #[.int .i64 157, .int .u64 a, .int .u64 b] w fun e w' => e = .returned (.int .u64 c) ∧ sameWorld w w' := by
  obtain ⟨r, hr, hc⟩ := cutf64_all a.toNat (by omega)
  refine ⟨can64 r, (can64_range hr).1, (can64_range hr).2, fun w => ?_⟩
  go_enter Tryz.func177, Tryz.ntmps177
  go_wp2_with (first | simp only [c138] | (go_at_call 231; refine (hc _).mono ?_; rintro e w' ⟨rfl, rfl⟩) | (go_at_call 228; refine (canon64_any _ _).mono ?_; rintro e w' ⟨rfl, rfl⟩))
  go_ret
  exact ⟨rfl, sw_refl _⟩

set_option maxHeartbeats 1000000 in
theorem floatf64_158 (a b : Int) (ha : 0 ≤ a ∧ a < 18446744073709551616) (hb : 0 ≤ b ∧ b < 18446744073709551616) : ∃ c : Int, 0 ≤ c ∧ c < 18446744073709551616 ∧ ∀ w, Calls Tryz.prog 177 #[.int .i64 158, .int .u64 a, .int .u64 b] w fun e w' => e = .returned (.int .u64 c) ∧ sameWorld w w' := by
  obtain ⟨c, hc0, hc1, hc⟩ := nearf64_all a.toNat (by omega)
  refine ⟨c, hc0, hc1, fun w => ?_⟩
  go_enter Tryz.func177, Tryz.ntmps177
  go_wp2_with (first | simp only [c138] | (go_at_call 232; refine (hc _).mono ?_; rintro e w1 ⟨r, rfl, hcan, hsw⟩) | (go_at_call 228; refine (canon64_any _ _).mono ?_; rintro e w' ⟨rfl, rfl⟩))
  go_ret
  exact ⟨by rw [← hcan]; rfl, hsw⟩

set_option maxHeartbeats 1000000 in
theorem floatf64_160 (a b : Int) (ha : 0 ≤ a ∧ a < 18446744073709551616) (hb : 0 ≤ b ∧ b < 18446744073709551616) : ∃ c : Int, 0 ≤ c ∧ c < 18446744073709551616 ∧ ∀ w, Calls Tryz.prog 177 #[.int .i64 160, .int .u64 a, .int .u64 b] w fun e w' => e = .returned (.int .u64 c) ∧ sameWorld w w' := by
  cases h : floatBits .add .f64 a.toNat b.toNat with
  | some r =>
    have hr : ∀ w, (binOp .add 271 (.float .f64 a.toNat) (.float .f64 b.toNat)).run Tryz.prog w = .ok (.float .f64 r) w := fun w => run_float_arith w .add 271 .f64 a.toNat b.toNat r h
    refine ⟨can64 r, (can64_range (floatBits_lt_f64 h)).1, (can64_range (floatBits_lt_f64 h)).2, fun w => ?_⟩
    go_enter Tryz.func177, Tryz.ntmps177
    go_wp2_with (first | simp only [c138, hr] | (go_at_call 228; refine (canon64_any _ _).mono ?_; rintro e w' ⟨rfl, rfl⟩))
    go_ret
    exact ⟨rfl, sw_refl _⟩
  | none =>
    have hr : ∀ w, (binOp .add 271 (.float .f64 a.toNat) (.float .f64 b.toNat)).run Tryz.prog w = .ok (.float .f64 (nanAt .f64 a.toNat b.toNat w)) w.drew := fun w => run_arith_nan .add (by decide) 271 .f64 a.toNat b.toNat h w
    refine ⟨9221120237041090560, by decide, by decide, fun w => ?_⟩
    have hcn := can64_nan (nanAt_is .f64 a.toNat b.toNat w)
    go_enter Tryz.func177, Tryz.ntmps177
    go_wp2_with (first | simp only [c138, hr] | (go_at_call 228; refine (canon64_any _ _).mono ?_; rw [hcn]; rintro e w' ⟨rfl, rfl⟩))
    go_ret
    exact ⟨rfl, sw_drew _⟩

set_option maxHeartbeats 1000000 in
theorem floatf64_161 (a b : Int) (ha : 0 ≤ a ∧ a < 18446744073709551616) (hb : 0 ≤ b ∧ b < 18446744073709551616) : ∃ c : Int, 0 ≤ c ∧ c < 18446744073709551616 ∧ ∀ w, Calls Tryz.prog 177 #[.int .i64 161, .int .u64 a, .int .u64 b] w fun e w' => e = .returned (.int .u64 c) ∧ sameWorld w w' := by
  cases h : floatBits .sub .f64 a.toNat b.toNat with
  | some r =>
    have hr : ∀ w, (binOp .sub 271 (.float .f64 a.toNat) (.float .f64 b.toNat)).run Tryz.prog w = .ok (.float .f64 r) w := fun w => run_float_arith w .sub 271 .f64 a.toNat b.toNat r h
    refine ⟨can64 r, (can64_range (floatBits_lt_f64 h)).1, (can64_range (floatBits_lt_f64 h)).2, fun w => ?_⟩
    go_enter Tryz.func177, Tryz.ntmps177
    go_wp2_with (first | simp only [c138, hr] | (go_at_call 228; refine (canon64_any _ _).mono ?_; rintro e w' ⟨rfl, rfl⟩))
    go_ret
    exact ⟨rfl, sw_refl _⟩
  | none =>
    have hr : ∀ w, (binOp .sub 271 (.float .f64 a.toNat) (.float .f64 b.toNat)).run Tryz.prog w = .ok (.float .f64 (nanAt .f64 a.toNat b.toNat w)) w.drew := fun w => run_arith_nan .sub (by decide) 271 .f64 a.toNat b.toNat h w
    refine ⟨9221120237041090560, by decide, by decide, fun w => ?_⟩
    have hcn := can64_nan (nanAt_is .f64 a.toNat b.toNat w)
    go_enter Tryz.func177, Tryz.ntmps177
    go_wp2_with (first | simp only [c138, hr] | (go_at_call 228; refine (canon64_any _ _).mono ?_; rw [hcn]; rintro e w' ⟨rfl, rfl⟩))
    go_ret
    exact ⟨rfl, sw_drew _⟩

set_option maxHeartbeats 1000000 in
theorem floatf64_162 (a b : Int) (ha : 0 ≤ a ∧ a < 18446744073709551616) (hb : 0 ≤ b ∧ b < 18446744073709551616) : ∃ c : Int, 0 ≤ c ∧ c < 18446744073709551616 ∧ ∀ w, Calls Tryz.prog 177 #[.int .i64 162, .int .u64 a, .int .u64 b] w fun e w' => e = .returned (.int .u64 c) ∧ sameWorld w w' := by
  cases h : floatBits .mul .f64 a.toNat b.toNat with
  | some r =>
    have hr : ∀ w, (binOp .mul 271 (.float .f64 a.toNat) (.float .f64 b.toNat)).run Tryz.prog w = .ok (.float .f64 r) w := fun w => run_float_arith w .mul 271 .f64 a.toNat b.toNat r h
    refine ⟨can64 r, (can64_range (floatBits_lt_f64 h)).1, (can64_range (floatBits_lt_f64 h)).2, fun w => ?_⟩
    go_enter Tryz.func177, Tryz.ntmps177
    go_wp2_with (first | simp only [c138, hr] | (go_at_call 228; refine (canon64_any _ _).mono ?_; rintro e w' ⟨rfl, rfl⟩))
    go_ret
    exact ⟨rfl, sw_refl _⟩
  | none =>
    have hr : ∀ w, (binOp .mul 271 (.float .f64 a.toNat) (.float .f64 b.toNat)).run Tryz.prog w = .ok (.float .f64 (nanAt .f64 a.toNat b.toNat w)) w.drew := fun w => run_arith_nan .mul (by decide) 271 .f64 a.toNat b.toNat h w
    refine ⟨9221120237041090560, by decide, by decide, fun w => ?_⟩
    have hcn := can64_nan (nanAt_is .f64 a.toNat b.toNat w)
    go_enter Tryz.func177, Tryz.ntmps177
    go_wp2_with (first | simp only [c138, hr] | (go_at_call 228; refine (canon64_any _ _).mono ?_; rw [hcn]; rintro e w' ⟨rfl, rfl⟩))
    go_ret
    exact ⟨rfl, sw_drew _⟩

set_option maxHeartbeats 1000000 in
theorem floatf64_163 (a b : Int) (ha : 0 ≤ a ∧ a < 18446744073709551616) (hb : 0 ≤ b ∧ b < 18446744073709551616) : ∃ c : Int, 0 ≤ c ∧ c < 18446744073709551616 ∧ ∀ w, Calls Tryz.prog 177 #[.int .i64 163, .int .u64 a, .int .u64 b] w fun e w' => e = .returned (.int .u64 c) ∧ sameWorld w w' := by
  cases h1 : FloatKind.f64.format.order b.toNat 0 == some .eq
  ·
    cases h : floatBits .quo .f64 a.toNat b.toNat with
    | some r =>
      have hr : ∀ w, (binOp .quo 271 (.float .f64 a.toNat) (.float .f64 b.toNat)).run Tryz.prog w = .ok (.float .f64 r) w := fun w => run_float_arith w .quo 271 .f64 a.toNat b.toNat r h
      refine ⟨can64 r, (can64_range (floatBits_lt_f64 h)).1, (can64_range (floatBits_lt_f64 h)).2, fun w => ?_⟩
      go_enter Tryz.func177, Tryz.ntmps177
      go_wp2_with (first | simp only [c138, hr] | (go_at_call 228; refine (canon64_any _ _).mono ?_; rintro e w' ⟨rfl, rfl⟩))
      go_ret
      exact ⟨rfl, sw_refl _⟩
    | none =>
      have hr : ∀ w, (binOp .quo 271 (.float .f64 a.toNat) (.float .f64 b.toNat)).run Tryz.prog w = .ok (.float .f64 (nanAt .f64 a.toNat b.toNat w)) w.drew := fun w => run_arith_nan .quo (by decide) 271 .f64 a.toNat b.toNat h w
      refine ⟨9221120237041090560, by decide, by decide, fun w => ?_⟩
      have hcn := can64_nan (nanAt_is .f64 a.toNat b.toNat w)
      go_enter Tryz.func177, Tryz.ntmps177
      go_wp2_with (first | simp only [c138, hr] | (go_at_call 228; refine (canon64_any _ _).mono ?_; rw [hcn]; rintro e w' ⟨rfl, rfl⟩))
      go_ret
      exact ⟨rfl, sw_drew _⟩
  · cases h2 : FloatKind.f64.format.order a.toNat a.toNat != some .eq
    · cases h3 : FloatKind.f64.format.order a.toNat 0 == some .eq
      ·
        apply Exists.intro
        refine ⟨?_, ?_, ?_⟩
        rotate_left 2
        · intro w
          go_enter Tryz.func177, Tryz.ntmps177
          go_wp2_with (simp only [c138])
          go_ret
          exact ⟨rfl, sw_refl _⟩
        · exact bits_u64_nonneg _ _ _
        · exact bits_u64_lt _ _ _
      ·
        apply Exists.intro
        refine ⟨?_, ?_, ?_⟩
        rotate_left 2
        · intro w
          go_enter Tryz.func177, Tryz.ntmps177
          go_wp2_with (simp only [c138])
          go_ret
          exact ⟨rfl, sw_refl _⟩
        · decide
        · decide
    ·
      apply Exists.intro
      refine ⟨?_, ?_, ?_⟩
      rotate_left 2
      · intro w
        go_enter Tryz.func177, Tryz.ntmps177
        go_wp2_with (simp only [c138])
        go_ret
        exact ⟨rfl, sw_refl _⟩
      · decide
      · decide

set_option maxHeartbeats 1000000 in
theorem floatf64_164 (a b : Int) (ha : 0 ≤ a ∧ a < 18446744073709551616) (hb : 0 ≤ b ∧ b < 18446744073709551616) : ∃ c : Int, 0 ≤ c ∧ c < 18446744073709551616 ∧ ∀ w, Calls Tryz.prog 177 #[.int .i64 164, .int .u64 a, .int .u64 b] w fun e w' => e = .returned (.int .u64 c) ∧ sameWorld w w' := by
  obtain ⟨c, hc0, hc1, hc⟩ := leastf64_all a b ha hb
  refine ⟨c, hc0, hc1, fun w => ?_⟩
  go_enter Tryz.func177, Tryz.ntmps177
  go_wp2_with (first | simp only [c138] | (go_at_call 233; refine (hc _).mono ?_; rintro e w' ⟨rfl, rfl⟩))
  go_ret
  exact ⟨rfl, sw_refl _⟩

set_option maxHeartbeats 1000000 in
theorem floatf64_165 (a b : Int) (ha : 0 ≤ a ∧ a < 18446744073709551616) (hb : 0 ≤ b ∧ b < 18446744073709551616) : ∃ c : Int, 0 ≤ c ∧ c < 18446744073709551616 ∧ ∀ w, Calls Tryz.prog 177 #[.int .i64 165, .int .u64 a, .int .u64 b] w fun e w' => e = .returned (.int .u64 c) ∧ sameWorld w w' := by
  obtain ⟨c, hc0, hc1, hc⟩ := mostf64_all a b ha hb
  refine ⟨c, hc0, hc1, fun w => ?_⟩
  go_enter Tryz.func177, Tryz.ntmps177
  go_wp2_with (first | simp only [c138] | (go_at_call 234; refine (hc _).mono ?_; rintro e w' ⟨rfl, rfl⟩))
  go_ret
  exact ⟨rfl, sw_refl _⟩

end Go.Proofs.Qxb6500275aGreatDoor
