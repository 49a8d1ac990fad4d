import Derived.Test.Qxb6500275aGreatDoorNm1
set_option linter.unusedVariables false
set_option maxRecDepth 20000
namespace Go.Proofs.Qxb6500275aGreatDoor
open Go Go.RowKit

set_option maxHeartbeats 4000000 in
theorem int32s_103 (x y : Int) (hx : 0 ≤ x ∧ x < 4294967296) (hy : 0 ≤ y ∧ y < 4294967296) : ∃ b e : Int, (e = 0 ∨ 38 ≤ e ∧ e ≤ 45) ∧ ∀ (w : World),
    Calls Tryz.prog 174 #[.int .i64 103, .int .u32 x, .int .u32 y] w fun e' w' => e' = .returned (.tuple #[.int .u32 b, .int .i64 e]) ∧ w' = w := by
  apply Exists.intro
  apply Exists.intro
  refine ⟨?_, ?_⟩
  rotate_left 1
  · intro w
    go_enter Tryz.func174, Tryz.ntmps174
    go_wp2_with (go_at_call 216; refine (clz32_any _ _).mono ?_; rintro e w' ⟨rfl, rfl⟩)
    go_ret2
    exact ⟨rfl, rfl⟩
  · decide

set_option maxHeartbeats 4000000 in
theorem int32s_104 (x y : Int) (hx : 0 ≤ x ∧ x < 4294967296) (hy : 0 ≤ y ∧ y < 4294967296) : ∃ b e : Int, (e = 0 ∨ 38 ≤ e ∧ e ≤ 45) ∧ ∀ (w : World),
    Calls Tryz.prog 174 #[.int .i64 104, .int .u32 x, .int .u32 y] w fun e' w' => e' = .returned (.tuple #[.int .u32 b, .int .i64 e]) ∧ w' = w := by
  obtain ⟨F, hF⟩ := pop32_fn
  apply Exists.intro
  apply Exists.intro
  refine ⟨?_, ?_⟩
  rotate_left 1
  · intro w
    go_enter Tryz.func174, Tryz.ntmps174
    go_wp2_with (go_at_call 217; refine (hF _ _).mono ?_; rintro e w' ⟨rfl, rfl⟩)
    go_ret2
    exact ⟨rfl, rfl⟩
  · decide

set_option maxHeartbeats 4000000 in
theorem int32s_105 (x y : Int) (hx : 0 ≤ x ∧ x < 4294967296) (hy : 0 ≤ y ∧ y < 4294967296) : ∃ b e : Int, (e = 0 ∨ 38 ≤ e ∧ e ≤ 45) ∧ ∀ (w : World),
    Calls Tryz.prog 174 #[.int .i64 105, .int .u32 x, .int .u32 y] w fun e' w' => e' = .returned (.tuple #[.int .u32 b, .int .i64 e]) ∧ w' = w := by
  obtain ⟨F, hF⟩ := pop32_fn
  apply Exists.intro
  apply Exists.intro
  refine ⟨?_, ?_⟩
  rotate_left 1
  · intro w
    go_enter Tryz.func174, Tryz.ntmps174
    go_wp2_with (go_at_call 217; refine (hF _ _).mono ?_; rintro e w' ⟨rfl, rfl⟩)
    go_ret2
    exact ⟨rfl, rfl⟩
  · decide

set_option maxHeartbeats 4000000 in
theorem int32s_106 (x y : Int) (hx : 0 ≤ x ∧ x < 4294967296) (hy : 0 ≤ y ∧ y < 4294967296) : ∃ b e : Int, (e = 0 ∨ 38 ≤ e ∧ e ≤ 45) ∧ ∀ (w : World),
    Calls Tryz.prog 174 #[.int .i64 106, .int .u32 x, .int .u32 y] w fun e' w' => e' = .returned (.tuple #[.int .u32 b, .int .i64 e]) ∧ w' = w := by
  apply Exists.intro
  apply Exists.intro
  refine ⟨?_, ?_⟩
  rotate_left 1
  · intro w
    go_enter Tryz.func174, Tryz.ntmps174
    go_wp2
    go_ret2
    exact ⟨rfl, rfl⟩
  · decide

set_option maxHeartbeats 4000000 in
theorem int32s_107 (x y : Int) (hx : 0 ≤ x ∧ x < 4294967296) (hy : 0 ≤ y ∧ y < 4294967296) : ∃ b e : Int, (e = 0 ∨ 38 ≤ e ∧ e ≤ 45) ∧ ∀ (w : World),
    Calls Tryz.prog 174 #[.int .i64 107, .int .u32 x, .int .u32 y] w fun e' w' => e' = .returned (.tuple #[.int .u32 b, .int .i64 e]) ∧ w' = w := by
  apply Exists.intro
  apply Exists.intro
  refine ⟨?_, ?_⟩
  rotate_left 1
  · intro w
    go_enter Tryz.func174, Tryz.ntmps174
    go_wp2
    go_ret2
    exact ⟨rfl, rfl⟩
  · decide

set_option maxHeartbeats 4000000 in
theorem int32s_108 (x y : Int) (hx : 0 ≤ x ∧ x < 4294967296) (hy : 0 ≤ y ∧ y < 4294967296) : ∃ b e : Int, (e = 0 ∨ 38 ≤ e ∧ e ≤ 45) ∧ ∀ (w : World),
    Calls Tryz.prog 174 #[.int .i64 108, .int .u32 x, .int .u32 y] w fun e' w' => e' = .returned (.tuple #[.int .u32 b, .int .i64 e]) ∧ w' = w := by
  apply Exists.intro
  apply Exists.intro
  refine ⟨?_, ?_⟩
  rotate_left 1
  · intro w
    go_enter Tryz.func174, Tryz.ntmps174
    go_wp2
    go_ret2
    exact ⟨rfl, rfl⟩
  · decide

set_option maxHeartbeats 4000000 in
theorem int32s_109 (x y : Int) (hx : 0 ≤ x ∧ x < 4294967296) (hy : 0 ≤ y ∧ y < 4294967296) : ∃ b e : Int, (e = 0 ∨ 38 ≤ e ∧ e ≤ 45) ∧ ∀ (w : World),
    Calls Tryz.prog 174 #[.int .i64 109, .int .u32 x, .int .u32 y] w fun e' w' => e' = .returned (.tuple #[.int .u32 b, .int .i64 e]) ∧ w' = w := by
  by_cases h0 : y = 0
  · subst h0
    apply Exists.intro
    apply Exists.intro
    refine ⟨?_, ?_⟩
    rotate_left 1
    · intro w
      go_enter Tryz.func174, Tryz.ntmps174
      go_wp2
      go_ret2
      exact ⟨rfl, rfl⟩
    · decide
  · have hz : ¬ wrap32 y = 0 := by unfold wrap32; omega
    by_cases h1 : x = 2147483648
    · subst h1
      by_cases h2 : y = 4294967295
      · subst h2
        apply Exists.intro
        apply Exists.intro
        refine ⟨?_, ?_⟩
        rotate_left 1
        · intro w
          go_enter Tryz.func174, Tryz.ntmps174
          go_wp2
          go_ret2
          exact ⟨rfl, rfl⟩
        · decide
      · apply Exists.intro
        apply Exists.intro
        refine ⟨?_, ?_⟩
        rotate_left 1
        · intro w
          go_enter Tryz.func174, Tryz.ntmps174
          go_wp2
          go_ret2
          exact ⟨rfl, rfl⟩
        · decide
    · apply Exists.intro
      apply Exists.intro
      refine ⟨?_, ?_⟩
      rotate_left 1
      · intro w
        go_enter Tryz.func174, Tryz.ntmps174
        go_wp2
        go_ret2
        exact ⟨rfl, rfl⟩
      · decide

set_option maxHeartbeats 4000000 in
theorem int32s_110 (x y : Int) (hx : 0 ≤ x ∧ x < 4294967296) (hy : 0 ≤ y ∧ y < 4294967296) : ∃ b e : Int, (e = 0 ∨ 38 ≤ e ∧ e ≤ 45) ∧ ∀ (w : World),
    Calls Tryz.prog 174 #[.int .i64 110, .int .u32 x, .int .u32 y] w fun e' w' => e' = .returned (.tuple #[.int .u32 b, .int .i64 e]) ∧ w' = w := by
  by_cases h0 : y = 0
  · subst h0
    apply Exists.intro
    apply Exists.intro
    refine ⟨?_, ?_⟩
    rotate_left 1
    · intro w
      go_enter Tryz.func174, Tryz.ntmps174
      go_wp2
      go_ret2
      exact ⟨rfl, rfl⟩
    · decide
  · have hz : ¬ wrap32 y = 0 := by unfold wrap32; omega
    apply Exists.intro
    apply Exists.intro
    refine ⟨?_, ?_⟩
    rotate_left 1
    · intro w
      go_enter Tryz.func174, Tryz.ntmps174
      go_wp2
      go_ret2
      exact ⟨rfl, rfl⟩
    · decide

set_option maxHeartbeats 4000000 in
theorem int32s_111 (x y : Int) (hx : 0 ≤ x ∧ x < 4294967296) (hy : 0 ≤ y ∧ y < 4294967296) : ∃ b e : Int, (e = 0 ∨ 38 ≤ e ∧ e ≤ 45) ∧ ∀ (w : World),
    Calls Tryz.prog 174 #[.int .i64 111, .int .u32 x, .int .u32 y] w fun e' w' => e' = .returned (.tuple #[.int .u32 b, .int .i64 e]) ∧ w' = w := by
  by_cases h0 : y = 0
  · subst h0
    apply Exists.intro
    apply Exists.intro
    refine ⟨?_, ?_⟩
    rotate_left 1
    · intro w
      go_enter Tryz.func174, Tryz.ntmps174
      go_wp2
      go_ret2
      exact ⟨rfl, rfl⟩
    · decide
  · have hz : ¬ wrap32 y = 0 := by unfold wrap32; omega
    apply Exists.intro
    apply Exists.intro
    refine ⟨?_, ?_⟩
    rotate_left 1
    · intro w
      go_enter Tryz.func174, Tryz.ntmps174
      go_wp2
      go_ret2
      exact ⟨rfl, rfl⟩
    · decide

set_option maxHeartbeats 4000000 in
theorem int32s_112 (x y : Int) (hx : 0 ≤ x ∧ x < 4294967296) (hy : 0 ≤ y ∧ y < 4294967296) : ∃ b e : Int, (e = 0 ∨ 38 ≤ e ∧ e ≤ 45) ∧ ∀ (w : World),
    Calls Tryz.prog 174 #[.int .i64 112, .int .u32 x, .int .u32 y] w fun e' w' => e' = .returned (.tuple #[.int .u32 b, .int .i64 e]) ∧ w' = w := by
  by_cases h0 : y = 0
  · subst h0
    apply Exists.intro
    apply Exists.intro
    refine ⟨?_, ?_⟩
    rotate_left 1
    · intro w
      go_enter Tryz.func174, Tryz.ntmps174
      go_wp2
      go_ret2
      exact ⟨rfl, rfl⟩
    · decide
  · have hz : ¬ wrap32 y = 0 := by unfold wrap32; omega
    apply Exists.intro
    apply Exists.intro
    refine ⟨?_, ?_⟩
    rotate_left 1
    · intro w
      go_enter Tryz.func174, Tryz.ntmps174
      go_wp2
      go_ret2
      exact ⟨rfl, rfl⟩
    · decide

set_option maxHeartbeats 4000000 in
theorem int32s_113 (x y : Int) (hx : 0 ≤ x ∧ x < 4294967296) (hy : 0 ≤ y ∧ y < 4294967296) : ∃ b e : Int, (e = 0 ∨ 38 ≤ e ∧ e ≤ 45) ∧ ∀ (w : World),
    Calls Tryz.prog 174 #[.int .i64 113, .int .u32 x, .int .u32 y] w fun e' w' => e' = .returned (.tuple #[.int .u32 b, .int .i64 e]) ∧ w' = w := by
  apply Exists.intro
  apply Exists.intro
  refine ⟨?_, ?_⟩
  rotate_left 1
  · intro w
    go_enter Tryz.func174, Tryz.ntmps174
    go_wp2
    go_ret2
    exact ⟨rfl, rfl⟩
  · decide

set_option maxHeartbeats 4000000 in
theorem int32s_114 (x y : Int) (hx : 0 ≤ x ∧ x < 4294967296) (hy : 0 ≤ y ∧ y < 4294967296) : ∃ b e : Int, (e = 0 ∨ 38 ≤ e ∧ e ≤ 45) ∧ ∀ (w : World),
    Calls Tryz.prog 174 #[.int .i64 114, .int .u32 x, .int .u32 y] w fun e' w' => e' = .returned (.tuple #[.int .u32 b, .int .i64 e]) ∧ w' = w := by
  apply Exists.intro
  apply Exists.intro
  refine ⟨?_, ?_⟩
  rotate_left 1
  · intro w
    go_enter Tryz.func174, Tryz.ntmps174
    go_wp2
    go_ret2
    exact ⟨rfl, rfl⟩
  · decide

set_option maxHeartbeats 4000000 in
theorem int32s_115 (x y : Int) (hx : 0 ≤ x ∧ x < 4294967296) (hy : 0 ≤ y ∧ y < 4294967296) : ∃ b e : Int, (e = 0 ∨ 38 ≤ e ∧ e ≤ 45) ∧ ∀ (w : World),
    Calls Tryz.prog 174 #[.int .i64 115, .int .u32 x, .int .u32 y] w fun e' w' => e' = .returned (.tuple #[.int .u32 b, .int .i64 e]) ∧ w' = w := by
  apply Exists.intro
  apply Exists.intro
  refine ⟨?_, ?_⟩
  rotate_left 1
  · intro w
    go_enter Tryz.func174, Tryz.ntmps174
    go_wp2
    go_ret2
    exact ⟨rfl, rfl⟩
  · decide

set_option maxHeartbeats 4000000 in
theorem int32s_116 (x y : Int) (hx : 0 ≤ x ∧ x < 4294967296) (hy : 0 ≤ y ∧ y < 4294967296) : ∃ b e : Int, (e = 0 ∨ 38 ≤ e ∧ e ≤ 45) ∧ ∀ (w : World),
    Calls Tryz.prog 174 #[.int .i64 116, .int .u32 x, .int .u32 y] w fun e' w' => e' = .returned (.tuple #[.int .u32 b, .int .i64 e]) ∧ w' = w := by
  apply Exists.intro
  apply Exists.intro
  refine ⟨?_, ?_⟩
  rotate_left 1
  · intro w
    go_enter Tryz.func174, Tryz.ntmps174
    go_wp2
    go_ret2
    exact ⟨rfl, rfl⟩
  · decide

set_option maxHeartbeats 4000000 in
theorem int32s_117 (x y : Int) (hx : 0 ≤ x ∧ x < 4294967296) (hy : 0 ≤ y ∧ y < 4294967296) : ∃ b e : Int, (e = 0 ∨ 38 ≤ e ∧ e ≤ 45) ∧ ∀ (w : World),
    Calls Tryz.prog 174 #[.int .i64 117, .int .u32 x, .int .u32 y] w fun e' w' => e' = .returned (.tuple #[.int .u32 b, .int .i64 e]) ∧ w' = w := by
  apply Exists.intro
  apply Exists.intro
  refine ⟨?_, ?_⟩
  rotate_left 1
  · intro w
    go_enter Tryz.func174, Tryz.ntmps174
    go_wp2
    go_ret2
    exact ⟨rfl, rfl⟩
  · decide

set_option maxHeartbeats 4000000 in
theorem int32s_118 (x y : Int) (hx : 0 ≤ x ∧ x < 4294967296) (hy : 0 ≤ y ∧ y < 4294967296) : ∃ b e : Int, (e = 0 ∨ 38 ≤ e ∧ e ≤ 45) ∧ ∀ (w : World),
    Calls Tryz.prog 174 #[.int .i64 118, .int .u32 x, .int .u32 y] w fun e' w' => e' = .returned (.tuple #[.int .u32 b, .int .i64 e]) ∧ w' = w := by
  apply Exists.intro
  apply Exists.intro
  refine ⟨?_, ?_⟩
  rotate_left 1
  · intro w
    go_enter Tryz.func174, Tryz.ntmps174
    go_wp2
    go_ret2
    exact ⟨rfl, rfl⟩
  · decide

set_option maxHeartbeats 4000000 in
theorem int32s_119 (x y : Int) (hx : 0 ≤ x ∧ x < 4294967296) (hy : 0 ≤ y ∧ y < 4294967296) : ∃ b e : Int, (e = 0 ∨ 38 ≤ e ∧ e ≤ 45) ∧ ∀ (w : World),
    Calls Tryz.prog 174 #[.int .i64 119, .int .u32 x, .int .u32 y] w fun e' w' => e' = .returned (.tuple #[.int .u32 b, .int .i64 e]) ∧ w' = w := by
  apply Exists.intro
  apply Exists.intro
  refine ⟨?_, ?_⟩
  rotate_left 1
  · intro w
    go_enter Tryz.func174, Tryz.ntmps174
    go_wp2
    go_ret2
    exact ⟨rfl, rfl⟩
  · decide

set_option maxHeartbeats 4000000 in
theorem int32s_120 (x y : Int) (hx : 0 ≤ x ∧ x < 4294967296) (hy : 0 ≤ y ∧ y < 4294967296) : ∃ b e : Int, (e = 0 ∨ 38 ≤ e ∧ e ≤ 45) ∧ ∀ (w : World),
    Calls Tryz.prog 174 #[.int .i64 120, .int .u32 x, .int .u32 y] w fun e' w' => e' = .returned (.tuple #[.int .u32 b, .int .i64 e]) ∧ w' = w := by
  apply Exists.intro
  apply Exists.intro
  refine ⟨?_, ?_⟩
  rotate_left 1
  · intro w
    go_enter Tryz.func174, Tryz.ntmps174
    go_wp2
    go_ret2
    exact ⟨rfl, rfl⟩
  · decide

theorem int32s_all (o : Int) (h1 : 103 ≤ o) (h2 : o ≤ 120) (x y : Int) (hx : 0 ≤ x ∧ x < 4294967296) (hy : 0 ≤ y ∧ y < 4294967296) : ∃ b e : Int, (e = 0 ∨ 38 ≤ e ∧ e ≤ 45) ∧ ∀ (w : World),
    Calls Tryz.prog 174 #[.int .i64 o, .int .u32 x, .int .u32 y] w fun e' w' => e' = .returned (.tuple #[.int .u32 b, .int .i64 e]) ∧ w' = w := by
  have h : o = 103 ∨ o = 104 ∨ o = 105 ∨ o = 106 ∨ o = 107 ∨ o = 108 ∨ o = 109 ∨ o = 110 ∨ o = 111 ∨ o = 112 ∨ o = 113 ∨ o = 114 ∨ o = 115 ∨ o = 116 ∨ o = 117 ∨ o = 118 ∨ o = 119 ∨ o = 120 := by omega
  clear h1 h2
  rcases h with rfl | rfl | rfl | rfl | rfl | rfl | rfl | rfl | rfl | rfl | rfl | rfl | rfl | rfl | rfl | rfl | rfl | rfl
  · exact int32s_103 x y hx hy
  · exact int32s_104 x y hx hy
  · exact int32s_105 x y hx hy
  · exact int32s_106 x y hx hy
  · exact int32s_107 x y hx hy
  · exact int32s_108 x y hx hy
  · exact int32s_109 x y hx hy
  · exact int32s_110 x y hx hy
  · exact int32s_111 x y hx hy
  · exact int32s_112 x y hx hy
  · exact int32s_113 x y hx hy
  · exact int32s_114 x y hx hy
  · exact int32s_115 x y hx hy
  · exact int32s_116 x y hx hy
  · exact int32s_117 x y hx hy
  · exact int32s_118 x y hx hy
  · exact int32s_119 x y hx hy
  · exact int32s_120 x y hx hy
theorem int64s_all (o : Int) (h1 : 121 ≤ o) (h2 : o ≤ 138) (x y : Int) (hx : 0 ≤ x ∧ x < 18446744073709551616) (hy : 0 ≤ y ∧ y < 18446744073709551616) : ∃ b e : Int, 0 ≤ b ∧ b < 18446744073709551616 ∧ (e = 0 ∨ 38 ≤ e ∧ e ≤ 45) ∧ ∀ (w : World),
    Calls Tryz.prog 175 #[.int .i64 o, .int .u64 x, .int .u64 y] w fun e' w' => e' = .returned (.tuple #[.int .u64 b, .int .i64 e]) ∧ w' = w := by
  have h : o = 121 ∨ o = 122 ∨ o = 123 ∨ o = 124 ∨ o = 125 ∨ o = 126 ∨ o = 127 ∨ o = 128 ∨ o = 129 ∨ o = 130 ∨ o = 131 ∨ o = 132 ∨ o = 133 ∨ o = 134 ∨ o = 135 ∨ o = 136 ∨ o = 137 ∨ o = 138 := by omega
  clear h1 h2
  rcases h with rfl | rfl | rfl | rfl | rfl | rfl | rfl | rfl | rfl | rfl | rfl | rfl | rfl | rfl | rfl | rfl | rfl | rfl
  · exact int64s_121 x y hx hy
  · exact int64s_122 x y hx hy
  · exact int64s_123 x y hx hy
  · exact int64s_124 x y hx hy
  · exact int64s_125 x y hx hy
  · exact int64s_126 x y hx hy
  · exact int64s_127 x y hx hy
  · exact int64s_128 x y hx hy
  · exact int64s_129 x y hx hy
  · exact int64s_130 x y hx hy
  · exact int64s_131 x y hx hy
  · exact int64s_132 x y hx hy
  · exact int64s_133 x y hx hy
  · exact int64s_134 x y hx hy
  · exact int64s_135 x y hx hy
  · exact int64s_136 x y hx hy
  · exact int64s_137 x y hx hy
  · exact int64s_138 x y hx hy
end Go.Proofs.Qxb6500275aGreatDoor
