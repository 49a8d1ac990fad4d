import Derived.Test.Qxb6500274aGreatNum7
set_option linter.unusedVariables false
set_option linter.unusedSimpArgs false
set_option maxRecDepth 20000
namespace Go.Proofs.Qxb6500274aGreat
open Go Go.RowKit Go.Sx

set_option maxHeartbeats 1000000 in
theorem i32_107 (x y : Int) (w : World) : Calls Tryz.prog 139 #[.int .i64 107, .int .u32 (x % 4294967296), .int .u32 (y % 4294967296)] w fun e' w' => e' = .returned (.tuple #[.int .u32 (IntKind.u32.wrap (x % 4294967296 - y % 4294967296)), .int .i64 0]) ∧ w' = w := by
  go_enter Tryz.func139, Tryz.ntmps139
  go_wp2
  go_ret2
  refine ⟨?_, rfl⟩
  try simp only [wrap_u32]
  rfl
set_option maxHeartbeats 1000000 in
theorem ap_107 (x y : Int) (w : World) : Calls Tryz.prog 79 #[.int .i64 107, .int .u64 x, .int .u64 y] w fun e' w' => e' = .returned (.tuple #[.int .u64 (IntKind.u64.wrap (IntKind.u32.wrap (x % 4294967296 - y % 4294967296))), .int .i64 0]) ∧ w' = w := by
  have hc := i32_107 x y
  generalize IntKind.u32.wrap (x % 4294967296 - y % 4294967296) = r at hc ⊢
  go_enter Tryz.func79, Tryz.ntmps79
  go_wp2_with (go_at_call 139; refine (hc _).mono ?_; rintro e w' ⟨rfl, rfl⟩)
  go_ret2
  exact ⟨rfl, rfl⟩

set_option maxHeartbeats 1000000 in
theorem i32_114 (x y : Int) (w : World) : Calls Tryz.prog 139 #[.int .i64 114, .int .u32 (x % 4294967296), .int .u32 (y % 4294967296)] w fun e' w' => e' = .returned (.tuple #[.int .u32 (bits .or .u32 (x % 4294967296) (y % 4294967296)), .int .i64 0]) ∧ w' = w := by
  go_enter Tryz.func139, Tryz.ntmps139
  go_wp2
  go_ret2
  refine ⟨?_, rfl⟩
  try simp only [wrap_u32]
  rfl
set_option maxHeartbeats 1000000 in
theorem ap_114 (x y : Int) (w : World) : Calls Tryz.prog 79 #[.int .i64 114, .int .u64 x, .int .u64 y] w fun e' w' => e' = .returned (.tuple #[.int .u64 (IntKind.u64.wrap (bits .or .u32 (x % 4294967296) (y % 4294967296))), .int .i64 0]) ∧ w' = w := by
  have hc := i32_114 x y
  generalize bits .or .u32 (x % 4294967296) (y % 4294967296) = r at hc ⊢
  go_enter Tryz.func79, Tryz.ntmps79
  go_wp2_with (go_at_call 139; refine (hc _).mono ?_; rintro e w' ⟨rfl, rfl⟩)
  go_ret2
  exact ⟨rfl, rfl⟩

set_option maxHeartbeats 1000000 in
theorem i32_106 (x y : Int) (w : World) : Calls Tryz.prog 139 #[.int .i64 106, .int .u32 (x % 4294967296), .int .u32 (y % 4294967296)] w fun e' w' => e' = .returned (.tuple #[.int .u32 (IntKind.u32.wrap (x % 4294967296 + y % 4294967296)), .int .i64 0]) ∧ w' = w := by
  go_enter Tryz.func139, Tryz.ntmps139
  go_wp2
  go_ret2
  refine ⟨?_, rfl⟩
  try simp only [wrap_u32]
  rfl
set_option maxHeartbeats 1000000 in
theorem ap_106 (x y : Int) (w : World) : Calls Tryz.prog 79 #[.int .i64 106, .int .u64 x, .int .u64 y] w fun e' w' => e' = .returned (.tuple #[.int .u64 (IntKind.u64.wrap (IntKind.u32.wrap (x % 4294967296 + y % 4294967296))), .int .i64 0]) ∧ w' = w := by
  have hc := i32_106 x y
  generalize IntKind.u32.wrap (x % 4294967296 + y % 4294967296) = r at hc ⊢
  go_enter Tryz.func79, Tryz.ntmps79
  go_wp2_with (go_at_call 139; refine (hc _).mono ?_; rintro e w' ⟨rfl, rfl⟩)
  go_ret2
  exact ⟨rfl, rfl⟩

set_option maxHeartbeats 1000000 in
theorem i32_116 (x : Int) (w : World) : Calls Tryz.prog 139 #[.int .i64 116, .int .u32 (x % 4294967296), .int .u32 8] w fun e' w' => e' = .returned (.tuple #[.int .u32 (IntKind.u32.wrap (x % 4294967296 * 256)), .int .i64 0]) ∧ w' = w := by
  go_enter Tryz.func139, Tryz.ntmps139
  go_wp2
  go_ret2
  refine ⟨?_, rfl⟩
  try simp only [wrap_u32]
  rfl
set_option maxHeartbeats 1000000 in
theorem ap_116 (x : Int) (w : World) : Calls Tryz.prog 79 #[.int .i64 116, .int .u64 x, .int .u64 8] w fun e' w' => e' = .returned (.tuple #[.int .u64 (IntKind.u64.wrap (IntKind.u32.wrap (x % 4294967296 * 256))), .int .i64 0]) ∧ w' = w := by
  have hc := i32_116 x
  generalize IntKind.u32.wrap (x % 4294967296 * 256) = r at hc ⊢
  go_enter Tryz.func79, Tryz.ntmps79
  go_wp2_with (go_at_call 139; refine (hc _).mono ?_; rintro e w' ⟨rfl, rfl⟩)
  go_ret2
  exact ⟨rfl, rfl⟩
set_option maxHeartbeats 1000000 in
theorem r32_69 (x y : Int) (b : Bool) (hb : (x % 4294967296 == 0) = b) (w : World) : Calls Tryz.prog 133 #[.int .i64 69, .int .u32 (x % 4294967296), .int .u32 (y % 4294967296)] w fun e' w' => e' = .returned (.bool b) ∧ w' = w := by
  go_enter Tryz.func133, Tryz.ntmps133
  go_wp2
  go_ret
  refine ⟨?_, rfl⟩
  rw [← hb]
  rfl
set_option maxHeartbeats 1000000 in
theorem ap_69 (x y : Int) (w : World) : Calls Tryz.prog 79 #[.int .i64 69, .int .u64 x, .int .u64 y] w fun e' w' => e' = .returned (.tuple #[.int .u64 (if x % 4294967296 == 0 then 1 else 0), .int .i64 0]) ∧ w' = w := by
  cases hb : x % 4294967296 == 0
  · have hc := r32_69 x y _ hb
    simp only [Bool.false_eq_true, if_false, if_true]
    go_enter Tryz.func79, Tryz.ntmps79
    go_wp2_with (first | (go_at_call 133; refine (hc _).mono ?_; rintro e w' ⟨rfl, rfl⟩) | (go_at_call 132; refine (flag_no _).mono ?_; rintro e w' ⟨rfl, rfl⟩))
    go_ret2
    exact ⟨rfl, rfl⟩
  · have hc := r32_69 x y _ hb
    simp only [Bool.false_eq_true, if_false, if_true]
    go_enter Tryz.func79, Tryz.ntmps79
    go_wp2_with (first | (go_at_call 133; refine (hc _).mono ?_; rintro e w' ⟨rfl, rfl⟩) | (go_at_call 132; refine (flag_yes _).mono ?_; rintro e w' ⟨rfl, rfl⟩))
    go_ret2
    exact ⟨rfl, rfl⟩

/- num.Apply IS A FUNCTION of its operands; what it answers at 69 (eqz) and 106 (add) is said -/
theorem apply_fn (o x y : Int) (hx : 0 ≤ x ∧ x < 18446744073709551616) (hy : 0 ≤ y ∧ y < 18446744073709551616) : ∃ b e : Int, (0 ≤ b ∧ b < 18446744073709551616) ∧ (0 ≤ e ∧ e ≤ 100) ∧
    (o = 69 → b = (if x % 4294967296 == 0 then 1 else 0) ∧ e = 0) ∧ (o = 106 → b = IntKind.u64.wrap (IntKind.u32.wrap (x % 4294967296 + y % 4294967296)) ∧ e = 0) ∧
    ∀ w, Calls Tryz.prog 79 #[.int .i64 o, .int .u64 x, .int .u64 y] w fun e' w' => e' = .returned (.tuple #[.int .u64 b, .int .i64 e]) ∧ sameWorld w w' := by
  by_cases h1 : o = 69
  · subst h1
    refine ⟨_, 0, ?_, by decide, fun _ => ⟨rfl, rfl⟩, fun h => by omega, fun w => (ap_69 x y w).mono ?_⟩
    · split <;> decide
    · rintro e w' ⟨rfl, rfl⟩; exact ⟨rfl, sw_refl _⟩
  by_cases h2 : o = 106
  · subst h2
    refine ⟨_, 0, ⟨wrap_u64_nonneg _, wrap_u64_lt _⟩, by decide, fun h => by omega, fun _ => ⟨rfl, rfl⟩, fun w => (ap_106 x y w).mono ?_⟩
    rintro e w' ⟨rfl, rfl⟩; exact ⟨rfl, sw_refl _⟩
  obtain ⟨b, e, hb, he, h⟩ := apply_all o x y hx hy
  exact ⟨b, e, hb, he, fun h => absurd h h1, fun h => absurd h h2, h⟩

end Go.Proofs.Qxb6500274aGreat
