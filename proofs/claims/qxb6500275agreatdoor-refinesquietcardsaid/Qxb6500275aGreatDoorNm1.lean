import Derived.Test.Qxb6500275aGreatDoorProg
import Derived.WalkKit
import Derived.WalkSpells
import Derived.WalkLawsBesides
namespace Go.Proofs.Qxb6500275aGreatDoor
open Go Go.RowKit

/- THE NUMBER LAYER: its integer functions are functions of their operands -/
set_option maxHeartbeats 400000 in
theorem flag_any (b : Bool) (w : World) :
    Calls Tryz.prog 167 #[.bool b] w fun e w' => e = .returned (.int .u64 (if b then 1 else 0)) ∧ w' = w := by
  cases b
  all_goals
    go_enter Tryz.func167, Tryz.ntmps167
    go_wp2
    go_ret
    exact ⟨rfl, rfl⟩

set_option maxHeartbeats 4000000 in
theorem rel32_all (o : Int) (h1 : 69 ≤ o) (h2 : o ≤ 79) (x y : Int) : ∃ b, ∀ (w : World),
    Calls Tryz.prog 168 #[.int .i64 o, .int .u32 x, .int .u32 y] w fun e w' => e = .returned (.bool b) ∧ w' = w := by
  have h : o = 69 ∨ o = 70 ∨ o = 71 ∨ o = 72 ∨ o = 73 ∨ o = 74 ∨ o = 75 ∨ o = 76 ∨ o = 77 ∨ o = 78 ∨ o = 79 := by omega
  clear h1 h2
  rcases h with rfl | rfl | rfl | rfl | rfl | rfl | rfl | rfl | rfl | rfl | rfl
  all_goals
    apply Exists.intro
    · intro w
      go_enter Tryz.func168, Tryz.ntmps168
      go_wp2
      go_ret
      exact ⟨rfl, rfl⟩

set_option maxHeartbeats 4000000 in
theorem rel64_all (o : Int) (h1 : 80 ≤ o) (h2 : o ≤ 90) (x y : Int) : ∃ b, ∀ (w : World),
    Calls Tryz.prog 169 #[.int .i64 o, .int .u64 x, .int .u64 y] w fun e w' => e = .returned (.bool b) ∧ w' = w := by
  have h : o = 80 ∨ o = 81 ∨ o = 82 ∨ o = 83 ∨ o = 84 ∨ o = 85 ∨ o = 86 ∨ o = 87 ∨ o = 88 ∨ o = 89 ∨ o = 90 := by omega
  clear h1 h2
  rcases h with rfl | rfl | rfl | rfl | rfl | rfl | rfl | rfl | rfl | rfl | rfl
  all_goals
    apply Exists.intro
    · intro w
      go_enter Tryz.func169, Tryz.ntmps169
      go_wp2
      go_ret
      exact ⟨rfl, rfl⟩

def clz4 (n x : Int) : Int := bif x / 2147483648 == 0 then n + 1 else n
def clz3 (n x : Int) : Int := bif x / 1073741824 == 0 then clz4 (n + 2) (x * 4 % 4294967296) else clz4 n x
def clz2 (n x : Int) : Int := bif x / 268435456 == 0 then clz3 (n + 4) (x * 16 % 4294967296) else clz3 n x
def clz1 (n x : Int) : Int := bif x / 16777216 == 0 then clz2 (n + 8) (x * 256 % 4294967296) else clz2 n x
def clzF (x : Int) : Int := bif x == 0 then 32 else bif x / 65536 == 0 then clz1 16 (x * 65536 % 4294967296) else clz1 0 x
theorem ret_u32 {a b : Int} (h : a = b) : Ending.returned (.int .u32 a) = .returned (.int .u32 b) := by rw [h]
theorem clz4_range (n x : Int) : n ≤ clz4 n x ∧ clz4 n x ≤ n + 1 := by
  unfold clz4; cases x / 2147483648 == 0 <;> simp <;> omega
theorem clz3_range (n x : Int) : n ≤ clz3 n x ∧ clz3 n x ≤ n + 3 := by
  have h1 := clz4_range (n + 2) (x * 4 % 4294967296)
  have h2 := clz4_range n x
  unfold clz3; cases x / 1073741824 == 0 <;> simp only [cond_true, cond_false] <;> omega
theorem clz2_range (n x : Int) : n ≤ clz2 n x ∧ clz2 n x ≤ n + 7 := by
  have h1 := clz3_range (n + 4) (x * 16 % 4294967296)
  have h2 := clz3_range n x
  unfold clz2; cases x / 268435456 == 0 <;> simp only [cond_true, cond_false] <;> omega
theorem clz1_range (n x : Int) : n ≤ clz1 n x ∧ clz1 n x ≤ n + 15 := by
  have h1 := clz2_range (n + 8) (x * 256 % 4294967296)
  have h2 := clz2_range n x
  unfold clz1; cases x / 16777216 == 0 <;> simp only [cond_true, cond_false] <;> omega
theorem clzF_range (x : Int) : 0 ≤ clzF x ∧ clzF x ≤ 32 := by
  have h1 := clz1_range 16 (x * 65536 % 4294967296)
  have h2 := clz1_range 0 x
  unfold clzF; cases x == 0 <;> cases x / 65536 == 0 <;> simp only [cond_true, cond_false] <;> omega
set_option maxHeartbeats 4000000 in
theorem clz32_any (x : Int) (w : World) :
    Calls Tryz.prog 216 #[.int .u32 x] w fun e w' => e = .returned (.int .u32 (clzF x)) ∧ w' = w := by
  go_enter Tryz.func216, Tryz.ntmps216
  go_wp2
  all_goals
    go_ret
    refine ⟨ret_u32 ?_, rfl⟩
    simp only [clzF, clz1, clz2, clz3, clz4, cond_true, cond_false, *]
    try rfl

set_option maxHeartbeats 4000000 in
theorem pop32_all (x : Int) : ∃ b, ∀ (w : World),
    Calls Tryz.prog 217 #[.int .u32 x] w fun e w' => e = .returned (.int .u32 b) ∧ w' = w := by
  apply Exists.intro
  · intro w
    go_enter Tryz.func217, Tryz.ntmps217
    go_wp2
    go_ret
    exact ⟨rfl, rfl⟩

set_option linter.unusedVariables false
set_option maxRecDepth 20000
@[go_sem] theorem bits_u64_nonneg (op : BinOp) (x y : Int) : 0 ≤ bits op .u64 x y := wrap_u64_nonneg _
@[go_sem] theorem bits_u32_nonneg (op : BinOp) (x y : Int) : 0 ≤ bits op .u32 x y := wrap_u32_nonneg _
theorem wrap_u64_lt (n : Int) : IntKind.u64.wrap n < 18446744073709551616 := by simp [IntKind.wrap, IntKind.bits, IntKind.signed]; omega
theorem wrap_u32_lt (n : Int) : IntKind.u32.wrap n < 4294967296 := by simp [IntKind.wrap, IntKind.bits, IntKind.signed]; omega
theorem bits_u64_lt (op : BinOp) (x y : Int) : bits op .u64 x y < 18446744073709551616 := wrap_u64_lt _
theorem bits_u32_lt (op : BinOp) (x y : Int) : bits op .u32 x y < 4294967296 := wrap_u32_lt _
section
variable {x y : Int} (hx : 0 ≤ x ∧ x < 18446744073709551616) (hy : 0 ≤ y ∧ y < 18446744073709551616)
theorem tdiv_lo (hx : 0 ≤ x ∧ x < 18446744073709551616) (hy : 0 ≤ y ∧ y < 18446744073709551616) : 0 ≤ x.tdiv y := Int.tdiv_nonneg hx.1 hy.1
theorem tdiv_hi (hx : 0 ≤ x ∧ x < 18446744073709551616) (_ : 0 ≤ y ∧ y < 18446744073709551616) : x.tdiv y < 18446744073709551616 := by
  rw [Int.tdiv_eq_ediv_of_nonneg hx.1]; exact Int.lt_of_le_of_lt (Int.ediv_le_self _ hx.1) hx.2
theorem tmod_lo (hx : 0 ≤ x ∧ x < 18446744073709551616) (_ : 0 ≤ y ∧ y < 18446744073709551616) : 0 ≤ x.tmod y := Int.tmod_nonneg _ hx.1
theorem tmod_hi (hx : 0 ≤ x ∧ x < 18446744073709551616) (hy : 0 ≤ y ∧ y < 18446744073709551616) : x.tmod y < 18446744073709551616 := by
  by_cases h : y = 0
  · subst h; rw [Int.tmod_zero]; exact hx.2
  · exact Int.lt_trans (Int.tmod_lt_of_pos _ (by omega)) hy.2
end

set_option maxHeartbeats 4000000 in
theorem clz64_all (x : Int) (hx : 0 ≤ x ∧ x < 18446744073709551616) : ∃ b : Int, 0 ≤ b ∧ b < 18446744073709551616 ∧ ∀ (w : World),
    Calls Tryz.prog 218 #[.int .u64 x] w fun e w' => e = .returned (.int .u64 b) ∧ w' = w := by
  by_cases h : x / 4294967296 = 0
  all_goals
    apply Exists.intro
    refine ⟨?_, ?_, ?_⟩
    rotate_left 2
    · intro w
      go_enter Tryz.func218, Tryz.ntmps218
      go_wp2_with (go_at_call 216; refine (clz32_any _ _).mono ?_; rintro e w' ⟨rfl, rfl⟩)
      go_ret
      exact ⟨rfl, rfl⟩
    all_goals first | omega | exact wrap_u64_nonneg _ | exact wrap_u64_lt _ | exact bits_u64_nonneg _ _ _ | exact bits_u64_lt _ _ _ | skip

set_option maxHeartbeats 4000000 in
theorem pop64_all (x : Int) : ∃ b : Int, 0 ≤ b ∧ b < 18446744073709551616 ∧ ∀ (w : World),
    Calls Tryz.prog 219 #[.int .u64 x] w fun e w' => e = .returned (.int .u64 b) ∧ w' = w := by
  apply Exists.intro
  refine ⟨?_, ?_, ?_⟩
  rotate_left 2
  · intro w
    go_enter Tryz.func219, Tryz.ntmps219
    go_wp2
    go_ret
    exact ⟨rfl, rfl⟩
  · exact Int.ediv_nonneg (wrap_u64_nonneg _) (by decide)
  · exact Int.lt_of_le_of_lt (Int.ediv_le_self _ (wrap_u64_nonneg _)) (wrap_u64_lt _)

theorem pop64_fn : ∃ F : Int → Int, ∀ x, 0 ≤ F x ∧ F x < 18446744073709551616 ∧ ∀ (w : World), Calls Tryz.prog 219 #[.int .u64 x] w fun e w' => e = .returned (.int .u64 (F x)) ∧ w' = w :=
  ⟨fun x => Classical.choose (pop64_all x), fun x => Classical.choose_spec (pop64_all x)⟩
theorem pop32_fn : ∃ F : Int → Int, ∀ x, ∀ (w : World), Calls Tryz.prog 217 #[.int .u32 x] w fun e w' => e = .returned (.int .u32 (F x)) ∧ w' = w :=
  ⟨fun x => Classical.choose (pop32_all x), fun x => Classical.choose_spec (pop32_all x)⟩

set_option maxHeartbeats 4000000 in
theorem int64s_121 (x y : Int) (hx : 0 ≤ x ∧ x < 18446744073709551616) (hy : 0 ≤ y ∧ y < 18446744073709551616) : ∃ b e : Int, 0 ≤ b ∧ b < 18446744073709551616 ∧ (e = 0 ∨ 38 ≤ e ∧ e ≤ 45) ∧ ∀ (w : World),
    Calls Tryz.prog 175 #[.int .i64 121, .int .u64 x, .int .u64 y] w fun e' w' => e' = .returned (.tuple #[.int .u64 b, .int .i64 e]) ∧ w' = w := by
  obtain ⟨b, hb0, hb1, hcall⟩ := clz64_all x hx
  apply Exists.intro
  apply Exists.intro
  refine ⟨?_, ?_, ?_, ?_⟩
  rotate_left 3
  · intro w
    go_enter Tryz.func175, Tryz.ntmps175
    go_wp2_with (go_at_call 218; refine (hcall _).mono ?_; rintro e w' ⟨rfl, rfl⟩)
    go_ret2
    exact ⟨rfl, rfl⟩
  · first | omega | exact wrap_u64_nonneg _ | exact wrap_u64_lt _ | exact bits_u64_nonneg _ _ _ | exact bits_u64_lt _ _ _ | skip
  · first | omega | exact wrap_u64_nonneg _ | exact wrap_u64_lt _ | exact bits_u64_nonneg _ _ _ | exact bits_u64_lt _ _ _ | skip
  · decide

set_option maxHeartbeats 4000000 in
theorem int64s_122 (x y : Int) (hx : 0 ≤ x ∧ x < 18446744073709551616) (hy : 0 ≤ y ∧ y < 18446744073709551616) : ∃ b e : Int, 0 ≤ b ∧ b < 18446744073709551616 ∧ (e = 0 ∨ 38 ≤ e ∧ e ≤ 45) ∧ ∀ (w : World),
    Calls Tryz.prog 175 #[.int .i64 122, .int .u64 x, .int .u64 y] w fun e' w' => e' = .returned (.tuple #[.int .u64 b, .int .i64 e]) ∧ w' = w := by
  obtain ⟨F, hF⟩ := pop64_fn
  apply Exists.intro
  apply Exists.intro
  refine ⟨?_, ?_, ?_, ?_⟩
  rotate_left 3
  · intro w
    go_enter Tryz.func175, Tryz.ntmps175
    go_wp2_with (go_at_call 219; refine ((hF _).2.2 _).mono ?_; rintro e w' ⟨rfl, rfl⟩)
    go_ret2
    exact ⟨rfl, rfl⟩
  · first | exact (hF _).1 | exact (hF _).2.1 | exact wrap_u64_nonneg _ | exact wrap_u64_lt _ | exact bits_u64_nonneg _ _ _ | exact bits_u64_lt _ _ _ | skip
  · first | exact (hF _).1 | exact (hF _).2.1 | exact wrap_u64_nonneg _ | exact wrap_u64_lt _ | exact bits_u64_nonneg _ _ _ | exact bits_u64_lt _ _ _ | skip
  · decide

set_option maxHeartbeats 4000000 in
theorem int64s_123 (x y : Int) (hx : 0 ≤ x ∧ x < 18446744073709551616) (hy : 0 ≤ y ∧ y < 18446744073709551616) : ∃ b e : Int, 0 ≤ b ∧ b < 18446744073709551616 ∧ (e = 0 ∨ 38 ≤ e ∧ e ≤ 45) ∧ ∀ (w : World),
    Calls Tryz.prog 175 #[.int .i64 123, .int .u64 x, .int .u64 y] w fun e' w' => e' = .returned (.tuple #[.int .u64 b, .int .i64 e]) ∧ w' = w := by
  obtain ⟨F, hF⟩ := pop64_fn
  apply Exists.intro
  apply Exists.intro
  refine ⟨?_, ?_, ?_, ?_⟩
  rotate_left 3
  · intro w
    go_enter Tryz.func175, Tryz.ntmps175
    go_wp2_with (go_at_call 219; refine ((hF _).2.2 _).mono ?_; rintro e w' ⟨rfl, rfl⟩)
    go_ret2
    exact ⟨rfl, rfl⟩
  · first | exact (hF _).1 | exact (hF _).2.1 | exact wrap_u64_nonneg _ | exact wrap_u64_lt _ | exact bits_u64_nonneg _ _ _ | exact bits_u64_lt _ _ _ | skip
  · first | exact (hF _).1 | exact (hF _).2.1 | exact wrap_u64_nonneg _ | exact wrap_u64_lt _ | exact bits_u64_nonneg _ _ _ | exact bits_u64_lt _ _ _ | skip
  · decide

set_option maxHeartbeats 4000000 in
theorem int64s_124 (x y : Int) (hx : 0 ≤ x ∧ x < 18446744073709551616) (hy : 0 ≤ y ∧ y < 18446744073709551616) : ∃ b e : Int, 0 ≤ b ∧ b < 18446744073709551616 ∧ (e = 0 ∨ 38 ≤ e ∧ e ≤ 45) ∧ ∀ (w : World),
    Calls Tryz.prog 175 #[.int .i64 124, .int .u64 x, .int .u64 y] w fun e' w' => e' = .returned (.tuple #[.int .u64 b, .int .i64 e]) ∧ w' = w := by
  apply Exists.intro
  apply Exists.intro
  refine ⟨?_, ?_, ?_, ?_⟩
  rotate_left 3
  · intro w
    go_enter Tryz.func175, Tryz.ntmps175
    go_wp2
    go_ret2
    exact ⟨rfl, rfl⟩
  · first | omega | exact wrap_u64_nonneg _ | exact wrap_u64_lt _ | exact bits_u64_nonneg _ _ _ | exact bits_u64_lt _ _ _ | skip
  · first | omega | exact wrap_u64_nonneg _ | exact wrap_u64_lt _ | exact bits_u64_nonneg _ _ _ | exact bits_u64_lt _ _ _ | skip
  · decide

set_option maxHeartbeats 4000000 in
theorem int64s_125 (x y : Int) (hx : 0 ≤ x ∧ x < 18446744073709551616) (hy : 0 ≤ y ∧ y < 18446744073709551616) : ∃ b e : Int, 0 ≤ b ∧ b < 18446744073709551616 ∧ (e = 0 ∨ 38 ≤ e ∧ e ≤ 45) ∧ ∀ (w : World),
    Calls Tryz.prog 175 #[.int .i64 125, .int .u64 x, .int .u64 y] w fun e' w' => e' = .returned (.tuple #[.int .u64 b, .int .i64 e]) ∧ w' = w := by
  apply Exists.intro
  apply Exists.intro
  refine ⟨?_, ?_, ?_, ?_⟩
  rotate_left 3
  · intro w
    go_enter Tryz.func175, Tryz.ntmps175
    go_wp2
    go_ret2
    exact ⟨rfl, rfl⟩
  · first | omega | exact wrap_u64_nonneg _ | exact wrap_u64_lt _ | exact bits_u64_nonneg _ _ _ | exact bits_u64_lt _ _ _ | skip
  · first | omega | exact wrap_u64_nonneg _ | exact wrap_u64_lt _ | exact bits_u64_nonneg _ _ _ | exact bits_u64_lt _ _ _ | skip
  · decide

set_option maxHeartbeats 4000000 in
theorem int64s_126 (x y : Int) (hx : 0 ≤ x ∧ x < 18446744073709551616) (hy : 0 ≤ y ∧ y < 18446744073709551616) : ∃ b e : Int, 0 ≤ b ∧ b < 18446744073709551616 ∧ (e = 0 ∨ 38 ≤ e ∧ e ≤ 45) ∧ ∀ (w : World),
    Calls Tryz.prog 175 #[.int .i64 126, .int .u64 x, .int .u64 y] w fun e' w' => e' = .returned (.tuple #[.int .u64 b, .int .i64 e]) ∧ w' = w := by
  apply Exists.intro
  apply Exists.intro
  refine ⟨?_, ?_, ?_, ?_⟩
  rotate_left 3
  · intro w
    go_enter Tryz.func175, Tryz.ntmps175
    go_wp2
    go_ret2
    exact ⟨rfl, rfl⟩
  · first | omega | exact wrap_u64_nonneg _ | exact wrap_u64_lt _ | exact bits_u64_nonneg _ _ _ | exact bits_u64_lt _ _ _ | skip
  · first | omega | exact wrap_u64_nonneg _ | exact wrap_u64_lt _ | exact bits_u64_nonneg _ _ _ | exact bits_u64_lt _ _ _ | skip
  · decide

set_option maxHeartbeats 4000000 in
theorem int64s_127 (x y : Int) (hx : 0 ≤ x ∧ x < 18446744073709551616) (hy : 0 ≤ y ∧ y < 18446744073709551616) : ∃ b e : Int, 0 ≤ b ∧ b < 18446744073709551616 ∧ (e = 0 ∨ 38 ≤ e ∧ e ≤ 45) ∧ ∀ (w : World),
    Calls Tryz.prog 175 #[.int .i64 127, .int .u64 x, .int .u64 y] w fun e' w' => e' = .returned (.tuple #[.int .u64 b, .int .i64 e]) ∧ w' = w := by
  by_cases h0 : y = 0
  · subst h0
    apply Exists.intro
    apply Exists.intro
    refine ⟨?_, ?_, ?_, ?_⟩
    rotate_left 3
    · intro w
      go_enter Tryz.func175, Tryz.ntmps175
      go_wp2
      go_ret2
      exact ⟨rfl, rfl⟩
    · first | omega | exact wrap_u64_nonneg _ | exact wrap_u64_lt _ | exact bits_u64_nonneg _ _ _ | exact bits_u64_lt _ _ _ | skip
    · first | omega | exact wrap_u64_nonneg _ | exact wrap_u64_lt _ | exact bits_u64_nonneg _ _ _ | exact bits_u64_lt _ _ _ | skip
    · decide
  · have hz : ¬ wrap64 y = 0 := by unfold wrap64; omega
    by_cases h1 : x = 9223372036854775808
    · subst h1
      by_cases h2 : y = 18446744073709551615
      · subst h2
        apply Exists.intro
        apply Exists.intro
        refine ⟨?_, ?_, ?_, ?_⟩
        rotate_left 3
        · intro w
          go_enter Tryz.func175, Tryz.ntmps175
          go_wp2
          go_ret2
          exact ⟨rfl, rfl⟩
        · first | omega | exact wrap_u64_nonneg _ | exact wrap_u64_lt _ | exact bits_u64_nonneg _ _ _ | exact bits_u64_lt _ _ _ | skip
        · first | omega | exact wrap_u64_nonneg _ | exact wrap_u64_lt _ | exact bits_u64_nonneg _ _ _ | exact bits_u64_lt _ _ _ | skip
        · decide
      · apply Exists.intro
        apply Exists.intro
        refine ⟨?_, ?_, ?_, ?_⟩
        rotate_left 3
        · intro w
          go_enter Tryz.func175, Tryz.ntmps175
          go_wp2
          go_ret2
          exact ⟨rfl, rfl⟩
        · first | omega | exact wrap_u64_nonneg _ | exact wrap_u64_lt _ | exact bits_u64_nonneg _ _ _ | exact bits_u64_lt _ _ _ | skip
        · first | omega | exact wrap_u64_nonneg _ | exact wrap_u64_lt _ | exact bits_u64_nonneg _ _ _ | exact bits_u64_lt _ _ _ | skip
        · decide
    · apply Exists.intro
      apply Exists.intro
      refine ⟨?_, ?_, ?_, ?_⟩
      rotate_left 3
      · intro w
        go_enter Tryz.func175, Tryz.ntmps175
        go_wp2
        go_ret2
        exact ⟨rfl, rfl⟩
      · first | omega | exact wrap_u64_nonneg _ | exact wrap_u64_lt _ | exact bits_u64_nonneg _ _ _ | exact bits_u64_lt _ _ _ | skip
      · first | omega | exact wrap_u64_nonneg _ | exact wrap_u64_lt _ | exact bits_u64_nonneg _ _ _ | exact bits_u64_lt _ _ _ | skip
      · decide

set_option maxHeartbeats 4000000 in
theorem int64s_128 (x y : Int) (hx : 0 ≤ x ∧ x < 18446744073709551616) (hy : 0 ≤ y ∧ y < 18446744073709551616) : ∃ b e : Int, 0 ≤ b ∧ b < 18446744073709551616 ∧ (e = 0 ∨ 38 ≤ e ∧ e ≤ 45) ∧ ∀ (w : World),
    Calls Tryz.prog 175 #[.int .i64 128, .int .u64 x, .int .u64 y] w fun e' w' => e' = .returned (.tuple #[.int .u64 b, .int .i64 e]) ∧ w' = w := by
  by_cases h0 : y = 0
  · subst h0
    apply Exists.intro
    apply Exists.intro
    refine ⟨?_, ?_, ?_, ?_⟩
    rotate_left 3
    · intro w
      go_enter Tryz.func175, Tryz.ntmps175
      go_wp2
      go_ret2
      exact ⟨rfl, rfl⟩
    · first | omega | exact wrap_u64_nonneg _ | exact wrap_u64_lt _ | exact bits_u64_nonneg _ _ _ | exact bits_u64_lt _ _ _ | skip
    · first | omega | exact wrap_u64_nonneg _ | exact wrap_u64_lt _ | exact bits_u64_nonneg _ _ _ | exact bits_u64_lt _ _ _ | skip
    · decide
  · have hz : ¬ wrap64 y = 0 := by unfold wrap64; omega
    apply Exists.intro
    apply Exists.intro
    refine ⟨?_, ?_, ?_, ?_⟩
    rotate_left 3
    · intro w
      go_enter Tryz.func175, Tryz.ntmps175
      go_wp2
      go_ret2
      exact ⟨rfl, rfl⟩
    · first | exact Int.ediv_nonneg hx.1 hy.1 | exact Int.lt_of_le_of_lt (Int.ediv_le_self _ hx.1) hx.2
    · first | exact Int.ediv_nonneg hx.1 hy.1 | exact Int.lt_of_le_of_lt (Int.ediv_le_self _ hx.1) hx.2
    · decide

set_option maxHeartbeats 4000000 in
theorem int64s_129 (x y : Int) (hx : 0 ≤ x ∧ x < 18446744073709551616) (hy : 0 ≤ y ∧ y < 18446744073709551616) : ∃ b e : Int, 0 ≤ b ∧ b < 18446744073709551616 ∧ (e = 0 ∨ 38 ≤ e ∧ e ≤ 45) ∧ ∀ (w : World),
    Calls Tryz.prog 175 #[.int .i64 129, .int .u64 x, .int .u64 y] w fun e' w' => e' = .returned (.tuple #[.int .u64 b, .int .i64 e]) ∧ w' = w := by
  by_cases h0 : y = 0
  · subst h0
    apply Exists.intro
    apply Exists.intro
    refine ⟨?_, ?_, ?_, ?_⟩
    rotate_left 3
    · intro w
      go_enter Tryz.func175, Tryz.ntmps175
      go_wp2
      go_ret2
      exact ⟨rfl, rfl⟩
    · first | omega | exact wrap_u64_nonneg _ | exact wrap_u64_lt _ | exact bits_u64_nonneg _ _ _ | exact bits_u64_lt _ _ _ | skip
    · first | omega | exact wrap_u64_nonneg _ | exact wrap_u64_lt _ | exact bits_u64_nonneg _ _ _ | exact bits_u64_lt _ _ _ | skip
    · decide
  · have hz : ¬ wrap64 y = 0 := by unfold wrap64; omega
    apply Exists.intro
    apply Exists.intro
    refine ⟨?_, ?_, ?_, ?_⟩
    rotate_left 3
    · intro w
      go_enter Tryz.func175, Tryz.ntmps175
      go_wp2
      go_ret2
      exact ⟨rfl, rfl⟩
    · first | omega | exact wrap_u64_nonneg _ | exact wrap_u64_lt _ | exact bits_u64_nonneg _ _ _ | exact bits_u64_lt _ _ _ | skip
    · first | omega | exact wrap_u64_nonneg _ | exact wrap_u64_lt _ | exact bits_u64_nonneg _ _ _ | exact bits_u64_lt _ _ _ | skip
    · decide

set_option maxHeartbeats 4000000 in
theorem int64s_130 (x y : Int) (hx : 0 ≤ x ∧ x < 18446744073709551616) (hy : 0 ≤ y ∧ y < 18446744073709551616) : ∃ b e : Int, 0 ≤ b ∧ b < 18446744073709551616 ∧ (e = 0 ∨ 38 ≤ e ∧ e ≤ 45) ∧ ∀ (w : World),
    Calls Tryz.prog 175 #[.int .i64 130, .int .u64 x, .int .u64 y] w fun e' w' => e' = .returned (.tuple #[.int .u64 b, .int .i64 e]) ∧ w' = w := by
  by_cases h0 : y = 0
  · subst h0
    apply Exists.intro
    apply Exists.intro
    refine ⟨?_, ?_, ?_, ?_⟩
    rotate_left 3
    · intro w
      go_enter Tryz.func175, Tryz.ntmps175
      go_wp2
      go_ret2
      exact ⟨rfl, rfl⟩
    · first | omega | exact wrap_u64_nonneg _ | exact wrap_u64_lt _ | exact bits_u64_nonneg _ _ _ | exact bits_u64_lt _ _ _ | skip
    · first | omega | exact wrap_u64_nonneg _ | exact wrap_u64_lt _ | exact bits_u64_nonneg _ _ _ | exact bits_u64_lt _ _ _ | skip
    · decide
  · have hz : ¬ wrap64 y = 0 := by unfold wrap64; omega
    apply Exists.intro
    apply Exists.intro
    refine ⟨?_, ?_, ?_, ?_⟩
    rotate_left 3
    · intro w
      go_enter Tryz.func175, Tryz.ntmps175
      go_wp2
      go_ret2
      exact ⟨rfl, rfl⟩
    · first | exact Int.emod_nonneg _ h0 | exact Int.lt_trans (Int.emod_lt_of_pos _ (by omega)) hy.2
    · first | exact Int.emod_nonneg _ h0 | exact Int.lt_trans (Int.emod_lt_of_pos _ (by omega)) hy.2
    · decide

set_option maxHeartbeats 4000000 in
theorem int64s_131 (x y : Int) (hx : 0 ≤ x ∧ x < 18446744073709551616) (hy : 0 ≤ y ∧ y < 18446744073709551616) : ∃ b e : Int, 0 ≤ b ∧ b < 18446744073709551616 ∧ (e = 0 ∨ 38 ≤ e ∧ e ≤ 45) ∧ ∀ (w : World),
    Calls Tryz.prog 175 #[.int .i64 131, .int .u64 x, .int .u64 y] w fun e' w' => e' = .returned (.tuple #[.int .u64 b, .int .i64 e]) ∧ w' = w := by
  apply Exists.intro
  apply Exists.intro
  refine ⟨?_, ?_, ?_, ?_⟩
  rotate_left 3
  · intro w
    go_enter Tryz.func175, Tryz.ntmps175
    go_wp2
    go_ret2
    exact ⟨rfl, rfl⟩
  · exact bits_u64_nonneg _ _ _
  · exact bits_u64_lt _ _ _
  · decide

set_option maxHeartbeats 4000000 in
theorem int64s_132 (x y : Int) (hx : 0 ≤ x ∧ x < 18446744073709551616) (hy : 0 ≤ y ∧ y < 18446744073709551616) : ∃ b e : Int, 0 ≤ b ∧ b < 18446744073709551616 ∧ (e = 0 ∨ 38 ≤ e ∧ e ≤ 45) ∧ ∀ (w : World),
    Calls Tryz.prog 175 #[.int .i64 132, .int .u64 x, .int .u64 y] w fun e' w' => e' = .returned (.tuple #[.int .u64 b, .int .i64 e]) ∧ w' = w := by
  apply Exists.intro
  apply Exists.intro
  refine ⟨?_, ?_, ?_, ?_⟩
  rotate_left 3
  · intro w
    go_enter Tryz.func175, Tryz.ntmps175
    go_wp2
    go_ret2
    exact ⟨rfl, rfl⟩
  · exact bits_u64_nonneg _ _ _
  · exact bits_u64_lt _ _ _
  · decide

set_option maxHeartbeats 4000000 in
theorem int64s_133 (x y : Int) (hx : 0 ≤ x ∧ x < 18446744073709551616) (hy : 0 ≤ y ∧ y < 18446744073709551616) : ∃ b e : Int, 0 ≤ b ∧ b < 18446744073709551616 ∧ (e = 0 ∨ 38 ≤ e ∧ e ≤ 45) ∧ ∀ (w : World),
    Calls Tryz.prog 175 #[.int .i64 133, .int .u64 x, .int .u64 y] w fun e' w' => e' = .returned (.tuple #[.int .u64 b, .int .i64 e]) ∧ w' = w := by
  apply Exists.intro
  apply Exists.intro
  refine ⟨?_, ?_, ?_, ?_⟩
  rotate_left 3
  · intro w
    go_enter Tryz.func175, Tryz.ntmps175
    go_wp2
    go_ret2
    exact ⟨rfl, rfl⟩
  · exact bits_u64_nonneg _ _ _
  · exact bits_u64_lt _ _ _
  · decide

set_option maxHeartbeats 4000000 in
theorem int64s_134 (x y : Int) (hx : 0 ≤ x ∧ x < 18446744073709551616) (hy : 0 ≤ y ∧ y < 18446744073709551616) : ∃ b e : Int, 0 ≤ b ∧ b < 18446744073709551616 ∧ (e = 0 ∨ 38 ≤ e ∧ e ≤ 45) ∧ ∀ (w : World),
    Calls Tryz.prog 175 #[.int .i64 134, .int .u64 x, .int .u64 y] w fun e' w' => e' = .returned (.tuple #[.int .u64 b, .int .i64 e]) ∧ w' = w := by
  apply Exists.intro
  apply Exists.intro
  refine ⟨?_, ?_, ?_, ?_⟩
  rotate_left 3
  · intro w
    go_enter Tryz.func175, Tryz.ntmps175
    go_wp2
    go_ret2
    exact ⟨rfl, rfl⟩
  · first | omega | exact wrap_u64_nonneg _ | exact wrap_u64_lt _ | exact bits_u64_nonneg _ _ _ | exact bits_u64_lt _ _ _ | skip
  · first | omega | exact wrap_u64_nonneg _ | exact wrap_u64_lt _ | exact bits_u64_nonneg _ _ _ | exact bits_u64_lt _ _ _ | skip
  · decide

set_option maxHeartbeats 4000000 in
theorem int64s_135 (x y : Int) (hx : 0 ≤ x ∧ x < 18446744073709551616) (hy : 0 ≤ y ∧ y < 18446744073709551616) : ∃ b e : Int, 0 ≤ b ∧ b < 18446744073709551616 ∧ (e = 0 ∨ 38 ≤ e ∧ e ≤ 45) ∧ ∀ (w : World),
    Calls Tryz.prog 175 #[.int .i64 135, .int .u64 x, .int .u64 y] w fun e' w' => e' = .returned (.tuple #[.int .u64 b, .int .i64 e]) ∧ w' = w := by
  apply Exists.intro
  apply Exists.intro
  refine ⟨?_, ?_, ?_, ?_⟩
  rotate_left 3
  · intro w
    go_enter Tryz.func175, Tryz.ntmps175
    go_wp2
    go_ret2
    exact ⟨rfl, rfl⟩
  · first | omega | exact wrap_u64_nonneg _ | exact wrap_u64_lt _ | exact bits_u64_nonneg _ _ _ | exact bits_u64_lt _ _ _ | skip
  · first | omega | exact wrap_u64_nonneg _ | exact wrap_u64_lt _ | exact bits_u64_nonneg _ _ _ | exact bits_u64_lt _ _ _ | skip
  · decide

set_option maxHeartbeats 4000000 in
theorem int64s_136 (x y : Int) (hx : 0 ≤ x ∧ x < 18446744073709551616) (hy : 0 ≤ y ∧ y < 18446744073709551616) : ∃ b e : Int, 0 ≤ b ∧ b < 18446744073709551616 ∧ (e = 0 ∨ 38 ≤ e ∧ e ≤ 45) ∧ ∀ (w : World),
    Calls Tryz.prog 175 #[.int .i64 136, .int .u64 x, .int .u64 y] w fun e' w' => e' = .returned (.tuple #[.int .u64 b, .int .i64 e]) ∧ w' = w := by
  apply Exists.intro
  apply Exists.intro
  refine ⟨?_, ?_, ?_, ?_⟩
  rotate_left 3
  · intro w
    go_enter Tryz.func175, Tryz.ntmps175
    go_wp2
    go_ret2
    exact ⟨rfl, rfl⟩
  · first | exact Int.ediv_nonneg hx.1 (Int.le_of_lt (Int.pow_pos (by decide))) | exact Int.lt_of_le_of_lt (Int.ediv_le_self _ hx.1) hx.2
  · first | exact Int.ediv_nonneg hx.1 (Int.le_of_lt (Int.pow_pos (by decide))) | exact Int.lt_of_le_of_lt (Int.ediv_le_self _ hx.1) hx.2
  · decide

set_option maxHeartbeats 4000000 in
theorem int64s_137 (x y : Int) (hx : 0 ≤ x ∧ x < 18446744073709551616) (hy : 0 ≤ y ∧ y < 18446744073709551616) : ∃ b e : Int, 0 ≤ b ∧ b < 18446744073709551616 ∧ (e = 0 ∨ 38 ≤ e ∧ e ≤ 45) ∧ ∀ (w : World),
    Calls Tryz.prog 175 #[.int .i64 137, .int .u64 x, .int .u64 y] w fun e' w' => e' = .returned (.tuple #[.int .u64 b, .int .i64 e]) ∧ w' = w := by
  apply Exists.intro
  apply Exists.intro
  refine ⟨?_, ?_, ?_, ?_⟩
  rotate_left 3
  · intro w
    go_enter Tryz.func175, Tryz.ntmps175
    go_wp2
    go_ret2
    exact ⟨rfl, rfl⟩
  · exact bits_u64_nonneg _ _ _
  · exact bits_u64_lt _ _ _
  · decide

set_option maxHeartbeats 4000000 in
theorem int64s_138 (x y : Int) (hx : 0 ≤ x ∧ x < 18446744073709551616) (hy : 0 ≤ y ∧ y < 18446744073709551616) : ∃ b e : Int, 0 ≤ b ∧ b < 18446744073709551616 ∧ (e = 0 ∨ 38 ≤ e ∧ e ≤ 45) ∧ ∀ (w : World),
    Calls Tryz.prog 175 #[.int .i64 138, .int .u64 x, .int .u64 y] w fun e' w' => e' = .returned (.tuple #[.int .u64 b, .int .i64 e]) ∧ w' = w := by
  apply Exists.intro
  apply Exists.intro
  refine ⟨?_, ?_, ?_, ?_⟩
  rotate_left 3
  · intro w
    go_enter Tryz.func175, Tryz.ntmps175
    go_wp2
    go_ret2
    exact ⟨rfl, rfl⟩
  · exact bits_u64_nonneg _ _ _
  · exact bits_u64_lt _ _ _
  · decide

end Go.Proofs.Qxb6500275aGreatDoor
