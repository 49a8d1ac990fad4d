import Derived.Test.Qxb6500275aGreatDoorNm6
set_option linter.unusedVariables false
set_option linter.unusedSimpArgs false
set_option maxRecDepth 20000
namespace Go.Proofs.Qxb6500275aGreatDoor
open Go Go.RowKit

theorem relF32_all (o : Int) (h1 : 91 ≤ o) (h2 : o ≤ 96) (x y : Nat)  : ∃ b, ∀ w, Calls Tryz.prog 170 #[.int .i64 o, .float .f32 x, .float .f32 y] w fun e w' => e = .returned (.bool b) ∧ w' = w := by
  have h : o = 91 ∨ o = 92 ∨ o = 93 ∨ o = 94 ∨ o = 95 ∨ o = 96 := by omega
  clear h1 h2
  rcases h with rfl | rfl | rfl | rfl | rfl | rfl
  · exact relF_91 x y
  · exact relF_92 x y
  · exact relF_93 x y
  · exact relF_94 x y
  · exact relF_95 x y
  · exact relF_96 x y

theorem relF64_all (o : Int) (h1 : 97 ≤ o) (h2 : o ≤ 102) (x y : Nat)  : ∃ b, ∀ w, Calls Tryz.prog 172 #[.int .i64 o, .float .f64 x, .float .f64 y] w fun e w' => e = .returned (.bool b) ∧ w' = w := by
  have h : o = 97 ∨ o = 98 ∨ o = 99 ∨ o = 100 ∨ o = 101 ∨ o = 102 := by omega
  clear h1 h2
  rcases h with rfl | rfl | rfl | rfl | rfl | rfl
  · exact relF_97 x y
  · exact relF_98 x y
  · exact relF_99 x y
  · exact relF_100 x y
  · exact relF_101 x y
  · exact relF_102 x y

theorem float32s_all (o : Int) (h1 : 139 ≤ o) (h2 : o ≤ 152) (a b : Int) (ha : 0 ≤ a ∧ a < 4294967296) (hb : 0 ≤ b ∧ b < 4294967296) : ∃ c : Int, 0 ≤ c ∧ c < 4294967296 ∧ ∀ w, Calls Tryz.prog 176 #[.int .i64 o, .int .u32 a, .int .u32 b] w fun e w' => e = .returned (.int .u32 c) ∧ sameWorld w w' := by
  have h : o = 139 ∨ o = 140 ∨ o = 141 ∨ o = 142 ∨ o = 143 ∨ o = 144 ∨ o = 145 ∨ o = 146 ∨ o = 147 ∨ o = 148 ∨ o = 149 ∨ o = 150 ∨ o = 151 ∨ o = 152 := by omega
  clear h1 h2
  rcases h with rfl | rfl | rfl | rfl | rfl | rfl | rfl | rfl | rfl | rfl | rfl | rfl | rfl | rfl
  · exact floatf32_139 a b ha hb
  · exact floatf32_140 a b ha hb
  · exact floatf32_141 a b ha hb
  · exact floatf32_142 a b ha hb
  · exact floatf32_143 a b ha hb
  · exact floatf32_144 a b ha hb
  · exact floatf32_145 a b ha hb
  · exact floatf32_146 a b ha hb
  · exact floatf32_147 a b ha hb
  · exact floatf32_148 a b ha hb
  · exact floatf32_149 a b ha hb
  · exact floatf32_150 a b ha hb
  · exact floatf32_151 a b ha hb
  · exact floatf32_152 a b ha hb

theorem float64s_all (o : Int) (h1 : 153 ≤ o) (h2 : o ≤ 166) (a b : Int) (ha : 0 ≤ a ∧ a < 18446744073709551616) (hb : 0 ≤ b ∧ b < 18446744073709551616) : ∃ c : Int, 0 ≤ c ∧ c < 18446744073709551616 ∧ ∀ w, Calls Tryz.prog 177 #[.int .i64 o, .int .u64 a, .int .u64 b] w fun e w' => e = .returned (.int .u64 c) ∧ sameWorld w w' := by
  have h : o = 153 ∨ o = 154 ∨ o = 155 ∨ o = 156 ∨ o = 157 ∨ o = 158 ∨ o = 159 ∨ o = 160 ∨ o = 161 ∨ o = 162 ∨ o = 163 ∨ o = 164 ∨ o = 165 ∨ o = 166 := by omega
  clear h1 h2
  rcases h with rfl | rfl | rfl | rfl | rfl | rfl | rfl | rfl | rfl | rfl | rfl | rfl | rfl | rfl
  · exact floatf64_153 a b ha hb
  · exact floatf64_154 a b ha hb
  · exact floatf64_155 a b ha hb
  · exact floatf64_156 a b ha hb
  · exact floatf64_157 a b ha hb
  · exact floatf64_158 a b ha hb
  · exact floatf64_159 a b ha hb
  · exact floatf64_160 a b ha hb
  · exact floatf64_161 a b ha hb
  · exact floatf64_162 a b ha hb
  · exact floatf64_163 a b ha hb
  · exact floatf64_164 a b ha hb
  · exact floatf64_165 a b ha hb
  · exact floatf64_166 a b ha hb

theorem conv_all (o : Int) (h1 : 167 ≤ o) (h2 : o ≤ 191) (a : Int) (ha : 0 ≤ a ∧ a < 18446744073709551616) : ∃ b e : Int, 0 ≤ b ∧ b < 18446744073709551616 ∧ (e = 0 ∨ 38 ≤ e ∧ e ≤ 45) ∧ ∀ w, Calls Tryz.prog 178 #[.int .i64 o, .int .u64 a] w fun e' w' => e' = .returned (.tuple #[.int .u64 b, .int .i64 e]) ∧ sameWorld w w' := by
  have h : o = 167 ∨ o = 168 ∨ o = 169 ∨ o = 170 ∨ o = 171 ∨ o = 172 ∨ o = 173 ∨ o = 174 ∨ o = 175 ∨ o = 176 ∨ o = 177 ∨ o = 178 ∨ o = 179 ∨ o = 180 ∨ o = 181 ∨ o = 182 ∨ o = 183 ∨ o = 184 ∨ o = 185 ∨ o = 186 ∨ o = 187 ∨ o = 188 ∨ o = 189 ∨ o = 190 ∨ o = 191 := by omega
  clear h1 h2
  rcases h with rfl | rfl | rfl | rfl | rfl | rfl | rfl | rfl | rfl | rfl | rfl | rfl | rfl | rfl | rfl | rfl | rfl | rfl | rfl | rfl | rfl | rfl | rfl | rfl | rfl
  · exact conv_167 a ha
  · exact conv_168 a ha
  · exact conv_169 a ha
  · exact conv_170 a ha
  · exact conv_171 a ha
  · exact conv_172 a ha
  · exact conv_173 a ha
  · exact conv_174 a ha
  · exact conv_175 a ha
  · exact conv_176 a ha
  · exact conv_177 a ha
  · exact conv_178 a ha
  · exact conv_179 a ha
  · exact conv_180 a ha
  · exact conv_181 a ha
  · exact conv_182 a ha
  · exact conv_183 a ha
  · exact conv_184 a ha
  · exact conv_185 a ha
  · exact conv_186 a ha
  · exact conv_187 a ha
  · exact conv_188 a ha
  · exact conv_189 a ha
  · exact conv_190 a ha
  · exact conv_191 a ha

set_option maxHeartbeats 1000000 in
theorem apply_low (o : Int) (h : o < 69) (x y : Int) (hx : 0 ≤ x ∧ x < 18446744073709551616) (hy : 0 ≤ y ∧ y < 18446744073709551616) : ∃ b e : Int, (0 ≤ b ∧ b < 18446744073709551616) ∧ (0 ≤ e ∧ e ≤ 100) ∧ ∀ w, Calls Tryz.prog 104 #[.int .i64 o, .int .u64 x, .int .u64 y] w fun e' w' => e' = .returned (.tuple #[.int .u64 b, .int .i64 e]) ∧ sameWorld w w' := by
  refine ⟨0, 35, by decide, by decide, fun w => ?_⟩
  go_enter Tryz.func104, Tryz.ntmps104
  go_wp2
  go_ret2
  exact ⟨rfl, sw_refl _⟩

set_option maxHeartbeats 1000000 in
theorem apply_high (o : Int) (h : 191 < o) (x y : Int) (hx : 0 ≤ x ∧ x < 18446744073709551616) (hy : 0 ≤ y ∧ y < 18446744073709551616) : ∃ b e : Int, (0 ≤ b ∧ b < 18446744073709551616) ∧ (0 ≤ e ∧ e ≤ 100) ∧ ∀ w, Calls Tryz.prog 104 #[.int .i64 o, .int .u64 x, .int .u64 y] w fun e' w' => e' = .returned (.tuple #[.int .u64 b, .int .i64 e]) ∧ sameWorld w w' := by
  have h0 : ¬ o < 69 := by omega
  refine ⟨0, 35, by decide, by decide, fun w => ?_⟩
  go_enter Tryz.func104, Tryz.ntmps104
  go_wp2
  go_ret2
  exact ⟨rfl, sw_refl _⟩

theorem flag_no (w : World) : Calls Tryz.prog 167 #[.bool false] w fun e w' => e = .returned (.int .u64 0) ∧ w' = w := flag_any false w
theorem flag_yes (w : World) : Calls Tryz.prog 167 #[.bool true] w fun e w' => e = .returned (.int .u64 1) ∧ w' = w := flag_any true w

set_option maxHeartbeats 1000000 in
theorem apply_a (o : Int) (h1 : 69 ≤ o) (h2 : o ≤ 79) (x y : Int) (hx : 0 ≤ x ∧ x < 18446744073709551616) (hy : 0 ≤ y ∧ y < 18446744073709551616) : ∃ b e : Int, (0 ≤ b ∧ b < 18446744073709551616) ∧ (e = 0 ∨ 38 ≤ e ∧ e ≤ 45) ∧ ∀ w, Calls Tryz.prog 104 #[.int .i64 o, .int .u64 x, .int .u64 y] w fun e' w' => e' = .returned (.tuple #[.int .u64 b, .int .i64 e]) ∧ sameWorld w w' := by
  have h0 : ¬ o < 69 := by omega
  have h9 : ¬ 191 < o := by omega
  obtain ⟨b, hb⟩ := rel32_all o h1 h2 (x % 4294967296) (y % 4294967296)
  cases b
  · refine ⟨0, 0, by decide, by decide, fun w => ?_⟩
    go_enter Tryz.func104, Tryz.ntmps104
    go_wp2_with (first | (go_at_call 168; refine (hb _).mono ?_; rintro e w' ⟨rfl, rfl⟩) | (go_at_call 167; refine (flag_no _).mono ?_; rintro e w' ⟨rfl, rfl⟩))
    go_ret2
    exact ⟨rfl, sw_refl _⟩

  · refine ⟨1, 0, by decide, by decide, fun w => ?_⟩
    go_enter Tryz.func104, Tryz.ntmps104
    go_wp2_with (first | (go_at_call 168; refine (hb _).mono ?_; rintro e w' ⟨rfl, rfl⟩) | (go_at_call 167; refine (flag_yes _).mono ?_; rintro e w' ⟨rfl, rfl⟩))
    go_ret2
    exact ⟨rfl, sw_refl _⟩

set_option maxHeartbeats 1000000 in
theorem apply_b (o : Int) (h1 : 80 ≤ o) (h2 : o ≤ 90) (x y : Int) (hx : 0 ≤ x ∧ x < 18446744073709551616) (hy : 0 ≤ y ∧ y < 18446744073709551616) : ∃ b e : Int, (0 ≤ b ∧ b < 18446744073709551616) ∧ (e = 0 ∨ 38 ≤ e ∧ e ≤ 45) ∧ ∀ w, Calls Tryz.prog 104 #[.int .i64 o, .int .u64 x, .int .u64 y] w fun e' w' => e' = .returned (.tuple #[.int .u64 b, .int .i64 e]) ∧ sameWorld w w' := by
  have h0 : ¬ o < 69 := by omega
  have h9 : ¬ 191 < o := by omega
  have g79 : ¬ o ≤ 79 := by omega
  obtain ⟨b, hb⟩ := rel64_all o h1 h2 x y
  cases b
  · refine ⟨0, 0, by decide, by decide, fun w => ?_⟩
    go_enter Tryz.func104, Tryz.ntmps104
    go_wp2_with (first | (go_at_call 169; refine (hb _).mono ?_; rintro e w' ⟨rfl, rfl⟩) | (go_at_call 167; refine (flag_no _).mono ?_; rintro e w' ⟨rfl, rfl⟩))
    go_ret2
    exact ⟨rfl, sw_refl _⟩

  · refine ⟨1, 0, by decide, by decide, fun w => ?_⟩
    go_enter Tryz.func104, Tryz.ntmps104
    go_wp2_with (first | (go_at_call 169; refine (hb _).mono ?_; rintro e w' ⟨rfl, rfl⟩) | (go_at_call 167; refine (flag_yes _).mono ?_; rintro e w' ⟨rfl, rfl⟩))
    go_ret2
    exact ⟨rfl, sw_refl _⟩

set_option maxHeartbeats 1000000 in
theorem apply_c (o : Int) (h1 : 91 ≤ o) (h2 : o ≤ 96) (x y : Int) (hx : 0 ≤ x ∧ x < 18446744073709551616) (hy : 0 ≤ y ∧ y < 18446744073709551616) : ∃ b e : Int, (0 ≤ b ∧ b < 18446744073709551616) ∧ (e = 0 ∨ 38 ≤ e ∧ e ≤ 45) ∧ ∀ w, Calls Tryz.prog 104 #[.int .i64 o, .int .u64 x, .int .u64 y] w fun e' w' => e' = .returned (.tuple #[.int .u64 b, .int .i64 e]) ∧ sameWorld w w' := by
  have h0 : ¬ o < 69 := by omega
  have h9 : ¬ 191 < o := by omega
  have g79 : ¬ o ≤ 79 := by omega
  have g90 : ¬ o ≤ 90 := by omega
  obtain ⟨b, hb⟩ := relF32_all o h1 h2 (x % 4294967296).toNat (y % 4294967296).toNat
  cases b
  · refine ⟨0, 0, by decide, by decide, fun w => ?_⟩
    go_enter Tryz.func104, Tryz.ntmps104
    go_wp2_with (first | (go_at_call 170; refine (hb _).mono ?_; rintro e w' ⟨rfl, rfl⟩) | (go_at_call 167; refine (flag_no _).mono ?_; rintro e w' ⟨rfl, rfl⟩) | simp only [c136])
    go_ret2
    exact ⟨rfl, sw_refl _⟩

  · refine ⟨1, 0, by decide, by decide, fun w => ?_⟩
    go_enter Tryz.func104, Tryz.ntmps104
    go_wp2_with (first | (go_at_call 170; refine (hb _).mono ?_; rintro e w' ⟨rfl, rfl⟩) | (go_at_call 167; refine (flag_yes _).mono ?_; rintro e w' ⟨rfl, rfl⟩) | simp only [c136])
    go_ret2
    exact ⟨rfl, sw_refl _⟩

set_option maxHeartbeats 1000000 in
theorem apply_d (o : Int) (h1 : 97 ≤ o) (h2 : o ≤ 102) (x y : Int) (hx : 0 ≤ x ∧ x < 18446744073709551616) (hy : 0 ≤ y ∧ y < 18446744073709551616) : ∃ b e : Int, (0 ≤ b ∧ b < 18446744073709551616) ∧ (e = 0 ∨ 38 ≤ e ∧ e ≤ 45) ∧ ∀ w, Calls Tryz.prog 104 #[.int .i64 o, .int .u64 x, .int .u64 y] w fun e' w' => e' = .returned (.tuple #[.int .u64 b, .int .i64 e]) ∧ sameWorld w w' := by
  have h0 : ¬ o < 69 := by omega
  have h9 : ¬ 191 < o := by omega
  have g79 : ¬ o ≤ 79 := by omega
  have g90 : ¬ o ≤ 90 := by omega
  have g96 : ¬ o ≤ 96 := by omega
  obtain ⟨b, hb⟩ := relF64_all o h1 h2 x.toNat y.toNat
  cases b
  · refine ⟨0, 0, by decide, by decide, fun w => ?_⟩
    go_enter Tryz.func104, Tryz.ntmps104
    go_wp2_with (first | (go_at_call 172; refine (hb _).mono ?_; rintro e w' ⟨rfl, rfl⟩) | (go_at_call 167; refine (flag_no _).mono ?_; rintro e w' ⟨rfl, rfl⟩) | simp only [c138])
    go_ret2
    exact ⟨rfl, sw_refl _⟩

  · refine ⟨1, 0, by decide, by decide, fun w => ?_⟩
    go_enter Tryz.func104, Tryz.ntmps104
    go_wp2_with (first | (go_at_call 172; refine (hb _).mono ?_; rintro e w' ⟨rfl, rfl⟩) | (go_at_call 167; refine (flag_yes _).mono ?_; rintro e w' ⟨rfl, rfl⟩) | simp only [c138])
    go_ret2
    exact ⟨rfl, sw_refl _⟩

set_option maxHeartbeats 1000000 in
theorem apply_e (o : Int) (h1 : 103 ≤ o) (h2 : o ≤ 120) (x y : Int) (hx : 0 ≤ x ∧ x < 18446744073709551616) (hy : 0 ≤ y ∧ y < 18446744073709551616) : ∃ b e : Int, (0 ≤ b ∧ b < 18446744073709551616) ∧ (e = 0 ∨ 38 ≤ e ∧ e ≤ 45) ∧ ∀ w, Calls Tryz.prog 104 #[.int .i64 o, .int .u64 x, .int .u64 y] w fun e' w' => e' = .returned (.tuple #[.int .u64 b, .int .i64 e]) ∧ sameWorld w w' := by
  have h0 : ¬ o < 69 := by omega
  have h9 : ¬ 191 < o := by omega
  have g79 : ¬ o ≤ 79 := by omega
  have g90 : ¬ o ≤ 90 := by omega
  have g96 : ¬ o ≤ 96 := by omega
  have g102 : ¬ o ≤ 102 := by omega
  obtain ⟨b, e, he, hb⟩ := int32s_all o h1 h2 (x % 4294967296) (y % 4294967296) (by omega) (by omega)
  refine ⟨IntKind.u64.wrap b, e, ⟨wrap_u64_nonneg _, wrap_u64_lt _⟩, he, fun w => ?_⟩
  go_enter Tryz.func104, Tryz.ntmps104
  go_wp2_with ((go_at_call 174; refine (hb _).mono ?_; rintro e w' ⟨rfl, rfl⟩))
  go_ret2
  exact ⟨rfl, sw_refl _⟩

set_option maxHeartbeats 1000000 in
theorem apply_f (o : Int) (h1 : 121 ≤ o) (h2 : o ≤ 138) (x y : Int) (hx : 0 ≤ x ∧ x < 18446744073709551616) (hy : 0 ≤ y ∧ y < 18446744073709551616) : ∃ b e : Int, (0 ≤ b ∧ b < 18446744073709551616) ∧ (e = 0 ∨ 38 ≤ e ∧ e ≤ 45) ∧ ∀ w, Calls Tryz.prog 104 #[.int .i64 o, .int .u64 x, .int .u64 y] w fun e' w' => e' = .returned (.tuple #[.int .u64 b, .int .i64 e]) ∧ sameWorld w w' := by
  have h0 : ¬ o < 69 := by omega
  have h9 : ¬ 191 < o := by omega
  have g79 : ¬ o ≤ 79 := by omega
  have g90 : ¬ o ≤ 90 := by omega
  have g96 : ¬ o ≤ 96 := by omega
  have g102 : ¬ o ≤ 102 := by omega
  have g120 : ¬ o ≤ 120 := by omega
  obtain ⟨b, e, hb0, hb1, he, hb⟩ := int64s_all o h1 h2 x y hx hy
  refine ⟨b, e, ⟨hb0, hb1⟩, he, fun w => ?_⟩
  go_enter Tryz.func104, Tryz.ntmps104
  go_wp2_with ((go_at_call 175; refine (hb _).mono ?_; rintro e w' ⟨rfl, rfl⟩))
  go_ret2
  exact ⟨rfl, sw_refl _⟩

set_option maxHeartbeats 1000000 in
theorem apply_g (o : Int) (h1 : 139 ≤ o) (h2 : o ≤ 152) (x y : Int) (hx : 0 ≤ x ∧ x < 18446744073709551616) (hy : 0 ≤ y ∧ y < 18446744073709551616) : ∃ b e : Int, (0 ≤ b ∧ b < 18446744073709551616) ∧ (e = 0 ∨ 38 ≤ e ∧ e ≤ 45) ∧ ∀ w, Calls Tryz.prog 104 #[.int .i64 o, .int .u64 x, .int .u64 y] w fun e' w' => e' = .returned (.tuple #[.int .u64 b, .int .i64 e]) ∧ sameWorld w w' := by
  have h0 : ¬ o < 69 := by omega
  have h9 : ¬ 191 < o := by omega
  have g79 : ¬ o ≤ 79 := by omega
  have g90 : ¬ o ≤ 90 := by omega
  have g96 : ¬ o ≤ 96 := by omega
  have g102 : ¬ o ≤ 102 := by omega
  have g120 : ¬ o ≤ 120 := by omega
  have g138 : ¬ o ≤ 138 := by omega
  obtain ⟨b, hb0, hb1, hb⟩ := float32s_all o h1 h2 (x % 4294967296) (y % 4294967296) (by omega) (by omega)
  have hwi := wrap_u64_id ⟨hb0, hb1⟩
  refine ⟨b, 0, by omega, by decide, fun w => ?_⟩
  go_enter Tryz.func104, Tryz.ntmps104
  go_wp2_with (first | (go_at_call 176; refine (hb _).mono ?_; rintro e w1 ⟨rfl, hsw⟩) | simp only [hwi])
  go_ret2
  exact ⟨rfl, hsw⟩

set_option maxHeartbeats 1000000 in
theorem apply_h (o : Int) (h1 : 153 ≤ o) (h2 : o ≤ 166) (x y : Int) (hx : 0 ≤ x ∧ x < 18446744073709551616) (hy : 0 ≤ y ∧ y < 18446744073709551616) : ∃ b e : Int, (0 ≤ b ∧ b < 18446744073709551616) ∧ (e = 0 ∨ 38 ≤ e ∧ e ≤ 45) ∧ ∀ w, Calls Tryz.prog 104 #[.int .i64 o, .int .u64 x, .int .u64 y] w fun e' w' => e' = .returned (.tuple #[.int .u64 b, .int .i64 e]) ∧ sameWorld w w' := by
  have h0 : ¬ o < 69 := by omega
  have h9 : ¬ 191 < o := by omega
  have g79 : ¬ o ≤ 79 := by omega
  have g90 : ¬ o ≤ 90 := by omega
  have g96 : ¬ o ≤ 96 := by omega
  have g102 : ¬ o ≤ 102 := by omega
  have g120 : ¬ o ≤ 120 := by omega
  have g138 : ¬ o ≤ 138 := by omega
  have g152 : ¬ o ≤ 152 := by omega
  obtain ⟨b, hb0, hb1, hb⟩ := float64s_all o h1 h2 x y hx hy
  refine ⟨b, 0, by omega, by decide, fun w => ?_⟩
  go_enter Tryz.func104, Tryz.ntmps104
  go_wp2_with ((go_at_call 177; refine (hb _).mono ?_; rintro e w1 ⟨rfl, hsw⟩))
  go_ret2
  exact ⟨rfl, hsw⟩

set_option maxHeartbeats 1000000 in
theorem apply_i (o : Int) (h1 : 167 ≤ o) (h2 : o ≤ 191) (x y : Int) (hx : 0 ≤ x ∧ x < 18446744073709551616) (hy : 0 ≤ y ∧ y < 18446744073709551616) : ∃ b e : Int, (0 ≤ b ∧ b < 18446744073709551616) ∧ (e = 0 ∨ 38 ≤ e ∧ e ≤ 45) ∧ ∀ w, Calls Tryz.prog 104 #[.int .i64 o, .int .u64 x, .int .u64 y] w fun e' w' => e' = .returned (.tuple #[.int .u64 b, .int .i64 e]) ∧ sameWorld w w' := by
  have h0 : ¬ o < 69 := by omega
  have h9 : ¬ 191 < o := by omega
  have g79 : ¬ o ≤ 79 := by omega
  have g90 : ¬ o ≤ 90 := by omega
  have g96 : ¬ o ≤ 96 := by omega
  have g102 : ¬ o ≤ 102 := by omega
  have g120 : ¬ o ≤ 120 := by omega
  have g138 : ¬ o ≤ 138 := by omega
  have g152 : ¬ o ≤ 152 := by omega
  have g166 : ¬ o ≤ 166 := by omega
  obtain ⟨b, e, hb0, hb1, he, hb⟩ := conv_all o h1 h2 x hx
  refine ⟨b, e, ⟨hb0, hb1⟩, he, fun w => ?_⟩
  go_enter Tryz.func104, Tryz.ntmps104
  go_wp2_with ((go_at_call 178; refine (hb _).mono ?_; rintro e w1 ⟨rfl, hsw⟩))
  go_ret2
  exact ⟨rfl, hsw⟩

/- num.Apply IS A FUNCTION of its operands -/
theorem apply_all (o x y : Int) (ho : 69 ≤ o ∧ o ≤ 191) (hx : 0 ≤ x ∧ x < 18446744073709551616) (hy : 0 ≤ y ∧ y < 18446744073709551616) : ∃ b e : Int, (0 ≤ b ∧ b < 18446744073709551616) ∧ (e = 0 ∨ 38 ≤ e ∧ e ≤ 45) ∧ ∀ w, Calls Tryz.prog 104 #[.int .i64 o, .int .u64 x, .int .u64 y] w fun e' w' => e' = .returned (.tuple #[.int .u64 b, .int .i64 e]) ∧ sameWorld w w' := by
  by_cases h0 : o < 69
  · omega
  by_cases h1 : o ≤ 79
  · exact apply_a o (by omega) h1 x y hx hy
  by_cases h2 : o ≤ 90
  · exact apply_b o (by omega) h2 x y hx hy
  by_cases h3 : o ≤ 96
  · exact apply_c o (by omega) h3 x y hx hy
  by_cases h4 : o ≤ 102
  · exact apply_d o (by omega) h4 x y hx hy
  by_cases h5 : o ≤ 120
  · exact apply_e o (by omega) h5 x y hx hy
  by_cases h6 : o ≤ 138
  · exact apply_f o (by omega) h6 x y hx hy
  by_cases h7 : o ≤ 152
  · exact apply_g o (by omega) h7 x y hx hy
  by_cases h8 : o ≤ 166
  · exact apply_h o (by omega) h8 x y hx hy
  by_cases h9 : o ≤ 191
  · exact apply_i o (by omega) h9 x y hx hy
  omega

end Go.Proofs.Qxb6500275aGreatDoor
