import Derived.Test.Qxb6500275aGreatDoorNm4
set_option linter.unusedVariables false
set_option linter.unusedSimpArgs false
set_option maxRecDepth 20000
namespace Go.Proofs.Qxb6500275aGreatDoor
open Go Go.RowKit

theorem compare_scale (a b : Int) (k : Int) (hk : 0 < k) : compare (a * k) (b * k) = compare a b := by
  simp only [compare, compareOfLessAndEq]
  by_cases h1 : a < b
  · rw [if_pos h1, if_pos (Int.mul_lt_mul_of_pos_right h1 hk)]
  · rw [if_neg h1, if_neg (by have := Int.mul_le_mul_of_nonneg_right (Int.not_lt.1 h1) (Int.le_of_lt hk); omega)]
    by_cases h2 : a = b
    · rw [if_pos h2, if_pos (by rw [h2])]
    · rw [if_neg h2, if_neg (fun e => h2 (Int.eq_of_mul_eq_mul_right (by omega) e))]

theorem signed_scale (s : Bool) (m a b : Nat) : Ieee.signed s m (a + b) = Ieee.signed s m a * (2 ^ b : Nat) := by
  unfold Ieee.signed
  simp only [Nat.shiftLeft_eq, Nat.pow_add]
  cases s
  · simp only [Bool.false_eq_true, if_false]; rw [← Nat.mul_assoc]; exact Int.natCast_mul _ _
  · simp only [if_true]; rw [← Nat.mul_assoc, Int.natCast_mul]; rw [Int.neg_mul]

theorem signed_shift (s : Bool) (m q a : Nat) : Ieee.signed s (m * 2 ^ q) a = Ieee.signed s m (a + q) := by
  unfold Ieee.signed
  simp only [Nat.shiftLeft_eq, Nat.pow_add]
  have e : m * 2 ^ q * 2 ^ a = m * (2 ^ a * 2 ^ q) := by rw [Nat.mul_assoc, Nat.mul_comm (2 ^ q)]
  rw [e]

theorem order_scale (d : Ieee.Datum) (t : Bool) (N q : Nat) : d.order (.number t (N * 2 ^ q) (-(q : Int))) = d.order (.number t N 0) := by
  cases d with
  | nan s f => rfl
  | infinity s => rfl
  | number s m i =>
    simp only [Ieee.Datum.order, Option.some.injEq]
    rw [signed_shift]
    have e1 : (i - min i (-(q : Int))).toNat = (i - min i 0).toNat + (min i 0 - min i (-(q : Int))).toNat := by omega
    have e2 : (-(q : Int) - min i (-(q : Int))).toNat + q = (0 - min i 0).toNat + (min i 0 - min i (-(q : Int))).toNat := by omega
    rw [e1, e2, signed_scale, signed_scale]
    exact compare_scale _ _ _ (by exact_mod_cast Nat.two_pow_pos _)

theorem fti_gt' {k : FloatKind} {dst : IntKind} {x a b nl nh : Nat} {jl jh : Int} (ha : ∀ d, Ieee.Datum.order d (k.format.read a) = d.order (.number true nl jl)) (hb : ∀ d, Ieee.Datum.order d (k.format.read b) = d.order (.number false nh jh)) (hl : 0 ≤ jl ∧ 0 < nl) (hh : 0 ≤ jh ∧ 0 < nh)
    (h1 : (k.format.order x a == some .gt) = true) (h2 : (k.format.order x b == some .lt) = true) (hmin : dst.min ≤ -(nl * 2 ^ jl.toNat : Int) + 1) (hmax : (nh * 2 ^ jh.toNat : Int) ≤ dst.max + 1) : ∃ n, floatToIntVal k x dst = some n := by
  have h1 : k.format.order x a = some .gt := by simpa using h1
  have h2 : k.format.order x b = some .lt := by simpa using h2
  unfold Ieee.Format.order at h1 h2
  rw [ha] at h1
  rw [hb] at h2
  obtain ⟨v, hv⟩ := Ieee.toInt_there h2 (.inl h1)
  have g1 := Ieee.toInt_gt hl.1 hl.2 h1 hv
  have g2 := Ieee.toInt_lt hh.1 hh.2 h2 hv
  refine ⟨v, ?_⟩
  unfold floatToIntVal
  have hv' : (k.decode x).toInt .zero = some v := hv
  rw [hv']
  exact if_pos ⟨by omega, by omega⟩
theorem fti_ge' {k : FloatKind} {dst : IntKind} {x a b nl nh : Nat} {jl jh : Int} (ha : ∀ d, Ieee.Datum.order d (k.format.read a) = d.order (.number true nl jl)) (hb : ∀ d, Ieee.Datum.order d (k.format.read b) = d.order (.number false nh jh)) (hl : 0 ≤ jl ∧ 0 < nl) (hh : 0 ≤ jh ∧ 0 < nh)
    (h1 : (k.format.order x a == some .gt || k.format.order x a == some .eq) = true) (h2 : (k.format.order x b == some .lt) = true) (hmin : dst.min ≤ -(nl * 2 ^ jl.toNat : Int)) (hmax : (nh * 2 ^ jh.toNat : Int) ≤ dst.max + 1) : ∃ n, floatToIntVal k x dst = some n := by
  have h1 : k.format.order x a = some .gt ∨ k.format.order x a = some .eq := by simpa using h1
  rcases h1 with h1 | h1
  · exact fti_gt' ha hb hl hh (by rw [h1]; rfl) h2 (by omega) hmax
  have h2 : k.format.order x b = some .lt := by simpa using h2
  unfold Ieee.Format.order at h1 h2
  rw [ha] at h1
  rw [hb] at h2
  obtain ⟨v, hv⟩ := Ieee.toInt_there h2 (.inr h1)
  have g1 := Ieee.toInt_ge hl.1 hl.2 h1 hv
  have g2 := Ieee.toInt_lt hh.1 hh.2 h2 hv
  refine ⟨v, ?_⟩
  unfold floatToIntVal
  have hv' : (k.decode x).toInt .zero = some v := hv
  rw [hv']
  exact if_pos ⟨by omega, by omega⟩

theorem s_m31 (d : Ieee.Datum) : d.order (FloatKind.f32.format.read 3472883712) = d.order (.number true 8388608 8) := by
  rw [show FloatKind.f32.format.read 3472883712 = .number true 8388608 8 from rfl]
theorem s_31 (d : Ieee.Datum) : d.order (FloatKind.f32.format.read 1325400064) = d.order (.number false 8388608 8) := by
  rw [show FloatKind.f32.format.read 1325400064 = .number false 8388608 8 from rfl]
theorem s_m1 (d : Ieee.Datum) : d.order (FloatKind.f32.format.read 3212836864) = d.order (.number true 1 0) := by
  rw [show FloatKind.f32.format.read 3212836864 = .number true (1 * 2 ^ 23) (-((23 : Nat) : Int)) from rfl]
  exact order_scale d true 1 23
theorem s_32 (d : Ieee.Datum) : d.order (FloatKind.f32.format.read 1333788672) = d.order (.number false 8388608 9) := by
  rw [show FloatKind.f32.format.read 1333788672 = .number false 8388608 9 from rfl]
theorem s_m63 (d : Ieee.Datum) : d.order (FloatKind.f32.format.read 3741319168) = d.order (.number true 8388608 40) := by
  rw [show FloatKind.f32.format.read 3741319168 = .number true 8388608 40 from rfl]
theorem s_63 (d : Ieee.Datum) : d.order (FloatKind.f32.format.read 1593835520) = d.order (.number false 8388608 40) := by
  rw [show FloatKind.f32.format.read 1593835520 = .number false 8388608 40 from rfl]
theorem s_64 (d : Ieee.Datum) : d.order (FloatKind.f32.format.read 1602224128) = d.order (.number false 8388608 41) := by
  rw [show FloatKind.f32.format.read 1602224128 = .number false 8388608 41 from rfl]
theorem d_b31 (d : Ieee.Datum) : d.order (FloatKind.f64.format.read 13970166044105375744) = d.order (.number true 2147483649 0) := by
  rw [show FloatKind.f64.format.read 13970166044105375744 = .number true (2147483649 * 2 ^ 21) (-((21 : Nat) : Int)) from rfl]
  exact order_scale d true 2147483649 21
theorem d_31 (d : Ieee.Datum) : d.order (FloatKind.f64.format.read 4746794007248502784) = d.order (.number false 2147483648 0) := by
  rw [show FloatKind.f64.format.read 4746794007248502784 = .number false (2147483648 * 2 ^ 21) (-((21 : Nat) : Int)) from rfl]
  exact order_scale d false 2147483648 21
theorem d_m1 (d : Ieee.Datum) : d.order (FloatKind.f64.format.read 13830554455654793216) = d.order (.number true 1 0) := by
  rw [show FloatKind.f64.format.read 13830554455654793216 = .number true (1 * 2 ^ 52) (-((52 : Nat) : Int)) from rfl]
  exact order_scale d true 1 52
theorem d_32 (d : Ieee.Datum) : d.order (FloatKind.f64.format.read 4751297606875873280) = d.order (.number false 4294967296 0) := by
  rw [show FloatKind.f64.format.read 4751297606875873280 = .number false (4294967296 * 2 ^ 20) (-((20 : Nat) : Int)) from rfl]
  exact order_scale d false 4294967296 20
theorem d_m63 (d : Ieee.Datum) : d.order (FloatKind.f64.format.read 14114281232179134464) = d.order (.number true 4503599627370496 11) := by
  rw [show FloatKind.f64.format.read 14114281232179134464 = .number true 4503599627370496 11 from rfl]
theorem d_63 (d : Ieee.Datum) : d.order (FloatKind.f64.format.read 4890909195324358656) = d.order (.number false 4503599627370496 11) := by
  rw [show FloatKind.f64.format.read 4890909195324358656 = .number false 4503599627370496 11 from rfl]
theorem d_64 (d : Ieee.Datum) : d.order (FloatKind.f64.format.read 4895412794951729152) = d.order (.number false 4503599627370496 12) := by
  rw [show FloatKind.f64.format.read 4895412794951729152 = .number false 4503599627370496 12 from rfl]

set_option maxHeartbeats 1000000 in
theorem conv_167 (a : Int) (ha : 0 ≤ a ∧ a < 18446744073709551616) : ∃ b e : Int, 0 ≤ b ∧ b < 18446744073709551616 ∧ (e = 0 ∨ 38 ≤ e ∧ e ≤ 45) ∧ ∀ w, Calls Tryz.prog 178 #[.int .i64 167, .int .u64 a] w fun e' w' => e' = .returned (.tuple #[.int .u64 b, .int .i64 e]) ∧ sameWorld w w' := by
  apply Exists.intro
  apply Exists.intro
  refine ⟨?_, ?_, ?_, ?_⟩
  rotate_left 3
  · intro w
    go_enter Tryz.func178, Tryz.ntmps178
    go_wp2_with (simp only [c136, c138, c192, c193])
    go_ret2
    exact ⟨rfl, sw_refl _⟩
  · first | omega | exact wrap_u64_nonneg _
  · first | omega | exact wrap_u64_lt _
  · decide

set_option maxHeartbeats 1000000 in
theorem conv_172 (a : Int) (ha : 0 ≤ a ∧ a < 18446744073709551616) : ∃ b e : Int, 0 ≤ b ∧ b < 18446744073709551616 ∧ (e = 0 ∨ 38 ≤ e ∧ e ≤ 45) ∧ ∀ w, Calls Tryz.prog 178 #[.int .i64 172, .int .u64 a] w fun e' w' => e' = .returned (.tuple #[.int .u64 b, .int .i64 e]) ∧ sameWorld w w' := by
  apply Exists.intro
  apply Exists.intro
  refine ⟨?_, ?_, ?_, ?_⟩
  rotate_left 3
  · intro w
    go_enter Tryz.func178, Tryz.ntmps178
    go_wp2_with (simp only [c136, c138, c192, c193])
    go_ret2
    exact ⟨rfl, sw_refl _⟩
  · first | omega | exact wrap_u64_nonneg _
  · first | omega | exact wrap_u64_lt _
  · decide

set_option maxHeartbeats 1000000 in
theorem conv_173 (a : Int) (ha : 0 ≤ a ∧ a < 18446744073709551616) : ∃ b e : Int, 0 ≤ b ∧ b < 18446744073709551616 ∧ (e = 0 ∨ 38 ≤ e ∧ e ≤ 45) ∧ ∀ w, Calls Tryz.prog 178 #[.int .i64 173, .int .u64 a] w fun e' w' => e' = .returned (.tuple #[.int .u64 b, .int .i64 e]) ∧ sameWorld w w' := by
  apply Exists.intro
  apply Exists.intro
  refine ⟨?_, ?_, ?_, ?_⟩
  rotate_left 3
  · intro w
    go_enter Tryz.func178, Tryz.ntmps178
    go_wp2_with (simp only [c136, c138, c192, c193])
    go_ret2
    exact ⟨rfl, sw_refl _⟩
  · first | omega | exact wrap_u64_nonneg _
  · first | omega | exact wrap_u64_lt _
  · decide

set_option maxHeartbeats 1000000 in
theorem conv_178 (a : Int) (ha : 0 ≤ a ∧ a < 18446744073709551616) : ∃ b e : Int, 0 ≤ b ∧ b < 18446744073709551616 ∧ (e = 0 ∨ 38 ≤ e ∧ e ≤ 45) ∧ ∀ w, Calls Tryz.prog 178 #[.int .i64 178, .int .u64 a] w fun e' w' => e' = .returned (.tuple #[.int .u64 b, .int .i64 e]) ∧ sameWorld w w' := by
  apply Exists.intro
  apply Exists.intro
  refine ⟨?_, ?_, ?_, ?_⟩
  rotate_left 3
  · intro w
    go_enter Tryz.func178, Tryz.ntmps178
    go_wp2_with (simp only [c136, c138, c192, c193])
    go_ret2
    exact ⟨rfl, sw_refl _⟩
  · exact wrap_u64_nonneg _
  · exact wrap_u64_lt _
  · decide

set_option maxHeartbeats 1000000 in
theorem conv_179 (a : Int) (ha : 0 ≤ a ∧ a < 18446744073709551616) : ∃ b e : Int, 0 ≤ b ∧ b < 18446744073709551616 ∧ (e = 0 ∨ 38 ≤ e ∧ e ≤ 45) ∧ ∀ w, Calls Tryz.prog 178 #[.int .i64 179, .int .u64 a] w fun e' w' => e' = .returned (.tuple #[.int .u64 b, .int .i64 e]) ∧ sameWorld w w' := by
  apply Exists.intro
  apply Exists.intro
  refine ⟨?_, ?_, ?_, ?_⟩
  rotate_left 3
  · intro w
    go_enter Tryz.func178, Tryz.ntmps178
    go_wp2_with (simp only [c136, c138, c192, c193])
    go_ret2
    exact ⟨rfl, sw_refl _⟩
  · exact wrap_u64_nonneg _
  · exact wrap_u64_lt _
  · decide

set_option maxHeartbeats 1000000 in
theorem conv_180 (a : Int) (ha : 0 ≤ a ∧ a < 18446744073709551616) : ∃ b e : Int, 0 ≤ b ∧ b < 18446744073709551616 ∧ (e = 0 ∨ 38 ≤ e ∧ e ≤ 45) ∧ ∀ w, Calls Tryz.prog 178 #[.int .i64 180, .int .u64 a] w fun e' w' => e' = .returned (.tuple #[.int .u64 b, .int .i64 e]) ∧ sameWorld w w' := by
  apply Exists.intro
  apply Exists.intro
  refine ⟨?_, ?_, ?_, ?_⟩
  rotate_left 3
  · intro w
    go_enter Tryz.func178, Tryz.ntmps178
    go_wp2_with (simp only [c136, c138, c192, c193])
    go_ret2
    exact ⟨rfl, sw_refl _⟩
  · exact wrap_u64_nonneg _
  · exact wrap_u64_lt _
  · decide

set_option maxHeartbeats 1000000 in
theorem conv_181 (a : Int) (ha : 0 ≤ a ∧ a < 18446744073709551616) : ∃ b e : Int, 0 ≤ b ∧ b < 18446744073709551616 ∧ (e = 0 ∨ 38 ≤ e ∧ e ≤ 45) ∧ ∀ w, Calls Tryz.prog 178 #[.int .i64 181, .int .u64 a] w fun e' w' => e' = .returned (.tuple #[.int .u64 b, .int .i64 e]) ∧ sameWorld w w' := by
  apply Exists.intro
  apply Exists.intro
  refine ⟨?_, ?_, ?_, ?_⟩
  rotate_left 3
  · intro w
    go_enter Tryz.func178, Tryz.ntmps178
    go_wp2_with (simp only [c136, c138, c192, c193])
    go_ret2
    exact ⟨rfl, sw_refl _⟩
  · exact wrap_u64_nonneg _
  · exact wrap_u64_lt _
  · decide

set_option maxHeartbeats 1000000 in
theorem conv_183 (a : Int) (ha : 0 ≤ a ∧ a < 18446744073709551616) : ∃ b e : Int, 0 ≤ b ∧ b < 18446744073709551616 ∧ (e = 0 ∨ 38 ≤ e ∧ e ≤ 45) ∧ ∀ w, Calls Tryz.prog 178 #[.int .i64 183, .int .u64 a] w fun e' w' => e' = .returned (.tuple #[.int .u64 b, .int .i64 e]) ∧ sameWorld w w' := by
  apply Exists.intro
  apply Exists.intro
  refine ⟨?_, ?_, ?_, ?_⟩
  rotate_left 3
  · intro w
    go_enter Tryz.func178, Tryz.ntmps178
    go_wp2_with (simp only [c136, c138, c192, c193])
    go_ret2
    exact ⟨rfl, sw_refl _⟩
  · omega
  · (first | (have := floatOfInt_lt_f64 (wrap32 a); omega) | (have := floatOfInt_lt_f64 a; omega) | (have := floatOfInt_lt_f64 (a % 4294967296); omega) | (have := floatOfInt_lt_f64 (wrap64 a); omega) | (have := floatOfInt_lt_f64 (wrap32 (a % 4294967296)); omega))
  · decide

set_option maxHeartbeats 1000000 in
theorem conv_184 (a : Int) (ha : 0 ≤ a ∧ a < 18446744073709551616) : ∃ b e : Int, 0 ≤ b ∧ b < 18446744073709551616 ∧ (e = 0 ∨ 38 ≤ e ∧ e ≤ 45) ∧ ∀ w, Calls Tryz.prog 178 #[.int .i64 184, .int .u64 a] w fun e' w' => e' = .returned (.tuple #[.int .u64 b, .int .i64 e]) ∧ sameWorld w w' := by
  apply Exists.intro
  apply Exists.intro
  refine ⟨?_, ?_, ?_, ?_⟩
  rotate_left 3
  · intro w
    go_enter Tryz.func178, Tryz.ntmps178
    go_wp2_with (simp only [c136, c138, c192, c193])
    go_ret2
    exact ⟨rfl, sw_refl _⟩
  · omega
  · (first | (have := floatOfInt_lt_f64 (wrap32 a); omega) | (have := floatOfInt_lt_f64 a; omega) | (have := floatOfInt_lt_f64 (a % 4294967296); omega) | (have := floatOfInt_lt_f64 (wrap64 a); omega) | (have := floatOfInt_lt_f64 (wrap32 (a % 4294967296)); omega))
  · decide

set_option maxHeartbeats 1000000 in
theorem conv_185 (a : Int) (ha : 0 ≤ a ∧ a < 18446744073709551616) : ∃ b e : Int, 0 ≤ b ∧ b < 18446744073709551616 ∧ (e = 0 ∨ 38 ≤ e ∧ e ≤ 45) ∧ ∀ w, Calls Tryz.prog 178 #[.int .i64 185, .int .u64 a] w fun e' w' => e' = .returned (.tuple #[.int .u64 b, .int .i64 e]) ∧ sameWorld w w' := by
  apply Exists.intro
  apply Exists.intro
  refine ⟨?_, ?_, ?_, ?_⟩
  rotate_left 3
  · intro w
    go_enter Tryz.func178, Tryz.ntmps178
    go_wp2_with (simp only [c136, c138, c192, c193])
    go_ret2
    exact ⟨rfl, sw_refl _⟩
  · omega
  · (first | (have := floatOfInt_lt_f64 (wrap32 a); omega) | (have := floatOfInt_lt_f64 a; omega) | (have := floatOfInt_lt_f64 (a % 4294967296); omega) | (have := floatOfInt_lt_f64 (wrap64 a); omega) | (have := floatOfInt_lt_f64 (wrap32 (a % 4294967296)); omega))
  · decide

set_option maxHeartbeats 1000000 in
theorem conv_186 (a : Int) (ha : 0 ≤ a ∧ a < 18446744073709551616) : ∃ b e : Int, 0 ≤ b ∧ b < 18446744073709551616 ∧ (e = 0 ∨ 38 ≤ e ∧ e ≤ 45) ∧ ∀ w, Calls Tryz.prog 178 #[.int .i64 186, .int .u64 a] w fun e' w' => e' = .returned (.tuple #[.int .u64 b, .int .i64 e]) ∧ sameWorld w w' := by
  apply Exists.intro
  apply Exists.intro
  refine ⟨?_, ?_, ?_, ?_⟩
  rotate_left 3
  · intro w
    go_enter Tryz.func178, Tryz.ntmps178
    go_wp2_with (simp only [c136, c138, c192, c193])
    go_ret2
    exact ⟨rfl, sw_refl _⟩
  · omega
  · (first | (have := floatOfInt_lt_f64 (wrap32 a); omega) | (have := floatOfInt_lt_f64 a; omega) | (have := floatOfInt_lt_f64 (a % 4294967296); omega) | (have := floatOfInt_lt_f64 (wrap64 a); omega) | (have := floatOfInt_lt_f64 (wrap32 (a % 4294967296)); omega))
  · decide

set_option maxHeartbeats 1000000 in
theorem conv_188 (a : Int) (ha : 0 ≤ a ∧ a < 18446744073709551616) : ∃ b e : Int, 0 ≤ b ∧ b < 18446744073709551616 ∧ (e = 0 ∨ 38 ≤ e ∧ e ≤ 45) ∧ ∀ w, Calls Tryz.prog 178 #[.int .i64 188, .int .u64 a] w fun e' w' => e' = .returned (.tuple #[.int .u64 b, .int .i64 e]) ∧ sameWorld w w' := by
  apply Exists.intro
  apply Exists.intro
  refine ⟨?_, ?_, ?_, ?_⟩
  rotate_left 3
  · intro w
    go_enter Tryz.func178, Tryz.ntmps178
    go_wp2_with (simp only [c136, c138, c192, c193])
    go_ret2
    exact ⟨rfl, sw_refl _⟩
  · first | omega | exact wrap_u64_nonneg _
  · first | omega | exact wrap_u64_lt _
  · decide

set_option maxHeartbeats 1000000 in
theorem conv_189 (a : Int) (ha : 0 ≤ a ∧ a < 18446744073709551616) : ∃ b e : Int, 0 ≤ b ∧ b < 18446744073709551616 ∧ (e = 0 ∨ 38 ≤ e ∧ e ≤ 45) ∧ ∀ w, Calls Tryz.prog 178 #[.int .i64 189, .int .u64 a] w fun e' w' => e' = .returned (.tuple #[.int .u64 b, .int .i64 e]) ∧ sameWorld w w' := by
  apply Exists.intro
  apply Exists.intro
  refine ⟨?_, ?_, ?_, ?_⟩
  rotate_left 3
  · intro w
    go_enter Tryz.func178, Tryz.ntmps178
    go_wp2_with (simp only [c136, c138, c192, c193])
    go_ret2
    exact ⟨rfl, sw_refl _⟩
  · first | omega | exact wrap_u64_nonneg _
  · first | omega | exact wrap_u64_lt _
  · decide

set_option maxHeartbeats 1000000 in
theorem conv_190 (a : Int) (ha : 0 ≤ a ∧ a < 18446744073709551616) : ∃ b e : Int, 0 ≤ b ∧ b < 18446744073709551616 ∧ (e = 0 ∨ 38 ≤ e ∧ e ≤ 45) ∧ ∀ w, Calls Tryz.prog 178 #[.int .i64 190, .int .u64 a] w fun e' w' => e' = .returned (.tuple #[.int .u64 b, .int .i64 e]) ∧ sameWorld w w' := by
  apply Exists.intro
  apply Exists.intro
  refine ⟨?_, ?_, ?_, ?_⟩
  rotate_left 3
  · intro w
    go_enter Tryz.func178, Tryz.ntmps178
    go_wp2_with (simp only [c136, c138, c192, c193])
    go_ret2
    exact ⟨rfl, sw_refl _⟩
  · first | omega | exact wrap_u64_nonneg _
  · first | omega | exact wrap_u64_lt _
  · decide

set_option maxHeartbeats 1000000 in
theorem conv_191 (a : Int) (ha : 0 ≤ a ∧ a < 18446744073709551616) : ∃ b e : Int, 0 ≤ b ∧ b < 18446744073709551616 ∧ (e = 0 ∨ 38 ≤ e ∧ e ≤ 45) ∧ ∀ w, Calls Tryz.prog 178 #[.int .i64 191, .int .u64 a] w fun e' w' => e' = .returned (.tuple #[.int .u64 b, .int .i64 e]) ∧ sameWorld w w' := by
  apply Exists.intro
  apply Exists.intro
  refine ⟨?_, ?_, ?_, ?_⟩
  rotate_left 3
  · intro w
    go_enter Tryz.func178, Tryz.ntmps178
    go_wp2_with (simp only [c136, c138, c192, c193])
    go_ret2
    exact ⟨rfl, sw_refl _⟩
  · first | omega | exact wrap_u64_nonneg _
  · first | omega | exact wrap_u64_lt _
  · decide

theorem order_some {k : FloatKind} {x b : Nat} (h : (k.format.order x b == some .lt) = true) (c : Nat) (s : Bool) (m : Nat) (i : Int) (hc : k.format.read c = .number s m i) : ¬ k.format.order x c = none := by
  have h : k.format.order x b = some .lt := by simpa using h
  unfold Ieee.Format.order at h ⊢
  rw [hc]
  cases hx : k.format.read x with
  | nan s f => rw [hx] at h; simp [Ieee.Datum.order] at h
  | infinity s => simp [Ieee.Datum.order]
  | number s m i => simp [Ieee.Datum.order]
theorem sub_some {k : FloatKind} {x a b : Nat} (h1 : (k.format.order x a == some .gt) = true) (h2 : (k.format.order x b == some .lt) = true) (c : Nat) (s : Bool) (m : Nat) (i : Int) (hc : k.format.read c = .number s m i) : ¬ floatBits .sub k x c = none := by
  have h2 : k.format.order x b = some .lt := by simpa using h2
  unfold Ieee.Format.order at h2
  unfold floatBits Ieee.Format.sub
  dsimp only
  rw [hc]
  cases hx : k.format.read x with
  | nan s f => rw [hx] at h2; simp [Ieee.Datum.order] at h2
  | infinity s => simp [Ieee.Datum.sum, Ieee.Datum.opposite]
  | number s m i => simp [Ieee.Datum.sum, Ieee.Datum.opposite]
theorem h1' {k : FloatKind} {x c : Nat} (h : (k.format.order x c == some .gt || k.format.order x c == some .eq) = true) : k.format.order x c = some .gt ∨ k.format.order x c = some .eq := by simpa using h
theorem h2' {k : FloatKind} {x c : Nat} (h : (k.format.order x c == some .lt) = true) : k.format.order x c = some .lt := by simpa using h
theorem top_f32 {x r : Nat} (h1 : (FloatKind.f32.format.order x 1593835520 == some .gt || FloatKind.f32.format.order x 1593835520 == some .eq) = true) (h2 : (FloatKind.f32.format.order x 1602224128 == some .lt) = true) (h3 : floatBits .sub .f32 x 1593835520 = some r) : ∃ n, floatToIntVal .f32 r .i64 = some n := by
  obtain ⟨v, hv, a, b⟩ := Ieee.single_top (x := x) (h1' h1) (h2' h2) h3
  refine ⟨v, ?_⟩
  unfold floatToIntVal
  have hv' : (FloatKind.f32.decode r).toInt .zero = some v := hv
  rw [hv']
  exact if_pos ⟨a, b⟩
theorem top_f64 {x r : Nat} (h1 : (FloatKind.f64.format.order x 4890909195324358656 == some .gt || FloatKind.f64.format.order x 4890909195324358656 == some .eq) = true) (h2 : (FloatKind.f64.format.order x 4895412794951729152 == some .lt) = true) (h3 : floatBits .sub .f64 x 4890909195324358656 = some r) : ∃ n, floatToIntVal .f64 r .i64 = some n := by
  obtain ⟨v, hv, a, b⟩ := Ieee.double_top (x := x) (h1' h1) (h2' h2) h3
  refine ⟨v, ?_⟩
  unfold floatToIntVal
  have hv' : (FloatKind.f64.decode r).toInt .zero = some v := hv
  rw [hv']
  exact if_pos ⟨a, b⟩

set_option maxHeartbeats 1000000 in
theorem conv_168 (a : Int) (ha : 0 ≤ a ∧ a < 18446744073709551616) : ∃ b e : Int, 0 ≤ b ∧ b < 18446744073709551616 ∧ (e = 0 ∨ 38 ≤ e ∧ e ≤ 45) ∧ ∀ w, Calls Tryz.prog 178 #[.int .i64 168, .int .u64 a] w fun e' w' => e' = .returned (.tuple #[.int .u64 b, .int .i64 e]) ∧ sameWorld w w' := by
  cases h1 : FloatKind.f32.format.order (a % 4294967296).toNat ((a % 4294967296).toNat) != some .eq
  case' true =>
    apply Exists.intro
    apply Exists.intro
    refine ⟨?_, ?_, ?_, ?_⟩
    rotate_left 3
    · intro w
      go_enter Tryz.func178, Tryz.ntmps178
      go_wp2_with (simp only [c136, c138, c192, c193])
      go_ret2
      exact ⟨rfl, sw_refl _⟩
    · first | omega | exact wrap_u64_nonneg _
    · first | omega | exact wrap_u64_lt _
    · decide
  cases h2 : (FloatKind.f32.format.order (a % 4294967296).toNat 3472883712 == some .gt || FloatKind.f32.format.order (a % 4294967296).toNat 3472883712 == some .eq)
  case' false =>
    apply Exists.intro
    apply Exists.intro
    refine ⟨?_, ?_, ?_, ?_⟩
    rotate_left 3
    · intro w
      go_enter Tryz.func178, Tryz.ntmps178
      go_wp2_with (simp only [c136, c138, c192, c193])
      go_ret2
      exact ⟨rfl, sw_refl _⟩
    · first | omega | exact wrap_u64_nonneg _
    · first | omega | exact wrap_u64_lt _
    · decide
  cases h3 : FloatKind.f32.format.order (a % 4294967296).toNat 1325400064 == some .lt
  case' false =>
    apply Exists.intro
    apply Exists.intro
    refine ⟨?_, ?_, ?_, ?_⟩
    rotate_left 3
    · intro w
      go_enter Tryz.func178, Tryz.ntmps178
      go_wp2_with (simp only [c136, c138, c192, c193])
      go_ret2
      exact ⟨rfl, sw_refl _⟩
    · first | omega | exact wrap_u64_nonneg _
    · first | omega | exact wrap_u64_lt _
    · decide
  obtain ⟨n, hn⟩ := fti_ge' (k := .f32) (dst := .i32) s_m31 s_31 (by decide) (by decide) h2 h3 (by decide) (by decide)
  have hcv : ∀ w, (convert 268 21 (.float .f32 ((a % 4294967296).toNat))).run Tryz.prog w = .ok (.int .i32 n) w := fun w => run_convert_float_int w 268 21 .f32 .i32 _ n (by kernel_rfl) (by kernel_rfl) hn
  apply Exists.intro
  apply Exists.intro
  refine ⟨?_, ?_, ?_, ?_⟩
  rotate_left 3
  · intro w
    go_enter Tryz.func178, Tryz.ntmps178
    go_wp2_with (simp only [c136, c138, c192, c193, hcv])
    go_ret2
    exact ⟨rfl, sw_refl _⟩
  · first | omega | exact wrap_u64_nonneg _
  · first | omega | exact wrap_u64_lt _
  · decide

set_option maxHeartbeats 1000000 in
theorem conv_169 (a : Int) (ha : 0 ≤ a ∧ a < 18446744073709551616) : ∃ b e : Int, 0 ≤ b ∧ b < 18446744073709551616 ∧ (e = 0 ∨ 38 ≤ e ∧ e ≤ 45) ∧ ∀ w, Calls Tryz.prog 178 #[.int .i64 169, .int .u64 a] w fun e' w' => e' = .returned (.tuple #[.int .u64 b, .int .i64 e]) ∧ sameWorld w w' := by
  cases h1 : FloatKind.f32.format.order (a % 4294967296).toNat ((a % 4294967296).toNat) != some .eq
  case' true =>
    apply Exists.intro
    apply Exists.intro
    refine ⟨?_, ?_, ?_, ?_⟩
    rotate_left 3
    · intro w
      go_enter Tryz.func178, Tryz.ntmps178
      go_wp2_with (simp only [c136, c138, c192, c193])
      go_ret2
      exact ⟨rfl, sw_refl _⟩
    · first | omega | exact wrap_u64_nonneg _
    · first | omega | exact wrap_u64_lt _
    · decide
  cases h2 : FloatKind.f32.format.order (a % 4294967296).toNat 3212836864 == some .gt
  case' false =>
    apply Exists.intro
    apply Exists.intro
    refine ⟨?_, ?_, ?_, ?_⟩
    rotate_left 3
    · intro w
      go_enter Tryz.func178, Tryz.ntmps178
      go_wp2_with (simp only [c136, c138, c192, c193])
      go_ret2
      exact ⟨rfl, sw_refl _⟩
    · first | omega | exact wrap_u64_nonneg _
    · first | omega | exact wrap_u64_lt _
    · decide
  cases h3 : FloatKind.f32.format.order (a % 4294967296).toNat 1333788672 == some .lt
  case' false =>
    apply Exists.intro
    apply Exists.intro
    refine ⟨?_, ?_, ?_, ?_⟩
    rotate_left 3
    · intro w
      go_enter Tryz.func178, Tryz.ntmps178
      go_wp2_with (simp only [c136, c138, c192, c193])
      go_ret2
      exact ⟨rfl, sw_refl _⟩
    · first | omega | exact wrap_u64_nonneg _
    · first | omega | exact wrap_u64_lt _
    · decide
  obtain ⟨n, hn⟩ := fti_gt' (k := .f32) (dst := .i64) s_m1 s_32 (by decide) (by decide) h2 h3 (by decide) (by decide)
  have hcv : ∀ w, (convert 268 2 (.float .f32 ((a % 4294967296).toNat))).run Tryz.prog w = .ok (.int .i64 n) w := fun w => run_convert_float_int w 268 2 .f32 .i64 _ n (by kernel_rfl) (by kernel_rfl) hn
  apply Exists.intro
  apply Exists.intro
  refine ⟨?_, ?_, ?_, ?_⟩
  rotate_left 3
  · intro w
    go_enter Tryz.func178, Tryz.ntmps178
    go_wp2_with (simp only [c136, c138, c192, c193, hcv])
    go_ret2
    exact ⟨rfl, sw_refl _⟩
  · first | omega | exact wrap_u64_nonneg _
  · first | omega | exact wrap_u64_lt _
  · decide

set_option maxHeartbeats 1000000 in
theorem conv_170 (a : Int) (ha : 0 ≤ a ∧ a < 18446744073709551616) : ∃ b e : Int, 0 ≤ b ∧ b < 18446744073709551616 ∧ (e = 0 ∨ 38 ≤ e ∧ e ≤ 45) ∧ ∀ w, Calls Tryz.prog 178 #[.int .i64 170, .int .u64 a] w fun e' w' => e' = .returned (.tuple #[.int .u64 b, .int .i64 e]) ∧ sameWorld w w' := by
  cases h1 : FloatKind.f64.format.order a.toNat (a.toNat) != some .eq
  case' true =>
    apply Exists.intro
    apply Exists.intro
    refine ⟨?_, ?_, ?_, ?_⟩
    rotate_left 3
    · intro w
      go_enter Tryz.func178, Tryz.ntmps178
      go_wp2_with (simp only [c136, c138, c192, c193])
      go_ret2
      exact ⟨rfl, sw_refl _⟩
    · first | omega | exact wrap_u64_nonneg _
    · first | omega | exact wrap_u64_lt _
    · decide
  cases h2 : FloatKind.f64.format.order a.toNat 13970166044105375744 == some .gt
  case' false =>
    apply Exists.intro
    apply Exists.intro
    refine ⟨?_, ?_, ?_, ?_⟩
    rotate_left 3
    · intro w
      go_enter Tryz.func178, Tryz.ntmps178
      go_wp2_with (simp only [c136, c138, c192, c193])
      go_ret2
      exact ⟨rfl, sw_refl _⟩
    · first | omega | exact wrap_u64_nonneg _
    · first | omega | exact wrap_u64_lt _
    · decide
  cases h3 : FloatKind.f64.format.order a.toNat 4746794007248502784 == some .lt
  case' false =>
    apply Exists.intro
    apply Exists.intro
    refine ⟨?_, ?_, ?_, ?_⟩
    rotate_left 3
    · intro w
      go_enter Tryz.func178, Tryz.ntmps178
      go_wp2_with (simp only [c136, c138, c192, c193])
      go_ret2
      exact ⟨rfl, sw_refl _⟩
    · first | omega | exact wrap_u64_nonneg _
    · first | omega | exact wrap_u64_lt _
    · decide
  obtain ⟨n, hn⟩ := fti_gt' (k := .f64) (dst := .i32) d_b31 d_31 (by decide) (by decide) h2 h3 (by decide) (by decide)
  have hcv : ∀ w, (convert 271 21 (.float .f64 (a.toNat))).run Tryz.prog w = .ok (.int .i32 n) w := fun w => run_convert_float_int w 271 21 .f64 .i32 _ n (by kernel_rfl) (by kernel_rfl) hn
  apply Exists.intro
  apply Exists.intro
  refine ⟨?_, ?_, ?_, ?_⟩
  rotate_left 3
  · intro w
    go_enter Tryz.func178, Tryz.ntmps178
    go_wp2_with (simp only [c136, c138, c192, c193, hcv])
    go_ret2
    exact ⟨rfl, sw_refl _⟩
  · first | omega | exact wrap_u64_nonneg _
  · first | omega | exact wrap_u64_lt _
  · decide

set_option maxHeartbeats 1000000 in
theorem conv_171 (a : Int) (ha : 0 ≤ a ∧ a < 18446744073709551616) : ∃ b e : Int, 0 ≤ b ∧ b < 18446744073709551616 ∧ (e = 0 ∨ 38 ≤ e ∧ e ≤ 45) ∧ ∀ w, Calls Tryz.prog 178 #[.int .i64 171, .int .u64 a] w fun e' w' => e' = .returned (.tuple #[.int .u64 b, .int .i64 e]) ∧ sameWorld w w' := by
  cases h1 : FloatKind.f64.format.order a.toNat (a.toNat) != some .eq
  case' true =>
    apply Exists.intro
    apply Exists.intro
    refine ⟨?_, ?_, ?_, ?_⟩
    rotate_left 3
    · intro w
      go_enter Tryz.func178, Tryz.ntmps178
      go_wp2_with (simp only [c136, c138, c192, c193])
      go_ret2
      exact ⟨rfl, sw_refl _⟩
    · first | omega | exact wrap_u64_nonneg _
    · first | omega | exact wrap_u64_lt _
    · decide
  cases h2 : FloatKind.f64.format.order a.toNat 13830554455654793216 == some .gt
  case' false =>
    apply Exists.intro
    apply Exists.intro
    refine ⟨?_, ?_, ?_, ?_⟩
    rotate_left 3
    · intro w
      go_enter Tryz.func178, Tryz.ntmps178
      go_wp2_with (simp only [c136, c138, c192, c193])
      go_ret2
      exact ⟨rfl, sw_refl _⟩
    · first | omega | exact wrap_u64_nonneg _
    · first | omega | exact wrap_u64_lt _
    · decide
  cases h3 : FloatKind.f64.format.order a.toNat 4751297606875873280 == some .lt
  case' false =>
    apply Exists.intro
    apply Exists.intro
    refine ⟨?_, ?_, ?_, ?_⟩
    rotate_left 3
    · intro w
      go_enter Tryz.func178, Tryz.ntmps178
      go_wp2_with (simp only [c136, c138, c192, c193])
      go_ret2
      exact ⟨rfl, sw_refl _⟩
    · first | omega | exact wrap_u64_nonneg _
    · first | omega | exact wrap_u64_lt _
    · decide
  obtain ⟨n, hn⟩ := fti_gt' (k := .f64) (dst := .i64) d_m1 d_32 (by decide) (by decide) h2 h3 (by decide) (by decide)
  have hcv : ∀ w, (convert 271 2 (.float .f64 (a.toNat))).run Tryz.prog w = .ok (.int .i64 n) w := fun w => run_convert_float_int w 271 2 .f64 .i64 _ n (by kernel_rfl) (by kernel_rfl) hn
  apply Exists.intro
  apply Exists.intro
  refine ⟨?_, ?_, ?_, ?_⟩
  rotate_left 3
  · intro w
    go_enter Tryz.func178, Tryz.ntmps178
    go_wp2_with (simp only [c136, c138, c192, c193, hcv])
    go_ret2
    exact ⟨rfl, sw_refl _⟩
  · first | omega | exact wrap_u64_nonneg _
  · first | omega | exact wrap_u64_lt _
  · decide

set_option maxHeartbeats 1000000 in
theorem conv_174 (a : Int) (ha : 0 ≤ a ∧ a < 18446744073709551616) : ∃ b e : Int, 0 ≤ b ∧ b < 18446744073709551616 ∧ (e = 0 ∨ 38 ≤ e ∧ e ≤ 45) ∧ ∀ w, Calls Tryz.prog 178 #[.int .i64 174, .int .u64 a] w fun e' w' => e' = .returned (.tuple #[.int .u64 b, .int .i64 e]) ∧ sameWorld w w' := by
  cases h1 : FloatKind.f32.format.order (a % 4294967296).toNat ((a % 4294967296).toNat) != some .eq
  case' true =>
    apply Exists.intro
    apply Exists.intro
    refine ⟨?_, ?_, ?_, ?_⟩
    rotate_left 3
    · intro w
      go_enter Tryz.func178, Tryz.ntmps178
      go_wp2_with (simp only [c136, c138, c192, c193])
      go_ret2
      exact ⟨rfl, sw_refl _⟩
    · first | omega | exact wrap_u64_nonneg _
    · first | omega | exact wrap_u64_lt _
    · decide
  cases h2 : (FloatKind.f32.format.order (a % 4294967296).toNat 3741319168 == some .gt || FloatKind.f32.format.order (a % 4294967296).toNat 3741319168 == some .eq)
  case' false =>
    apply Exists.intro
    apply Exists.intro
    refine ⟨?_, ?_, ?_, ?_⟩
    rotate_left 3
    · intro w
      go_enter Tryz.func178, Tryz.ntmps178
      go_wp2_with (simp only [c136, c138, c192, c193])
      go_ret2
      exact ⟨rfl, sw_refl _⟩
    · first | omega | exact wrap_u64_nonneg _
    · first | omega | exact wrap_u64_lt _
    · decide
  cases h3 : FloatKind.f32.format.order (a % 4294967296).toNat 1593835520 == some .lt
  case' false =>
    apply Exists.intro
    apply Exists.intro
    refine ⟨?_, ?_, ?_, ?_⟩
    rotate_left 3
    · intro w
      go_enter Tryz.func178, Tryz.ntmps178
      go_wp2_with (simp only [c136, c138, c192, c193])
      go_ret2
      exact ⟨rfl, sw_refl _⟩
    · first | omega | exact wrap_u64_nonneg _
    · first | omega | exact wrap_u64_lt _
    · decide
  obtain ⟨n, hn⟩ := fti_ge' (k := .f32) (dst := .i64) s_m63 s_63 (by decide) (by decide) h2 h3 (by decide) (by decide)
  have hcv : ∀ w, (convert 268 2 (.float .f32 ((a % 4294967296).toNat))).run Tryz.prog w = .ok (.int .i64 n) w := fun w => run_convert_float_int w 268 2 .f32 .i64 _ n (by kernel_rfl) (by kernel_rfl) hn
  apply Exists.intro
  apply Exists.intro
  refine ⟨?_, ?_, ?_, ?_⟩
  rotate_left 3
  · intro w
    go_enter Tryz.func178, Tryz.ntmps178
    go_wp2_with (simp only [c136, c138, c192, c193, hcv])
    go_ret2
    exact ⟨rfl, sw_refl _⟩
  · first | omega | exact wrap_u64_nonneg _
  · first | omega | exact wrap_u64_lt _
  · decide

set_option maxHeartbeats 1000000 in
theorem conv_175 (a : Int) (ha : 0 ≤ a ∧ a < 18446744073709551616) : ∃ b e : Int, 0 ≤ b ∧ b < 18446744073709551616 ∧ (e = 0 ∨ 38 ≤ e ∧ e ≤ 45) ∧ ∀ w, Calls Tryz.prog 178 #[.int .i64 175, .int .u64 a] w fun e' w' => e' = .returned (.tuple #[.int .u64 b, .int .i64 e]) ∧ sameWorld w w' := by
  cases h1 : FloatKind.f32.format.order (a % 4294967296).toNat ((a % 4294967296).toNat) != some .eq
  case' true =>
    apply Exists.intro
    apply Exists.intro
    refine ⟨?_, ?_, ?_, ?_⟩
    rotate_left 3
    · intro w
      go_enter Tryz.func178, Tryz.ntmps178
      go_wp2_with (simp only [c136, c138, c192, c193])
      go_ret2
      exact ⟨rfl, sw_refl _⟩
    · first | omega | exact wrap_u64_nonneg _
    · first | omega | exact wrap_u64_lt _
    · decide
  cases h2 : FloatKind.f32.format.order (a % 4294967296).toNat 3212836864 == some .gt
  case' false =>
    apply Exists.intro
    apply Exists.intro
    refine ⟨?_, ?_, ?_, ?_⟩
    rotate_left 3
    · intro w
      go_enter Tryz.func178, Tryz.ntmps178
      go_wp2_with (simp only [c136, c138, c192, c193])
      go_ret2
      exact ⟨rfl, sw_refl _⟩
    · first | omega | exact wrap_u64_nonneg _
    · first | omega | exact wrap_u64_lt _
    · decide
  cases h3 : FloatKind.f32.format.order (a % 4294967296).toNat 1602224128 == some .lt
  case' false =>
    apply Exists.intro
    apply Exists.intro
    refine ⟨?_, ?_, ?_, ?_⟩
    rotate_left 3
    · intro w
      go_enter Tryz.func178, Tryz.ntmps178
      go_wp2_with (simp only [c136, c138, c192, c193])
      go_ret2
      exact ⟨rfl, sw_refl _⟩
    · first | omega | exact wrap_u64_nonneg _
    · first | omega | exact wrap_u64_lt _
    · decide
  cases h4 : (FloatKind.f32.format.order (a % 4294967296).toNat 1593835520 == some .gt || FloatKind.f32.format.order (a % 4294967296).toNat 1593835520 == some .eq)
  · have h5 : (FloatKind.f32.format.order (a % 4294967296).toNat 1593835520 == some .lt) = true := by
      cases h6 : FloatKind.f32.format.order (a % 4294967296).toNat 1593835520 with
      | none => exact absurd h6 (order_some h3 1593835520 _ _ _ rfl)
      | some q => cases q <;> simp_all
    obtain ⟨n, hn⟩ := fti_gt' (k := .f32) (dst := .i64) s_m1 s_63 (by decide) (by decide) h2 h5 (by decide) (by decide)
    have hcv : ∀ w, (convert 268 2 (.float .f32 ((a % 4294967296).toNat))).run Tryz.prog w = .ok (.int .i64 n) w := fun w => run_convert_float_int w 268 2 .f32 .i64 _ n (by kernel_rfl) (by kernel_rfl) hn
    apply Exists.intro
    apply Exists.intro
    refine ⟨?_, ?_, ?_, ?_⟩
    rotate_left 3
    · intro w
      go_enter Tryz.func178, Tryz.ntmps178
      go_wp2_with (simp only [c136, c138, c192, c193, hcv])
      go_ret2
      exact ⟨rfl, sw_refl _⟩
    · first | omega | exact wrap_u64_nonneg _
    · first | omega | exact wrap_u64_lt _
    · decide

  · cases h5 : floatBits .sub .f32 ((a % 4294967296).toNat) 1593835520 with
    | none => exact absurd h5 (sub_some h2 h3 1593835520 _ _ _ rfl)
    | some r =>
      have h6 : ∀ w, (binOp .sub 268 (.float .f32 ((a % 4294967296).toNat)) (.float .f32 1593835520)).run Tryz.prog w = .ok (.float .f32 r) w := fun w => run_float_arith w .sub 268 .f32 _ 1593835520 r h5
      obtain ⟨n, hn⟩ := top_f32 h4 h3 h5
      have hcv : ∀ w, (convert 268 2 (.float .f32 r)).run Tryz.prog w = .ok (.int .i64 n) w := fun w => run_convert_float_int w 268 2 .f32 .i64 _ n (by kernel_rfl) (by kernel_rfl) hn
      apply Exists.intro
      apply Exists.intro
      refine ⟨?_, ?_, ?_, ?_⟩
      rotate_left 3
      · intro w
        go_enter Tryz.func178, Tryz.ntmps178
        go_wp2_with (simp only [c136, c138, c192, c193, hcv, h6])
        go_ret2
        exact ⟨rfl, sw_refl _⟩
      · exact bits_u64_nonneg _ _ _
      · exact bits_u64_lt _ _ _
      · decide

set_option maxHeartbeats 1000000 in
theorem conv_176 (a : Int) (ha : 0 ≤ a ∧ a < 18446744073709551616) : ∃ b e : Int, 0 ≤ b ∧ b < 18446744073709551616 ∧ (e = 0 ∨ 38 ≤ e ∧ e ≤ 45) ∧ ∀ w, Calls Tryz.prog 178 #[.int .i64 176, .int .u64 a] w fun e' w' => e' = .returned (.tuple #[.int .u64 b, .int .i64 e]) ∧ sameWorld w w' := by
  cases h1 : FloatKind.f64.format.order a.toNat (a.toNat) != some .eq
  case' true =>
    apply Exists.intro
    apply Exists.intro
    refine ⟨?_, ?_, ?_, ?_⟩
    rotate_left 3
    · intro w
      go_enter Tryz.func178, Tryz.ntmps178
      go_wp2_with (simp only [c136, c138, c192, c193])
      go_ret2
      exact ⟨rfl, sw_refl _⟩
    · first | omega | exact wrap_u64_nonneg _
    · first | omega | exact wrap_u64_lt _
    · decide
  cases h2 : (FloatKind.f64.format.order a.toNat 14114281232179134464 == some .gt || FloatKind.f64.format.order a.toNat 14114281232179134464 == some .eq)
  case' false =>
    apply Exists.intro
    apply Exists.intro
    refine ⟨?_, ?_, ?_, ?_⟩
    rotate_left 3
    · intro w
      go_enter Tryz.func178, Tryz.ntmps178
      go_wp2_with (simp only [c136, c138, c192, c193])
      go_ret2
      exact ⟨rfl, sw_refl _⟩
    · first | omega | exact wrap_u64_nonneg _
    · first | omega | exact wrap_u64_lt _
    · decide
  cases h3 : FloatKind.f64.format.order a.toNat 4890909195324358656 == some .lt
  case' false =>
    apply Exists.intro
    apply Exists.intro
    refine ⟨?_, ?_, ?_, ?_⟩
    rotate_left 3
    · intro w
      go_enter Tryz.func178, Tryz.ntmps178
      go_wp2_with (simp only [c136, c138, c192, c193])
      go_ret2
      exact ⟨rfl, sw_refl _⟩
    · first | omega | exact wrap_u64_nonneg _
    · first | omega | exact wrap_u64_lt _
    · decide
  obtain ⟨n, hn⟩ := fti_ge' (k := .f64) (dst := .i64) d_m63 d_63 (by decide) (by decide) h2 h3 (by decide) (by decide)
  have hcv : ∀ w, (convert 271 2 (.float .f64 (a.toNat))).run Tryz.prog w = .ok (.int .i64 n) w := fun w => run_convert_float_int w 271 2 .f64 .i64 _ n (by kernel_rfl) (by kernel_rfl) hn
  apply Exists.intro
  apply Exists.intro
  refine ⟨?_, ?_, ?_, ?_⟩
  rotate_left 3
  · intro w
    go_enter Tryz.func178, Tryz.ntmps178
    go_wp2_with (simp only [c136, c138, c192, c193, hcv])
    go_ret2
    exact ⟨rfl, sw_refl _⟩
  · first | omega | exact wrap_u64_nonneg _
  · first | omega | exact wrap_u64_lt _
  · decide

set_option maxHeartbeats 1000000 in
theorem conv_177 (a : Int) (ha : 0 ≤ a ∧ a < 18446744073709551616) : ∃ b e : Int, 0 ≤ b ∧ b < 18446744073709551616 ∧ (e = 0 ∨ 38 ≤ e ∧ e ≤ 45) ∧ ∀ w, Calls Tryz.prog 178 #[.int .i64 177, .int .u64 a] w fun e' w' => e' = .returned (.tuple #[.int .u64 b, .int .i64 e]) ∧ sameWorld w w' := by
  cases h1 : FloatKind.f64.format.order a.toNat (a.toNat) != some .eq
  case' true =>
    apply Exists.intro
    apply Exists.intro
    refine ⟨?_, ?_, ?_, ?_⟩
    rotate_left 3
    · intro w
      go_enter Tryz.func178, Tryz.ntmps178
      go_wp2_with (simp only [c136, c138, c192, c193])
      go_ret2
      exact ⟨rfl, sw_refl _⟩
    · first | omega | exact wrap_u64_nonneg _
    · first | omega | exact wrap_u64_lt _
    · decide
  cases h2 : FloatKind.f64.format.order a.toNat 13830554455654793216 == some .gt
  case' false =>
    apply Exists.intro
    apply Exists.intro
    refine ⟨?_, ?_, ?_, ?_⟩
    rotate_left 3
    · intro w
      go_enter Tryz.func178, Tryz.ntmps178
      go_wp2_with (simp only [c136, c138, c192, c193])
      go_ret2
      exact ⟨rfl, sw_refl _⟩
    · first | omega | exact wrap_u64_nonneg _
    · first | omega | exact wrap_u64_lt _
    · decide
  cases h3 : FloatKind.f64.format.order a.toNat 4895412794951729152 == some .lt
  case' false =>
    apply Exists.intro
    apply Exists.intro
    refine ⟨?_, ?_, ?_, ?_⟩
    rotate_left 3
    · intro w
      go_enter Tryz.func178, Tryz.ntmps178
      go_wp2_with (simp only [c136, c138, c192, c193])
      go_ret2
      exact ⟨rfl, sw_refl _⟩
    · first | omega | exact wrap_u64_nonneg _
    · first | omega | exact wrap_u64_lt _
    · decide
  cases h4 : (FloatKind.f64.format.order a.toNat 4890909195324358656 == some .gt || FloatKind.f64.format.order a.toNat 4890909195324358656 == some .eq)
  · have h5 : (FloatKind.f64.format.order a.toNat 4890909195324358656 == some .lt) = true := by
      cases h6 : FloatKind.f64.format.order a.toNat 4890909195324358656 with
      | none => exact absurd h6 (order_some h3 4890909195324358656 _ _ _ rfl)
      | some q => cases q <;> simp_all
    obtain ⟨n, hn⟩ := fti_gt' (k := .f64) (dst := .i64) d_m1 d_63 (by decide) (by decide) h2 h5 (by decide) (by decide)
    have hcv : ∀ w, (convert 271 2 (.float .f64 (a.toNat))).run Tryz.prog w = .ok (.int .i64 n) w := fun w => run_convert_float_int w 271 2 .f64 .i64 _ n (by kernel_rfl) (by kernel_rfl) hn
    apply Exists.intro
    apply Exists.intro
    refine ⟨?_, ?_, ?_, ?_⟩
    rotate_left 3
    · intro w
      go_enter Tryz.func178, Tryz.ntmps178
      go_wp2_with (simp only [c136, c138, c192, c193, hcv])
      go_ret2
      exact ⟨rfl, sw_refl _⟩
    · first | omega | exact wrap_u64_nonneg _
    · first | omega | exact wrap_u64_lt _
    · decide

  · cases h5 : floatBits .sub .f64 (a.toNat) 4890909195324358656 with
    | none => exact absurd h5 (sub_some h2 h3 4890909195324358656 _ _ _ rfl)
    | some r =>
      have h6 : ∀ w, (binOp .sub 271 (.float .f64 (a.toNat)) (.float .f64 4890909195324358656)).run Tryz.prog w = .ok (.float .f64 r) w := fun w => run_float_arith w .sub 271 .f64 _ 4890909195324358656 r h5
      obtain ⟨n, hn⟩ := top_f64 h4 h3 h5
      have hcv : ∀ w, (convert 271 2 (.float .f64 r)).run Tryz.prog w = .ok (.int .i64 n) w := fun w => run_convert_float_int w 271 2 .f64 .i64 _ n (by kernel_rfl) (by kernel_rfl) hn
      apply Exists.intro
      apply Exists.intro
      refine ⟨?_, ?_, ?_, ?_⟩
      rotate_left 3
      · intro w
        go_enter Tryz.func178, Tryz.ntmps178
        go_wp2_with (simp only [c136, c138, c192, c193, hcv, h6])
        go_ret2
        exact ⟨rfl, sw_refl _⟩
      · exact bits_u64_nonneg _ _ _
      · exact bits_u64_lt _ _ _
      · decide

end Go.Proofs.Qxb6500275aGreatDoor
