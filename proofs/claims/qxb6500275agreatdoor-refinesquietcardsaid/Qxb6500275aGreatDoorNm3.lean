import Derived.Test.Qxb6500275aGreatDoorNm2
import Derived.Test.Qxb6500275aGreatDoorNmH
set_option linter.unusedVariables false
set_option linter.unusedSimpArgs false
set_option maxRecDepth 20000
namespace Go.Proofs.Qxb6500275aGreatDoor
open Go Go.RowKit

theorem c136 (n : Int) (w : World) : (callFunc 171 #[.int .u32 n]).run Tryz.prog w = .ok (.value (.float .f32 n.toNat)) w := by
  rw [run_callFunc_extern (e := Extern.MathFloatBits.float32frombits) Tryz.func171 (by kernel_rfl) (by kernel_rfl) (by kernel_rfl) (by kernel_rfl)]
  rfl
theorem c138 (n : Int) (w : World) : (callFunc 173 #[.int .u64 n]).run Tryz.prog w = .ok (.value (.float .f64 n.toNat)) w := by
  rw [run_callFunc_extern (e := Extern.MathFloatBits.float64frombits) Tryz.func173 (by kernel_rfl) (by kernel_rfl) (by kernel_rfl) (by kernel_rfl)]
  rfl
theorem c192 (n : Nat) (w : World) : (callFunc 235 #[.float .f32 n]).run Tryz.prog w = .ok (.value (.int .u32 n)) w := by
  rw [run_callFunc_extern (e := Extern.MathFloatBits.float32bits) Tryz.func235 (by kernel_rfl) (by kernel_rfl) (by kernel_rfl) (by kernel_rfl)]
  rfl
theorem c193 (n : Nat) (w : World) : (callFunc 236 #[.float .f64 n]).run Tryz.prog w = .ok (.value (.int .u64 n)) w := by
  rw [run_callFunc_extern (e := Extern.MathFloatBits.float64bits) Tryz.func236 (by kernel_rfl) (by kernel_rfl) (by kernel_rfl) (by kernel_rfl)]
  rfl
theorem c215 (n : Nat) (w : World) : (callFunc 267 #[.float .f64 n]).run Tryz.prog w = ((Extern.MathSqrt.sqrt #[.float .f64 n]).run Tryz.prog w).andThen fun v w' => .ok (.value v) w' := by
  rw [run_callFunc_extern (e := Extern.MathSqrt.sqrt) Tryz.func267 (by kernel_rfl) (by kernel_rfl) (by kernel_rfl) (by kernel_rfl)]

@[go_sem] theorem unary_neg_float (k : FloatKind) (b : Nat) : Op.unary .neg (.float k b) = pure (.float k (Op.negFloat k b)) := rfl

/- NaNs -/
def IsN (k : FloatKind) (r : Nat) : Prop := ∃ s f, k.format.read r = .nan s f
theorem IsN.order {k : FloatKind} {r : Nat} (h : IsN k r) (x : Nat) : k.format.order r x = none := by
  obtain ⟨s, f, h⟩ := h
  simp [Ieee.Format.order, h, Ieee.Datum.order]
theorem nan_cut32 (t : Nat) : IsN .f32 ((t % 2) * 2 ^ 31 + 0x7f800000 + 1 + (t / 2) % (2 ^ 23 - 1)) := by
  have h := Nat.mod_lt (t / 2) (show 2 ^ 23 - 1 > 0 by decide)
  generalize (t / 2) % (2 ^ 23 - 1) = q at h
  have h2 := Nat.mod_lt t (show 2 > 0 by decide)
  generalize t % 2 = p at h2
  have e : (p * 2 ^ 31 + 0x7f800000 + 1 + q) % 2147483648 = 0x7f800000 + 1 + q := by omega
  unfold IsN FloatKind.format Ieee.Format.read
  have e1 : Ieee.single.signWeight = 2147483648 := rfl
  have e2 : Ieee.single.binade = 8388608 := rfl
  have e3 : Ieee.single.infRung = 2139095040 := rfl
  dsimp only
  rw [e1, e2, e3, e]
  rw [if_neg (by omega), if_neg (by omega), if_neg (by omega)]
  exact ⟨_, _, rfl⟩
theorem nan_cut64 (t : Nat) : IsN .f64 ((t % 2) * 2 ^ 63 + 0x7ff0000000000000 + 1 + (t / 2) % (2 ^ 52 - 1)) := by
  have h := Nat.mod_lt (t / 2) (show 2 ^ 52 - 1 > 0 by decide)
  generalize (t / 2) % (2 ^ 52 - 1) = q at h
  have h2 := Nat.mod_lt t (show 2 > 0 by decide)
  generalize t % 2 = p at h2
  have e : (p * 2 ^ 63 + 0x7ff0000000000000 + 1 + q) % 9223372036854775808 = 0x7ff0000000000000 + 1 + q := by omega
  unfold IsN FloatKind.format Ieee.Format.read
  have e1 : Ieee.double.signWeight = 9223372036854775808 := rfl
  have e2 : Ieee.double.binade = 4503599627370496 := rfl
  have e3 : Ieee.double.infRung = 9218868437227405312 := rfl
  dsimp only
  rw [e1, e2, e3, e]
  rw [if_neg (by omega), if_neg (by omega), if_neg (by omega)]
  exact ⟨_, _, rfl⟩
def nanAt (k : FloatKind) (x y : Nat) (w : World) : Nat := (Question.nanBits k x y).cut (w.tape w.drawn (.nanBits k x y))
def nanCv (k : FloatKind) (x : Nat) (w : World) : Nat := (Question.nanConv k x).cut (w.tape w.drawn (.nanConv k x))
theorem nanAt_is (k : FloatKind) (x y : Nat) (w : World) : IsN k (nanAt k x y w) := by
  cases k
  · exact nan_cut32 _
  · exact nan_cut64 _
theorem nanCv_is (k : FloatKind) (x : Nat) (w : World) : IsN k (nanCv k x w) := by
  cases k
  · exact nan_cut32 _
  · exact nan_cut64 _
section
variable {P : Program}
theorem run_arith_nan (op : BinOp) (hop : op = .add ∨ op = .sub ∨ op = .mul ∨ op = .quo) (t : TypeId) (k : FloatKind) (x y : Nat) (h : floatBits op k x y = none) (w : World) :
    (binOp op t (.float k x) (.float k y)).run P w = .ok (.float k (nanAt k x y w)) w.drew := by
  rcases hop with rfl | rfl | rfl | rfl <;> simp only [floatBits] at h <;> simp [binOp, Op.floatArith, h, choose, Sem.run, Question.forced, nanAt]
theorem run_conv_nan (src dst : TypeId) (s k : FloatKind) (hne : s ≠ k) (b : Nat) (hs : (P.underlying src).isSome = true) (hd : P.underlying dst = some (.float k)) (h : IsN s b) (w : World) :
    (convert src dst (.float s b)).run P w = .ok (.float k (nanCv k b w)) w.drew := by
  obtain ⟨u, hs'⟩ := Option.isSome_iff_exists.1 hs
  obtain ⟨sg, f, hr⟩ := h
  have hd' : s.decode b = .nan sg f := hr
  cases u <;> simp [convert, run_underlying hs', run_underlying hd, Conv.floatToFloat, hne, hd', choose, Sem.run, Question.forced, nanCv]
theorem run_sqrt_some (x r : Nat) (h : Ieee.double.sqrt x = some r) (w : World) : (Extern.MathSqrt.sqrt #[.float .f64 x]).run P w = .ok (.float .f64 r) w := by
  have h' : FloatKind.f64.format.sqrt x = some r := h
  have e : Extern.MathSqrt.sqrt #[.float .f64 x] = (match FloatKind.f64.format.sqrt x with | some r => pure (.float .f64 r) | none => do pure (.float .f64 (← choose (.nanBits .f64 x x)))) := rfl
  rw [e, h']
  rfl
theorem run_sqrt_none (x : Nat) (h : Ieee.double.sqrt x = none) (w : World) : (Extern.MathSqrt.sqrt #[.float .f64 x]).run P w = .ok (.float .f64 (nanAt .f64 x x w)) w.drew := by
  have h' : FloatKind.f64.format.sqrt x = none := h
  have e : Extern.MathSqrt.sqrt #[.float .f64 x] = (match FloatKind.f64.format.sqrt x with | some r => pure (.float .f64 r) | none => do pure (.float .f64 (← choose (.nanBits .f64 x x)))) := rfl
  rw [e, h']
  rfl
end

def sameWorld (w w' : World) : Prop := w'.heap = w.heap ∧ w'.os = w.os ∧ w'.tape = w.tape ∧ w'.output = w.output
theorem sw_refl (w : World) : sameWorld w w := ⟨rfl, rfl, rfl, rfl⟩
theorem sw_drew (w : World) : sameWorld w w.drew := ⟨rfl, rfl, rfl, rfl⟩
theorem sw_trans {a b c : World} (h : sameWorld a b) (k : sameWorld b c) : sameWorld a c := ⟨k.1.trans h.1, k.2.1.trans h.2.1, k.2.2.1.trans h.2.2.1, k.2.2.2.trans h.2.2.2⟩

def can32 (r : Nat) : Int := bif FloatKind.f32.format.order r r != some .eq then 2143289344 else r
def can64 (r : Nat) : Int := bif FloatKind.f64.format.order r r != some .eq then 9221120237041090560 else r
theorem can32_nan {r : Nat} (h : IsN .f32 r) : can32 r = 2143289344 := by unfold can32; rw [h.order]; rfl
theorem can64_nan {r : Nat} (h : IsN .f64 r) : can64 r = 9221120237041090560 := by unfold can64; rw [h.order]; rfl

set_option maxHeartbeats 400000 in
theorem canon32_any (r : Nat) (w : World) : Calls Tryz.prog 220 #[.float .f32 r] w fun e w' => e = .returned (.int .u32 (can32 r)) ∧ w' = w := by
  unfold can32
  cases h : FloatKind.f32.format.order r r != some .eq
  all_goals
    go_enter Tryz.func220, Tryz.ntmps220
    go_wp2_with (simp only [c192])
    go_ret
    exact ⟨rfl, rfl⟩
set_option maxHeartbeats 400000 in
theorem canon64_any (r : Nat) (w : World) : Calls Tryz.prog 228 #[.float .f64 r] w fun e w' => e = .returned (.int .u64 (can64 r)) ∧ w' = w := by
  unfold can64
  cases h : FloatKind.f64.format.order r r != some .eq
  all_goals
    go_enter Tryz.func228, Tryz.ntmps228
    go_wp2_with (simp only [c193])
    go_ret
    exact ⟨rfl, rfl⟩

theorem can32_range {r : Nat} (h : r < 4294967296) : 0 ≤ can32 r ∧ can32 r < 4294967296 := by
  unfold can32
  cases FloatKind.f32.format.order r r != some .eq
  · simp only [cond_false]; omega
  · simp only [cond_true]; omega
theorem can64_range {r : Nat} (h : r < 18446744073709551616) : 0 ≤ can64 r ∧ can64 r < 18446744073709551616 := by
  unfold can64
  cases FloatKind.f64.format.order r r != some .eq
  · simp only [cond_false]; omega
  · simp only [cond_true]; omega
theorem floatBits_lt (op : BinOp) (k : FloatKind) (x y r : Nat) (h : floatBits op k x y = some r) : r < 2 ^ k.format.width := by
  unfold floatBits at h
  split at h
  · exact k.format.add_lt h
  · exact k.format.sub_lt h
  · exact k.format.mul_lt h
  · exact k.format.div_lt h
  · cases h
theorem floatBits_lt_f32 {op : BinOp} {x y r : Nat} (h : floatBits op .f32 x y = some r) : r < 4294967296 := floatBits_lt op .f32 x y r h
theorem floatBits_lt_f64 {op : BinOp} {x y r : Nat} (h : floatBits op .f64 x y = some r) : r < 18446744073709551616 := floatBits_lt op .f64 x y r h
theorem floatOfInt_lt_f32 (n : Int) : floatOfInt .f32 n < 4294967296 := FloatKind.f32.format.write_lt (.number (n < 0) n.natAbs 0)
theorem floatOfInt_lt_f64 (n : Int) : floatOfInt .f64 n < 18446744073709551616 := FloatKind.f64.format.write_lt (.number (n < 0) n.natAbs 0)
theorem neg_lt_f32 {r : Nat} (h : r < 4294967296) : Op.negFloat .f32 r < 4294967296 := Nat.xor_lt_two_pow (n := 32) h (by decide)
theorem neg_lt_f64 {r : Nat} (h : r < 18446744073709551616) : Op.negFloat .f64 r < 18446744073709551616 := Nat.xor_lt_two_pow (n := 64) h (by decide)

/- a float between two whole numbers -/
theorem fti_gt {k : FloatKind} {dst : IntKind} {x a b nl nh : Nat} {jl jh : Int} (ha : k.format.read a = .number true nl jl) (hb : k.format.read b = .number false nh jh) (hl : 0 ≤ jl ∧ 0 < nl) (hh : 0 ≤ jh ∧ 0 < nh)
    (h1 : k.format.order x a = some .gt) (h2 : k.format.order x b = some .lt) (hmin : dst.min ≤ -(nl * 2 ^ jl.toNat : Int) + 1) (hmax : (nh * 2 ^ jh.toNat : Int) ≤ dst.max + 1) : ∃ n, floatToIntVal k x dst = some n := by
  unfold Ieee.Format.order at h1 h2
  rw [ha] at h1
  rw [hb] at h2
  obtain ⟨v, hv⟩ := Ieee.toInt_there h2 (.inl h1)
  have g1 := Ieee.toInt_gt hl.1 hl.2 h1 hv
  have g2 := Ieee.toInt_lt hh.1 hh.2 h2 hv
  refine ⟨v, ?_⟩
  unfold floatToIntVal
  have hv' : (k.decode x).toInt .zero = some v := hv
  rw [hv']
  exact if_pos ⟨by omega, by omega⟩
theorem fti_ge {k : FloatKind} {dst : IntKind} {x a b nl nh : Nat} {jl jh : Int} (ha : k.format.read a = .number true nl jl) (hb : k.format.read b = .number false nh jh) (hl : 0 ≤ jl ∧ 0 < nl) (hh : 0 ≤ jh ∧ 0 < nh)
    (h1 : k.format.order x a = some .gt ∨ k.format.order x a = some .eq) (h2 : k.format.order x b = some .lt) (hmin : dst.min ≤ -(nl * 2 ^ jl.toNat : Int)) (hmax : (nh * 2 ^ jh.toNat : Int) ≤ dst.max + 1) : ∃ n, floatToIntVal k x dst = some n := by
  rcases h1 with h1 | h1
  · exact fti_gt ha hb hl hh h1 h2 (by omega) hmax
  unfold Ieee.Format.order at h1 h2
  rw [ha] at h1
  rw [hb] at h2
  obtain ⟨v, hv⟩ := Ieee.toInt_there h2 (.inr h1)
  have g1 := Ieee.toInt_ge hl.1 hl.2 h1 hv
  have g2 := Ieee.toInt_lt hh.1 hh.2 h2 hv
  refine ⟨v, ?_⟩
  unfold floatToIntVal
  have hv' : (k.decode x).toInt .zero = some v := hv
  rw [hv']
  exact if_pos ⟨by omega, by omega⟩

theorem in_f32 {x : Nat} (h1 : (FloatKind.f32.format.order x 3405774848 == some .gt) = true) (h2 : (FloatKind.f32.format.order x 1258291200 == some .lt) = true) : ∃ n, floatToIntVal .f32 x .i32 = some n :=
  fti_gt (a := 3405774848) (b := 1258291200) (nl := 8388608) (nh := 8388608) (jl := 0) (jh := 0) rfl rfl (by decide) (by decide) (by simpa using h1) (by simpa using h2) (by decide) (by decide)
set_option maxHeartbeats 1000000 in
theorem cutf32_all (x : Nat) (hx : x < 4294967296) : ∃ r, r < 4294967296 ∧ ∀ w, Calls Tryz.prog 223 #[.float .f32 x] w fun e w' => e = .returned (.float .f32 r) ∧ w' = w := by
  cases h1 : FloatKind.f32.format.order x 3405774848 == some .gt
  · refine ⟨x, hx, fun w => ?_⟩
    go_enter Tryz.func223, Tryz.ntmps223
    go_wp2
    go_ret
    exact ⟨rfl, rfl⟩
  cases h2 : FloatKind.f32.format.order x 1258291200 == some .lt
  · refine ⟨x, hx, fun w => ?_⟩
    go_enter Tryz.func223, Tryz.ntmps223
    go_wp2
    go_ret
    exact ⟨rfl, rfl⟩
  obtain ⟨n, hn⟩ := in_f32 h1 h2
  have hcv : ∀ w, (convert 268 21 (.float .f32 x)).run Tryz.prog w = .ok (.int .i32 n) w := fun w => run_convert_float_int w 268 21 .f32 .i32 x n (by kernel_rfl) (by kernel_rfl) hn
  have hcb : ∀ w, (convert 21 268 (.int .i32 n)).run Tryz.prog w = .ok (.float .f32 (floatOfInt .f32 n)) w := fun w => run_convert_int_float w 21 268 .i32 .f32 n (by kernel_rfl) (by kernel_rfl)
  cases h3 : FloatKind.f32.format.order (floatOfInt .f32 n) 0 == some .eq
  all_goals
    apply Exists.intro
    refine ⟨?_, ?_⟩
    rotate_left 1
    · intro w
      go_enter Tryz.func223, Tryz.ntmps223
      go_wp2_with (simp only [hcv, hcb, c192, c136])
      go_ret
      exact ⟨rfl, rfl⟩
    · first | exact floatOfInt_lt_f32 _ | (have h9 := bits_u32_lt .and x 2147483648; have h8 := bits_u32_nonneg .and x 2147483648; omega)

set_option maxHeartbeats 1000000 in
theorem ceilf32_all (x : Nat) (hx : x < 4294967296) : ∃ c, 0 ≤ c ∧ c < 4294967296 ∧ ∀ w, Calls Tryz.prog 221 #[.float .f32 x] w fun e w' => ∃ r, e = .returned (.float .f32 r) ∧ can32 r = c ∧ sameWorld w w' := by
  obtain ⟨t, ht0, ht⟩ := cutf32_all x hx
  cases h1 : FloatKind.f32.format.order t x == some .lt
  · refine ⟨can32 t, (can32_range ht0).1, (can32_range ht0).2, fun w => ?_⟩
    go_enter Tryz.func221, Tryz.ntmps221
    go_wp2_with (go_at_call 223; refine (ht _).mono ?_; rintro e w' ⟨rfl, rfl⟩)
    go_ret
    exact ⟨_, rfl, rfl, sw_refl _⟩
  cases h2 : floatBits .add .f32 t 1065353216 with
  | some r =>
    have hb : ∀ w, (binOp .add 268 (.float .f32 t) (.float .f32 1065353216)).run Tryz.prog w = .ok (.float .f32 r) w := fun w => run_float_arith w .add 268 .f32 t 1065353216 r h2
    refine ⟨can32 r, (can32_range (floatBits_lt_f32 h2)).1, (can32_range (floatBits_lt_f32 h2)).2, fun w => ?_⟩
    go_enter Tryz.func221, Tryz.ntmps221
    go_wp2_with (first | (go_at_call 223; refine (ht _).mono ?_; rintro e w' ⟨rfl, rfl⟩) | simp only [hb])
    go_ret
    exact ⟨_, rfl, rfl, sw_refl _⟩
  | none =>
    have hb : ∀ w, (binOp .add 268 (.float .f32 t) (.float .f32 1065353216)).run Tryz.prog w = .ok (.float .f32 (nanAt .f32 t 1065353216 w)) w.drew := fun w => run_arith_nan .add (by decide) 268 .f32 t 1065353216 h2 w
    refine ⟨2143289344, by decide, by decide, fun w => ?_⟩
    go_enter Tryz.func221, Tryz.ntmps221
    go_wp2_with (first | (go_at_call 223; refine (ht _).mono ?_; rintro e w' ⟨rfl, rfl⟩) | simp only [hb])
    go_ret
    exact ⟨_, rfl, can32_nan (nanAt_is ..), sw_drew _⟩

set_option maxHeartbeats 1000000 in
theorem floorf32_all (x : Nat) (hx : x < 4294967296) : ∃ c, 0 ≤ c ∧ c < 4294967296 ∧ ∀ w, Calls Tryz.prog 222 #[.float .f32 x] w fun e w' => ∃ r, e = .returned (.float .f32 r) ∧ can32 r = c ∧ sameWorld w w' := by
  obtain ⟨t, ht0, ht⟩ := cutf32_all x hx
  cases h1 : FloatKind.f32.format.order t x == some .gt
  · refine ⟨can32 t, (can32_range ht0).1, (can32_range ht0).2, fun w => ?_⟩
    go_enter Tryz.func222, Tryz.ntmps222
    go_wp2_with (go_at_call 223; refine (ht _).mono ?_; rintro e w' ⟨rfl, rfl⟩)
    go_ret
    exact ⟨_, rfl, rfl, sw_refl _⟩
  cases h2 : floatBits .sub .f32 t 1065353216 with
  | some r =>
    have hb : ∀ w, (binOp .sub 268 (.float .f32 t) (.float .f32 1065353216)).run Tryz.prog w = .ok (.float .f32 r) w := fun w => run_float_arith w .sub 268 .f32 t 1065353216 r h2
    refine ⟨can32 r, (can32_range (floatBits_lt_f32 h2)).1, (can32_range (floatBits_lt_f32 h2)).2, fun w => ?_⟩
    go_enter Tryz.func222, Tryz.ntmps222
    go_wp2_with (first | (go_at_call 223; refine (ht _).mono ?_; rintro e w' ⟨rfl, rfl⟩) | simp only [hb])
    go_ret
    exact ⟨_, rfl, rfl, sw_refl _⟩
  | none =>
    have hb : ∀ w, (binOp .sub 268 (.float .f32 t) (.float .f32 1065353216)).run Tryz.prog w = .ok (.float .f32 (nanAt .f32 t 1065353216 w)) w.drew := fun w => run_arith_nan .sub (by decide) 268 .f32 t 1065353216 h2 w
    refine ⟨2143289344, by decide, by decide, fun w => ?_⟩
    go_enter Tryz.func222, Tryz.ntmps222
    go_wp2_with (first | (go_at_call 223; refine (ht _).mono ?_; rintro e w' ⟨rfl, rfl⟩) | simp only [hb])
    go_ret
    exact ⟨_, rfl, can32_nan (nanAt_is ..), sw_drew _⟩

theorem in_f64 {x : Nat} (h1 : (FloatKind.f64.format.order x 14064741636278059008 == some .gt) = true) (h2 : (FloatKind.f64.format.order x 4841369599423283200 == some .lt) = true) : ∃ n, floatToIntVal .f64 x .i64 = some n :=
  fti_gt (a := 14064741636278059008) (b := 4841369599423283200) (nl := 4503599627370496) (nh := 4503599627370496) (jl := 0) (jh := 0) rfl rfl (by decide) (by decide) (by simpa using h1) (by simpa using h2) (by decide) (by decide)
set_option maxHeartbeats 1000000 in
theorem cutf64_all (x : Nat) (hx : x < 18446744073709551616) : ∃ r, r < 18446744073709551616 ∧ ∀ w, Calls Tryz.prog 231 #[.float .f64 x] w fun e w' => e = .returned (.float .f64 r) ∧ w' = w := by
  cases h1 : FloatKind.f64.format.order x 14064741636278059008 == some .gt
  · refine ⟨x, hx, fun w => ?_⟩
    go_enter Tryz.func231, Tryz.ntmps231
    go_wp2
    go_ret
    exact ⟨rfl, rfl⟩
  cases h2 : FloatKind.f64.format.order x 4841369599423283200 == some .lt
  · refine ⟨x, hx, fun w => ?_⟩
    go_enter Tryz.func231, Tryz.ntmps231
    go_wp2
    go_ret
    exact ⟨rfl, rfl⟩
  obtain ⟨n, hn⟩ := in_f64 h1 h2
  have hcv : ∀ w, (convert 271 2 (.float .f64 x)).run Tryz.prog w = .ok (.int .i64 n) w := fun w => run_convert_float_int w 271 2 .f64 .i64 x n (by kernel_rfl) (by kernel_rfl) hn
  have hcb : ∀ w, (convert 2 271 (.int .i64 n)).run Tryz.prog w = .ok (.float .f64 (floatOfInt .f64 n)) w := fun w => run_convert_int_float w 2 271 .i64 .f64 n (by kernel_rfl) (by kernel_rfl)
  cases h3 : FloatKind.f64.format.order (floatOfInt .f64 n) 0 == some .eq
  all_goals
    apply Exists.intro
    refine ⟨?_, ?_⟩
    rotate_left 1
    · intro w
      go_enter Tryz.func231, Tryz.ntmps231
      go_wp2_with (simp only [hcv, hcb, c193, c138])
      go_ret
      exact ⟨rfl, rfl⟩
    · first | exact floatOfInt_lt_f64 _ | (have h9 := bits_u64_lt .and x 9223372036854775808; have h8 := bits_u64_nonneg .and x 9223372036854775808; omega)

set_option maxHeartbeats 1000000 in
theorem ceilf64_all (x : Nat) (hx : x < 18446744073709551616) : ∃ c, 0 ≤ c ∧ c < 18446744073709551616 ∧ ∀ w, Calls Tryz.prog 229 #[.float .f64 x] w fun e w' => ∃ r, e = .returned (.float .f64 r) ∧ can64 r = c ∧ sameWorld w w' := by
  obtain ⟨t, ht0, ht⟩ := cutf64_all x hx
  cases h1 : FloatKind.f64.format.order t x == some .lt
  · refine ⟨can64 t, (can64_range ht0).1, (can64_range ht0).2, fun w => ?_⟩
    go_enter Tryz.func229, Tryz.ntmps229
    go_wp2_with (go_at_call 231; refine (ht _).mono ?_; rintro e w' ⟨rfl, rfl⟩)
    go_ret
    exact ⟨_, rfl, rfl, sw_refl _⟩
  cases h2 : floatBits .add .f64 t 4607182418800017408 with
  | some r =>
    have hb : ∀ w, (binOp .add 271 (.float .f64 t) (.float .f64 4607182418800017408)).run Tryz.prog w = .ok (.float .f64 r) w := fun w => run_float_arith w .add 271 .f64 t 4607182418800017408 r h2
    refine ⟨can64 r, (can64_range (floatBits_lt_f64 h2)).1, (can64_range (floatBits_lt_f64 h2)).2, fun w => ?_⟩
    go_enter Tryz.func229, Tryz.ntmps229
    go_wp2_with (first | (go_at_call 231; refine (ht _).mono ?_; rintro e w' ⟨rfl, rfl⟩) | simp only [hb])
    go_ret
    exact ⟨_, rfl, rfl, sw_refl _⟩
  | none =>
    have hb : ∀ w, (binOp .add 271 (.float .f64 t) (.float .f64 4607182418800017408)).run Tryz.prog w = .ok (.float .f64 (nanAt .f64 t 4607182418800017408 w)) w.drew := fun w => run_arith_nan .add (by decide) 271 .f64 t 4607182418800017408 h2 w
    refine ⟨9221120237041090560, by decide, by decide, fun w => ?_⟩
    go_enter Tryz.func229, Tryz.ntmps229
    go_wp2_with (first | (go_at_call 231; refine (ht _).mono ?_; rintro e w' ⟨rfl, rfl⟩) | simp only [hb])
    go_ret
    exact ⟨_, rfl, can64_nan (nanAt_is ..), sw_drew _⟩

set_option maxHeartbeats 1000000 in
theorem floorf64_all (x : Nat) (hx : x < 18446744073709551616) : ∃ c, 0 ≤ c ∧ c < 18446744073709551616 ∧ ∀ w, Calls Tryz.prog 230 #[.float .f64 x] w fun e w' => ∃ r, e = .returned (.float .f64 r) ∧ can64 r = c ∧ sameWorld w w' := by
  obtain ⟨t, ht0, ht⟩ := cutf64_all x hx
  cases h1 : FloatKind.f64.format.order t x == some .gt
  · refine ⟨can64 t, (can64_range ht0).1, (can64_range ht0).2, fun w => ?_⟩
    go_enter Tryz.func230, Tryz.ntmps230
    go_wp2_with (go_at_call 231; refine (ht _).mono ?_; rintro e w' ⟨rfl, rfl⟩)
    go_ret
    exact ⟨_, rfl, rfl, sw_refl _⟩
  cases h2 : floatBits .sub .f64 t 4607182418800017408 with
  | some r =>
    have hb : ∀ w, (binOp .sub 271 (.float .f64 t) (.float .f64 4607182418800017408)).run Tryz.prog w = .ok (.float .f64 r) w := fun w => run_float_arith w .sub 271 .f64 t 4607182418800017408 r h2
    refine ⟨can64 r, (can64_range (floatBits_lt_f64 h2)).1, (can64_range (floatBits_lt_f64 h2)).2, fun w => ?_⟩
    go_enter Tryz.func230, Tryz.ntmps230
    go_wp2_with (first | (go_at_call 231; refine (ht _).mono ?_; rintro e w' ⟨rfl, rfl⟩) | simp only [hb])
    go_ret
    exact ⟨_, rfl, rfl, sw_refl _⟩
  | none =>
    have hb : ∀ w, (binOp .sub 271 (.float .f64 t) (.float .f64 4607182418800017408)).run Tryz.prog w = .ok (.float .f64 (nanAt .f64 t 4607182418800017408 w)) w.drew := fun w => run_arith_nan .sub (by decide) 271 .f64 t 4607182418800017408 h2 w
    refine ⟨9221120237041090560, by decide, by decide, fun w => ?_⟩
    go_enter Tryz.func230, Tryz.ntmps230
    go_wp2_with (first | (go_at_call 231; refine (ht _).mono ?_; rintro e w' ⟨rfl, rfl⟩) | simp only [hb])
    go_ret
    exact ⟨_, rfl, can64_nan (nanAt_is ..), sw_drew _⟩

theorem IsN.neg {k : FloatKind} {r : Nat} (h : IsN k r) : IsN k (Op.negFloat k r) := by
  obtain ⟨s, f, h⟩ := h
  unfold Op.negFloat IsN
  unfold Ieee.Format.read at h ⊢
  dsimp only at h ⊢
  have e : (r ^^^ 2 ^ (k.format.exponentBits + k.format.fractionBits)) % k.format.signWeight = r % k.format.signWeight := by
    unfold Ieee.Format.signWeight
    rw [Nat.xor_mod_two_pow, Nat.mod_self, Nat.xor_zero]
  rw [e]
  split at h
  · cases h
  · rename_i h1
    rw [if_neg h1]
    split at h
    · cases h
    · rename_i h2
      rw [if_neg h2]
      split at h
      · cases h
      · rename_i h3
        rw [if_neg h3]
        exact ⟨_, _, rfl⟩
theorem sub_nan {k : FloatKind} {r : Nat} (h : IsN k r) (y : Nat) : floatBits .sub k r y = none := by
  obtain ⟨s, f, h⟩ := h
  simp [floatBits, Ieee.Format.sub, h, Ieee.Datum.sum]

set_option maxHeartbeats 1000000 in
theorem nearf32_all (x : Nat) (hx : x < 4294967296) : ∃ c, 0 ≤ c ∧ c < 4294967296 ∧ ∀ w, Calls Tryz.prog 224 #[.float .f32 x] w fun e w' => ∃ r, e = .returned (.float .f32 r) ∧ can32 r = c ∧ sameWorld w w' := by
  cases h1 : FloatKind.f32.format.order x 3405774848 == some .gt
  · refine ⟨can32 x, (can32_range hx).1, (can32_range hx).2, fun w => ?_⟩
    go_enter Tryz.func224, Tryz.ntmps224
    go_wp2
    go_ret
    exact ⟨_, rfl, rfl, sw_refl _⟩
  cases h2 : FloatKind.f32.format.order x 1258291200 == some .lt
  · refine ⟨can32 x, (can32_range hx).1, (can32_range hx).2, fun w => ?_⟩
    go_enter Tryz.func224, Tryz.ntmps224
    go_wp2
    go_ret
    exact ⟨_, rfl, rfl, sw_refl _⟩
  cases h3 : bits .and .u32 (x : Int) 2147483648 != 0
  ·
    cases ha : floatBits .add .f32 x 1258291200 with
    | some r1 =>
      have h4 : ∀ w, (binOp .add 268 (.float .f32 x) (.float .f32 1258291200)).run Tryz.prog w = .ok (.float .f32 r1) w := fun w => run_float_arith w .add 268 .f32 x 1258291200 r1 ha
      cases hs : floatBits .sub .f32 r1 1258291200 with
      | some r2 =>
        have h5 : ∀ w, (binOp .sub 268 (.float .f32 r1) (.float .f32 1258291200)).run Tryz.prog w = .ok (.float .f32 r2) w := fun w => run_float_arith w .sub 268 .f32 r1 1258291200 r2 hs
        refine ⟨can32 (r2), (can32_range (floatBits_lt_f32 hs)).1, (can32_range (floatBits_lt_f32 hs)).2, fun w => ?_⟩
        go_enter Tryz.func224, Tryz.ntmps224
        go_wp2_with (simp only [c192, h4, h5])
        go_ret
        exact ⟨_, rfl, rfl, sw_refl _⟩
      | none =>
        have h5 : ∀ w, (binOp .sub 268 (.float .f32 r1) (.float .f32 1258291200)).run Tryz.prog w = .ok (.float .f32 (nanAt .f32 r1 1258291200 w)) w.drew := fun w => run_arith_nan .sub (by decide) 268 .f32 r1 1258291200 hs w
        refine ⟨2143289344, by decide, by decide, fun w => ?_⟩
        go_enter Tryz.func224, Tryz.ntmps224
        go_wp2_with (simp only [c192, h4, h5])
        go_ret
        exact ⟨_, rfl, can32_nan (nanAt_is ..), sw_drew _⟩
    | none =>
      have h4 : ∀ w, (binOp .add 268 (.float .f32 x) (.float .f32 1258291200)).run Tryz.prog w = .ok (.float .f32 (nanAt .f32 x 1258291200 w)) w.drew := fun w => run_arith_nan .add (by decide) 268 .f32 x 1258291200 ha w
      have h5 : ∀ w0 w, (binOp .sub 268 (.float .f32 (nanAt .f32 x 1258291200 w0)) (.float .f32 1258291200)).run Tryz.prog w = .ok (.float .f32 (nanAt .f32 (nanAt .f32 x 1258291200 w0) 1258291200 w)) w.drew := fun w0 w => run_arith_nan .sub (by decide) 268 .f32 _ 1258291200 (sub_nan (nanAt_is ..) _) w
      refine ⟨2143289344, by decide, by decide, fun w => ?_⟩
      go_enter Tryz.func224, Tryz.ntmps224
      go_wp2_with (simp only [c192, h4, h5])
      go_ret
      exact ⟨_, rfl, can32_nan (nanAt_is ..), sw_trans (sw_drew _) (sw_drew _)⟩

  ·
    cases ha : floatBits .add .f32 (Op.negFloat .f32 x) 1258291200 with
    | some r1 =>
      have h4 : ∀ w, (binOp .add 268 (.float .f32 (Op.negFloat .f32 x)) (.float .f32 1258291200)).run Tryz.prog w = .ok (.float .f32 r1) w := fun w => run_float_arith w .add 268 .f32 (Op.negFloat .f32 x) 1258291200 r1 ha
      cases hs : floatBits .sub .f32 r1 1258291200 with
      | some r2 =>
        have h5 : ∀ w, (binOp .sub 268 (.float .f32 r1) (.float .f32 1258291200)).run Tryz.prog w = .ok (.float .f32 r2) w := fun w => run_float_arith w .sub 268 .f32 r1 1258291200 r2 hs
        refine ⟨can32 (Op.negFloat .f32 r2), (can32_range (neg_lt_f32 (floatBits_lt_f32 hs))).1, (can32_range (neg_lt_f32 (floatBits_lt_f32 hs))).2, fun w => ?_⟩
        go_enter Tryz.func224, Tryz.ntmps224
        go_wp2_with (simp only [c192, h4, h5])
        go_ret
        exact ⟨_, rfl, rfl, sw_refl _⟩
      | none =>
        have h5 : ∀ w, (binOp .sub 268 (.float .f32 r1) (.float .f32 1258291200)).run Tryz.prog w = .ok (.float .f32 (nanAt .f32 r1 1258291200 w)) w.drew := fun w => run_arith_nan .sub (by decide) 268 .f32 r1 1258291200 hs w
        refine ⟨2143289344, by decide, by decide, fun w => ?_⟩
        go_enter Tryz.func224, Tryz.ntmps224
        go_wp2_with (simp only [c192, h4, h5])
        go_ret
        exact ⟨_, rfl, can32_nan (IsN.neg (nanAt_is ..)), sw_drew _⟩
    | none =>
      have h4 : ∀ w, (binOp .add 268 (.float .f32 (Op.negFloat .f32 x)) (.float .f32 1258291200)).run Tryz.prog w = .ok (.float .f32 (nanAt .f32 (Op.negFloat .f32 x) 1258291200 w)) w.drew := fun w => run_arith_nan .add (by decide) 268 .f32 (Op.negFloat .f32 x) 1258291200 ha w
      have h5 : ∀ w0 w, (binOp .sub 268 (.float .f32 (nanAt .f32 (Op.negFloat .f32 x) 1258291200 w0)) (.float .f32 1258291200)).run Tryz.prog w = .ok (.float .f32 (nanAt .f32 (nanAt .f32 (Op.negFloat .f32 x) 1258291200 w0) 1258291200 w)) w.drew := fun w0 w => run_arith_nan .sub (by decide) 268 .f32 _ 1258291200 (sub_nan (nanAt_is ..) _) w
      refine ⟨2143289344, by decide, by decide, fun w => ?_⟩
      go_enter Tryz.func224, Tryz.ntmps224
      go_wp2_with (simp only [c192, h4, h5])
      go_ret
      exact ⟨_, rfl, can32_nan (IsN.neg (nanAt_is ..)), sw_trans (sw_drew _) (sw_drew _)⟩


set_option maxHeartbeats 1000000 in
theorem nearf64_all (x : Nat) (hx : x < 18446744073709551616) : ∃ c, 0 ≤ c ∧ c < 18446744073709551616 ∧ ∀ w, Calls Tryz.prog 232 #[.float .f64 x] w fun e w' => ∃ r, e = .returned (.float .f64 r) ∧ can64 r = c ∧ sameWorld w w' := by
  cases h1 : FloatKind.f64.format.order x 14064741636278059008 == some .gt
  · refine ⟨can64 x, (can64_range hx).1, (can64_range hx).2, fun w => ?_⟩
    go_enter Tryz.func232, Tryz.ntmps232
    go_wp2
    go_ret
    exact ⟨_, rfl, rfl, sw_refl _⟩
  cases h2 : FloatKind.f64.format.order x 4841369599423283200 == some .lt
  · refine ⟨can64 x, (can64_range hx).1, (can64_range hx).2, fun w => ?_⟩
    go_enter Tryz.func232, Tryz.ntmps232
    go_wp2
    go_ret
    exact ⟨_, rfl, rfl, sw_refl _⟩
  cases h3 : bits .and .u64 (x : Int) 9223372036854775808 != 0
  ·
    cases ha : floatBits .add .f64 x 4841369599423283200 with
    | some r1 =>
      have h4 : ∀ w, (binOp .add 271 (.float .f64 x) (.float .f64 4841369599423283200)).run Tryz.prog w = .ok (.float .f64 r1) w := fun w => run_float_arith w .add 271 .f64 x 4841369599423283200 r1 ha
      cases hs : floatBits .sub .f64 r1 4841369599423283200 with
      | some r2 =>
        have h5 : ∀ w, (binOp .sub 271 (.float .f64 r1) (.float .f64 4841369599423283200)).run Tryz.prog w = .ok (.float .f64 r2) w := fun w => run_float_arith w .sub 271 .f64 r1 4841369599423283200 r2 hs
        refine ⟨can64 (r2), (can64_range (floatBits_lt_f64 hs)).1, (can64_range (floatBits_lt_f64 hs)).2, fun w => ?_⟩
        go_enter Tryz.func232, Tryz.ntmps232
        go_wp2_with (simp only [c193, h4, h5])
        go_ret
        exact ⟨_, rfl, rfl, sw_refl _⟩
      | none =>
        have h5 : ∀ w, (binOp .sub 271 (.float .f64 r1) (.float .f64 4841369599423283200)).run Tryz.prog w = .ok (.float .f64 (nanAt .f64 r1 4841369599423283200 w)) w.drew := fun w => run_arith_nan .sub (by decide) 271 .f64 r1 4841369599423283200 hs w
        refine ⟨9221120237041090560, by decide, by decide, fun w => ?_⟩
        go_enter Tryz.func232, Tryz.ntmps232
        go_wp2_with (simp only [c193, h4, h5])
        go_ret
        exact ⟨_, rfl, can64_nan (nanAt_is ..), sw_drew _⟩
    | none =>
      have h4 : ∀ w, (binOp .add 271 (.float .f64 x) (.float .f64 4841369599423283200)).run Tryz.prog w = .ok (.float .f64 (nanAt .f64 x 4841369599423283200 w)) w.drew := fun w => run_arith_nan .add (by decide) 271 .f64 x 4841369599423283200 ha w
      have h5 : ∀ w0 w, (binOp .sub 271 (.float .f64 (nanAt .f64 x 4841369599423283200 w0)) (.float .f64 4841369599423283200)).run Tryz.prog w = .ok (.float .f64 (nanAt .f64 (nanAt .f64 x 4841369599423283200 w0) 4841369599423283200 w)) w.drew := fun w0 w => run_arith_nan .sub (by decide) 271 .f64 _ 4841369599423283200 (sub_nan (nanAt_is ..) _) w
      refine ⟨9221120237041090560, by decide, by decide, fun w => ?_⟩
      go_enter Tryz.func232, Tryz.ntmps232
      go_wp2_with (simp only [c193, h4, h5])
      go_ret
      exact ⟨_, rfl, can64_nan (nanAt_is ..), sw_trans (sw_drew _) (sw_drew _)⟩

  ·
    cases ha : floatBits .add .f64 (Op.negFloat .f64 x) 4841369599423283200 with
    | some r1 =>
      have h4 : ∀ w, (binOp .add 271 (.float .f64 (Op.negFloat .f64 x)) (.float .f64 4841369599423283200)).run Tryz.prog w = .ok (.float .f64 r1) w := fun w => run_float_arith w .add 271 .f64 (Op.negFloat .f64 x) 4841369599423283200 r1 ha
      cases hs : floatBits .sub .f64 r1 4841369599423283200 with
      | some r2 =>
        have h5 : ∀ w, (binOp .sub 271 (.float .f64 r1) (.float .f64 4841369599423283200)).run Tryz.prog w = .ok (.float .f64 r2) w := fun w => run_float_arith w .sub 271 .f64 r1 4841369599423283200 r2 hs
        refine ⟨can64 (Op.negFloat .f64 r2), (can64_range (neg_lt_f64 (floatBits_lt_f64 hs))).1, (can64_range (neg_lt_f64 (floatBits_lt_f64 hs))).2, fun w => ?_⟩
        go_enter Tryz.func232, Tryz.ntmps232
        go_wp2_with (simp only [c193, h4, h5])
        go_ret
        exact ⟨_, rfl, rfl, sw_refl _⟩
      | none =>
        have h5 : ∀ w, (binOp .sub 271 (.float .f64 r1) (.float .f64 4841369599423283200)).run Tryz.prog w = .ok (.float .f64 (nanAt .f64 r1 4841369599423283200 w)) w.drew := fun w => run_arith_nan .sub (by decide) 271 .f64 r1 4841369599423283200 hs w
        refine ⟨9221120237041090560, by decide, by decide, fun w => ?_⟩
        go_enter Tryz.func232, Tryz.ntmps232
        go_wp2_with (simp only [c193, h4, h5])
        go_ret
        exact ⟨_, rfl, can64_nan (IsN.neg (nanAt_is ..)), sw_drew _⟩
    | none =>
      have h4 : ∀ w, (binOp .add 271 (.float .f64 (Op.negFloat .f64 x)) (.float .f64 4841369599423283200)).run Tryz.prog w = .ok (.float .f64 (nanAt .f64 (Op.negFloat .f64 x) 4841369599423283200 w)) w.drew := fun w => run_arith_nan .add (by decide) 271 .f64 (Op.negFloat .f64 x) 4841369599423283200 ha w
      have h5 : ∀ w0 w, (binOp .sub 271 (.float .f64 (nanAt .f64 (Op.negFloat .f64 x) 4841369599423283200 w0)) (.float .f64 4841369599423283200)).run Tryz.prog w = .ok (.float .f64 (nanAt .f64 (nanAt .f64 (Op.negFloat .f64 x) 4841369599423283200 w0) 4841369599423283200 w)) w.drew := fun w0 w => run_arith_nan .sub (by decide) 271 .f64 _ 4841369599423283200 (sub_nan (nanAt_is ..) _) w
      refine ⟨9221120237041090560, by decide, by decide, fun w => ?_⟩
      go_enter Tryz.func232, Tryz.ntmps232
      go_wp2_with (simp only [c193, h4, h5])
      go_ret
      exact ⟨_, rfl, can64_nan (IsN.neg (nanAt_is ..)), sw_trans (sw_drew _) (sw_drew _)⟩


end Go.Proofs.Qxb6500275aGreatDoor
