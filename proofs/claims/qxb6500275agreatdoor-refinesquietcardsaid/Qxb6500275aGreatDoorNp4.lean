import Derived.Test.Qxb6500275aGreatDoorNoc
set_option maxRecDepth 100000
set_option linter.unusedVariables false
set_option linter.unusedSimpArgs false
namespace Go.Proofs.Qxb6500275aGreatDoor
open Ieee
theorem rnd_lo (q r g : Nat) (h : 2 * r < g) : rnd (q * g + r) g = q := by
  have hg : 0 < g := by omega
  unfold rnd
  rw [Nat.mul_comm, Nat.mul_add_div hg, Nat.mul_add_mod, Nat.div_eq_of_lt (by omega), Nat.mod_eq_of_lt (by omega), if_neg (by omega)]
  rfl
theorem rnd_hi (q r g : Nat) (h : g < 2 * r) (h2 : r < g) : rnd (q * g + r) g = q + 1 := by
  have hg : 0 < g := by omega
  unfold rnd
  rw [Nat.mul_comm, Nat.mul_add_div hg, Nat.mul_add_mod, Nat.div_eq_of_lt (by omega), Nat.mod_eq_of_lt (by omega), if_pos (.inl (by omega))]
/- ROUNDED TWICE: far from a midpoint it is as if rounded once -/
theorem rnd_twice (q R : Nat) (hR : R < 8589934592) (h : R + 8 < 4294967296 ∨ 4294967296 + 8 < R) : rnd (rnd (q * 8589934592 + R) 16) 536870912 = rnd (q * 8589934592 + R) 8589934592 := by
  have e1 : rnd (q * 8589934592 + R) 16 = q * 536870912 + rnd R 16 := by
    have := rnd_add (q * 536870912) R 16 (by decide) (by omega)
    rw [← this, Nat.mul_assoc]
  have hr : 16 * rnd R 16 ≤ R + 8 ∧ R ≤ 16 * rnd R 16 + 8 := by
    unfold rnd
    split <;> omega
  rw [e1]
  clear e1
  generalize rnd R 16 = p at *
  rcases h with h | h
  · rw [rnd_lo q p 536870912 (by omega), rnd_lo q R 8589934592 (by omega)]
  · rw [rnd_hi q R 8589934592 (by omega) hR]
    by_cases hp : p = 536870912
    · subst hp
      have := rnd_lo (q + 1) 0 536870912 (by decide)
      rw [Nat.add_mul, Nat.one_mul, Nat.add_zero] at this
      exact this
    · exact rnd_hi q p 536870912 (by omega) (by omega)
/- a root of a number of few digits lies far from every midpoint -/
theorem root_far {N A st q R j : Nat} (hN : N = 9223372036854775808 * j) (h : Rt N A) (hst : st ≤ 1) (hB : 2 * A + st = q * 8589934592 + R) (hR : R < 8589934592) (hA : A < 72057594037927936) : R + 8 < 4294967296 ∨ 4294967296 + 8 < R := by
  refine Classical.byContradiction fun hc => ?_
  have h1 := h.lo
  have h2 := h.hi
  obtain ⟨S, T, hS, hT⟩ : ∃ S T : Nat, (2 * q + 1) * (2 * q + 1) = S ∧ S = 2 * T + 1 := by
    refine ⟨_, 2 * (q * q) + 2 * q, rfl, ?_⟩
    rw [Nat.add_mul, Nat.mul_add, Nat.one_mul, Nat.mul_one]
    have : 2 * q * (2 * q) = 4 * (q * q) := by rw [Nat.mul_mul_mul_comm]
    omega
  obtain ⟨u, hu⟩ : ∃ u : Nat, u = q * 4294967296 + 2147483648 := ⟨_, rfl⟩
  have huu : u * u = 4611686018427387904 * S := by
    rw [← hS, hu, show q * 4294967296 + 2147483648 = (2 * q + 1) * 2147483648 by omega, Nat.mul_mul_mul_comm, Nat.mul_comm]
  have hu5 : 5 ≤ u ∧ u < 144115188075855872 := by omega
  obtain ⟨d, hd, hdr⟩ : ∃ d : Nat, A + 5 = u + d ∧ d ≤ 9 := ⟨A + 5 - u, by omega, by omega⟩
  have lo : (u - 5) * (u - 5) ≤ N := Nat.le_trans (Nat.mul_le_mul (show u - 5 ≤ A by omega) (show u - 5 ≤ A by omega)) h1
  have hi : N < (u + 5) * (u + 5) := Nat.lt_of_lt_of_le h2 (Nat.mul_le_mul (by omega) (by omega))
  obtain ⟨v, rfl⟩ : ∃ v, u = v + 5 := ⟨u - 5, by omega⟩
  rw [show v + 5 - 5 = v by omega] at lo
  have e1 : (v + 5) * (v + 5) = v * v + 10 * v + 25 := by rw [Nat.add_mul, Nat.mul_add, Nat.mul_comm v 5]; omega
  have e2 : (v + 5 + 5) * (v + 5 + 5) = v * v + 20 * v + 100 := by
    rw [show v + 5 + 5 = v + 10 by omega, Nat.add_mul, Nat.mul_add, Nat.mul_comm v 10]; omega
  rw [e1] at huu
  rw [e2] at hi
  generalize v * v = w at *
  clear e1 e2 h1 h2 hS hB hd hc hu
  have hv : 10 * v + 100 < 2305843009213693952 := by omega
  subst hT hN
  rcases Nat.lt_or_ge T j with hj | hj
  · have := Nat.mul_le_mul_left 9223372036854775808 (show T + 1 ≤ j from hj)
    generalize 9223372036854775808 * j = J at *
    omega
  · have := Nat.mul_le_mul_left 9223372036854775808 hj
    generalize 9223372036854775808 * j = J at *
    omega
/- the same mantissa, lifted -/
theorem lift_same {m m1 : Nat} {a b : Nat} (h0 : m ≠ 0) (h1 : m1 ≠ 0) (h : m1 * 2 ^ a = m * 2 ^ b) : m1.log2 + a = m.log2 + b := by
  have e1 := log2_between (m := m1) (k := a) (A := m1 * 2 ^ a) h1 (Nat.le_refl _) (by rw [Nat.add_mul]; have := Nat.two_pow_pos a; omega)
  have e2 := log2_between (m := m) (k := b) (A := m * 2 ^ b) h0 (Nat.le_refl _) (by rw [Nat.add_mul]; have := Nat.two_pow_pos b; omega)
  rw [← e1, ← e2, h]
theorem liftM_same {m m1 : Nat} {a b : Nat} (h0 : m ≠ 0) (h1 : m1 ≠ 0) (l0 : m.log2 ≤ 54) (l1 : m1.log2 ≤ 54) (h : m1 * 2 ^ a = m * 2 ^ b) : m1 * 2 ^ (54 - m1.log2) = m * 2 ^ (54 - m.log2) := by
  have hl := lift_same h0 h1 h
  have hp : 0 < 2 ^ (m1.log2 + a) := Nat.two_pow_pos _
  refine Nat.eq_of_mul_eq_mul_right hp ?_
  have e1 : m1 * 2 ^ (54 - m1.log2) * 2 ^ (m1.log2 + a) = m1 * 2 ^ a * 2 ^ 54 := by
    rw [Nat.mul_assoc, Nat.mul_assoc, ← Nat.pow_add, ← Nat.pow_add, show 54 - m1.log2 + (m1.log2 + a) = a + 54 by omega]
  have e2 : m * 2 ^ (54 - m.log2) * 2 ^ (m1.log2 + a) = m * 2 ^ b * 2 ^ 54 := by
    rw [hl, Nat.mul_assoc, Nat.mul_assoc, ← Nat.pow_add, ← Nat.pow_add, show 54 - m.log2 + (m.log2 + b) = b + 54 by omega]
  rw [e1, e2, h]
/- what the root is: the mantissa and the place -/
theorem sq_form {F : Format} {bi : Nat} (hF : Fmt F bi) (can : Nat) {a m : Nat} {i : Int} (ha : a < 2 * F.signWeight) (hr : F.read a = .number false m i) (hm : m ≠ 0) :
    m.log2 ≤ 52 ∧
    softSqrt F bi can a = softRound F bi false (rootN (m * 2 ^ sqK m i * 72057594037927936)) ((i - sqK m i - 56) / 2) (decide (rootN (m * 2 ^ sqK m i * 72057594037927936) * rootN (m * 2 ^ sqK m i * 72057594037927936) ≠ m * 2 ^ sqK m i * 72057594037927936)) := by
  have h := unp_ok hF ha
  have h53 := unpS_lt53 hF (v := a)
  unfold softSqrt
  dsimp only
  generalize unpS F bi a = x at *
  obtain ⟨s, k, m', i'⟩ := x
  dsimp only at h h53 ⊢
  have h3 := h.k3
  rcases (by omega : k = 0 ∨ k = 1 ∨ k = 2 ∨ k = 3) with rfl | rfl | rfl | rfl
  · obtain ⟨⟨j, hr2⟩, _⟩ := h.z rfl
    rw [hr] at hr2
    cases hr2
    exact absurd rfl hm
  · obtain ⟨hr2, h0, _⟩ := h.f rfl
    rw [hr] at hr2
    cases hr2
    refine ⟨?_, ?_⟩
    · have := (Nat.log2_lt h0).2 (show m < 2 ^ 53 by omega)
      omega
    · rw [if_neg (by decide), if_neg (by decide), if_neg (by decide), if_neg (by decide)]
  · obtain ⟨hr2, _⟩ := h.i rfl
    rw [hr] at hr2
    cases hr2
  · obtain ⟨t, hr2⟩ := h.n rfl
    rw [hr] at hr2
    cases hr2
theorem nearest_at (F : Format) (s : Bool) {B L : Nat} {p : Int} (hB : B ≠ 0) (hL : B.log2 = L) (hf : F.fractionBits ≤ L) (hl : F.leastPlace ≤ p + (L : Int) - F.fractionBits) :
    F.nearest s B p = F.word s (min ((p + (L : Int) - F.fractionBits - F.leastPlace).toNat * 2 ^ F.fractionBits + rnd B (2 ^ (L - F.fractionBits))) F.infRung) := by
  unfold Format.nearest
  rw [if_neg hB, hL]
  dsimp only
  rw [Int.max_eq_left hl, cut_rnd, show (p - (p + (L : Int) - F.fractionBits)).toNat = 0 by omega, Nat.shiftLeft_zero, show (p + (L : Int) - (F.fractionBits : Int) - p).toNat = L - F.fractionBits by omega]
  rfl
theorem log2_in {B k : Nat} (h1 : 2 ^ k ≤ B) (h2 : B < 2 ^ (k + 1)) : B ≠ 0 ∧ B.log2 = k := by
  have h0 : B ≠ 0 := by have := Nat.two_pow_pos k; omega
  have a1 := (Nat.le_log2 (k := k) h0).2 h1
  have a2 := (Nat.log2_lt (k := k + 1) h0).2 h2
  exact ⟨h0, by omega⟩
/- rounded to a double first and then to a single -/
theorem near_twice {B : Nat} {e : Int} (h1 : 72057594037927936 ≤ B) (h2 : B + 8 < 144115188075855872) (he : -140 ≤ e ∧ e ≤ 20) (hfar : B % 8589934592 + 8 < 4294967296 ∨ 4294967296 + 8 < B % 8589934592) {s2 : Bool} {m2 : Nat} {i2 : Int}
    (hr : double.read (double.nearest false B (e - 1)) = .number s2 m2 i2) : single.nearest s2 m2 i2 = single.nearest false B (e - 1) := by
  obtain ⟨hB0, hBl⟩ := log2_in (k := 56) (show 2 ^ 56 ≤ B from h1) (show B < 2 ^ 57 by omega)
  have hD : 4503599627370496 ≤ rnd B 16 ∧ rnd B 16 < 9007199254740992 := by
    unfold rnd; split <;> omega
  obtain ⟨hD0, hDl⟩ := log2_in (k := 52) (show 2 ^ 52 ≤ rnd B 16 from hD.1) (show rnd B 16 < 2 ^ 53 from hD.2)
  have dfb : double.fractionBits = 52 := rfl
  have sfb : single.fractionBits = 23 := rfl
  have n1 := nearest_at double false (p := e - 1) hB0 hBl (by decide) (by rw [d_least, dfb]; omega)
  have n2 := nearest_at double false (p := e + 3) hD0 hDl (by decide) (by rw [d_least, dfb]; omega)
  have n3 := nearest_at single false (p := e - 1) hB0 hBl (by decide) (by rw [s_least, sfb]; omega)
  have n4 := nearest_at single false (p := e + 3) hD0 hDl (by decide) (by rw [s_least, sfb]; omega)
  have eD : double.nearest false B (e - 1) = double.nearest false (rnd B 16) (e + 3) := by
    rw [n1, n2, dfb, d_least, show 2 ^ (56 - 52) = 16 by decide, show (52 - 52 : Nat) = 0 by decide, Nat.pow_zero, rnd_one, show e - 1 + ((56 : Nat) : Int) - ((52 : Nat) : Int) = e + 3 + ((52 : Nat) : Int) - ((52 : Nat) : Int) by omega]
  have eS : single.nearest false (rnd B 16) (e + 3) = single.nearest false B (e - 1) := by
    rw [n3, n4, sfb, s_least, show 2 ^ (52 - 23) = 536870912 by decide, show 2 ^ (56 - 23) = 8589934592 by decide, show e + 3 + ((52 : Nat) : Int) - ((23 : Nat) : Int) = e - 1 + ((56 : Nat) : Int) - ((23 : Nat) : Int) by omega]
    have ht := rnd_twice (B / 8589934592) (B % 8589934592) (Nat.mod_lt _ (by decide)) hfar
    rw [show B / 8589934592 * 8589934592 + B % 8589934592 = B by omega] at ht
    rw [ht]
  obtain ⟨R, r1, r2, r3⟩ := nearest_exact fmt_double false (M := rnd B 16) (i := e + 3) (by rw [dfb]; exact hD.2) (by rw [d_least]; omega) (by rw [hDl]; omega)
  obtain ⟨m3, i3, q1, q2, q3⟩ := read_rung fmt_double false r1
  rw [eD, r2, q1] at hr
  cases hr
  rw [← eS]
  have a1 := nearest_scale single false m2 i2 (i2 - double.leastPlace).toNat
  have a2 := nearest_scale single false (rnd B 16) (e + 3) (e + 3 - double.leastPlace).toNat
  rw [d_least] at a1 a2 q2 q3 r3
  rw [show i2 - (((i2 - -1074).toNat : Nat) : Int) = -1074 by omega] at a1
  rw [show e + 3 - (((e + 3 - -1074).toNat : Nat) : Int) = -1074 by omega] at a2
  rw [← a1, ← a2, q3, r3]
theorem near_pos (F : Format) {B L : Nat} {p : Int} (hB : B ≠ 0) (hL : B.log2 = L) (hf : F.fractionBits ≤ L) (hl : F.leastPlace ≤ p + (L : Int) - F.fractionBits) (hI : 1 ≤ F.infRung) (hr : 1 ≤ rnd B (2 ^ (L - F.fractionBits))) : F.nearest false B p ≠ 0 := by
  rw [nearest_at F false hB hL hf hl]
  generalize (p + (L : Int) - F.fractionBits - F.leastPlace).toNat * 2 ^ F.fractionBits = t
  generalize rnd B (2 ^ (L - F.fractionBits)) = k at *
  generalize F.infRung = I at *
  have e : F.word false (min (t + k) I) = min (t + k) I := by unfold Format.word; rw [if_neg (by simp)]
  rw [e]
  omega
theorem near_ne {B : Nat} {e : Int} (h1 : 72057594037927936 ≤ B) (h2 : B + 8 < 144115188075855872) (he : -140 ≤ e ∧ e ≤ 20) : double.nearest false B (e - 1) ≠ 0 := by
  obtain ⟨hB00, hBl⟩ := log2_in (k := 56) (show 2 ^ 56 ≤ B from h1) (show B < 2 ^ 57 by omega)
  have dfb : double.fractionBits = 52 := rfl
  refine near_pos double hB00 hBl (by decide) (by rw [d_least, dfb]; omega) (by rw [fmt_double.inf, dfb]; decide) ?_
  rw [dfb, show 2 ^ (56 - 52) = 16 by decide]
  unfold rnd
  omega
/- THE ROOT OF A SINGLE BY WAY OF A DOUBLE -/
set_option maxHeartbeats 2000000 in
theorem sqrt_twice (can : Nat) {x m : Nat} {i : Int} (hx : x < 4294967296) (hr : single.read x = .number false m i) (hm : m ≠ 0) :
    ∃ r, double.sqrt (double.nearest false m i) = some r ∧ ∀ s2 m2 i2, double.read r = .number s2 m2 i2 → single.nearest s2 m2 i2 = softSqrt single 127 can x := by
  have hx2 : x < 2 * single.signWeight := by rw [sw_32]; exact hx
  obtain ⟨k1, k2, k3, k4⟩ := read_single hr
  have hl23 : m.log2 ≤ 23 := by
    have := (Nat.log2_lt hm).2 (show m < 2 ^ 24 by omega)
    omega
  obtain ⟨R, r1, r2, r3⟩ := nearest_exact fmt_double false (M := m) (i := i) (by show m < 2 ^ 53; omega) (by rw [d_least]; omega) (by omega)
  obtain ⟨my, iy, q1, q2, q3⟩ := read_rung fmt_double false r1
  have hsw := inf_sw fmt_double
  have hy2 : double.word false R < 2 * double.signWeight := (word_lt fmt_double false (by omega)).1
  have hmy : my ≠ 0 := by
    rintro rfl
    rw [Nat.zero_mul] at q3
    rw [← q3] at r3
    have := Nat.mul_pos (Nat.pos_of_ne_zero hm) (Nat.two_pow_pos (i - double.leastPlace).toNat)
    omega
  obtain ⟨_, fS⟩ := sq_form fmt_single can hx2 hr hm
  obtain ⟨l52, fD⟩ := sq_form fmt_double 0 hy2 q1 hmy
  have hmm : my * 2 ^ (iy - double.leastPlace).toNat = m * 2 ^ (i - double.leastPlace).toNat := by rw [q3, r3]
  rw [d_least] at hmm q2
  have hlg := lift_same hm hmy hmm
  have hlm := liftM_same hm hmy (by omega) (by omega) hmm
  have hE : liftE my iy 54 = liftE m i 54 := by unfold liftE; omega
  have hK : my * 2 ^ sqK my iy = m * 2 ^ sqK m i := by
    unfold sqK
    rw [hE, Nat.pow_add, Nat.pow_add, ← Nat.mul_assoc, ← Nat.mul_assoc, hlm]
  have hP : iy - (sqK my iy : Int) = i - (sqK m i : Int) := by
    unfold liftE at hE
    unfold sqK liftE
    rw [show iy - ((54 - my.log2 : Nat) : Int) = i - ((54 - m.log2 : Nat) : Int) from hE]
    split <;> omega
  rw [hK, hP] at fD
  -- the radicand
  have hKb : 54 - m.log2 ≤ sqK m i ∧ sqK m i ≤ 54 - m.log2 + 1 := by unfold sqK; split <;> omega
  have hlo : 2 ^ m.log2 ≤ m := Nat.log2_self_le hm
  have hhi : m < 2 ^ (m.log2 + 1) := Nat.lt_log2_self
  obtain ⟨M, hM⟩ : ∃ M, m * 2 ^ sqK m i = M := ⟨_, rfl⟩
  rw [hM] at fS fD
  have hM1 : 18014398509481984 ≤ M := by
    rw [← hM]
    calc 18014398509481984 = 2 ^ m.log2 * 2 ^ (54 - m.log2) := by rw [← Nat.pow_add, show m.log2 + (54 - m.log2) = 54 by omega]
      _ ≤ m * 2 ^ sqK m i := Nat.mul_le_mul hlo (Nat.pow_le_pow_right (by decide) hKb.1)
  have hM2 : M + 4294967296 ≤ 72057594037927936 := by
    by_cases hp : sqK m i = 54 - m.log2
    · have : M < 36028797018963968 := by
        rw [← hM, hp]
        calc m * 2 ^ (54 - m.log2) < 2 ^ (m.log2 + 1) * 2 ^ (54 - m.log2) := Nat.mul_lt_mul_of_pos_right hhi (Nat.two_pow_pos _)
          _ = 36028797018963968 := by rw [← Nat.pow_add, show m.log2 + 1 + (54 - m.log2) = 55 by omega]
      omega
    · have hp2 : sqK m i = (23 - m.log2) + 32 := by omega
      have hlt : m * 2 ^ (23 - m.log2) < 16777216 := by
        calc m * 2 ^ (23 - m.log2) < 2 ^ (m.log2 + 1) * 2 ^ (23 - m.log2) := Nat.mul_lt_mul_of_pos_right hhi (Nat.two_pow_pos _)
          _ = 16777216 := by rw [← Nat.pow_add, show m.log2 + 1 + (23 - m.log2) = 24 by omega]
      rw [← hM, hp2, Nat.pow_add, ← Nat.mul_assoc]
      generalize m * 2 ^ (23 - m.log2) = t at *
      omega
  obtain ⟨j, hj⟩ : ∃ j, M * 72057594037927936 = 9223372036854775808 * j := by
    refine ⟨m * 2 ^ (sqK m i - 31) * 2 ^ 24, ?_⟩
    rw [← hM]
    have : 2 ^ sqK m i = 2 ^ (sqK m i - 31) * 2 ^ 31 := by rw [← Nat.pow_add]; congr 1; omega
    rw [this, ← Nat.mul_assoc]
    generalize m * 2 ^ (sqK m i - 31) = t
    omega
  have hRt := rootN_rt (M * 72057594037927936)
  obtain ⟨A, hA⟩ : ∃ A, rootN (M * 72057594037927936) = A := ⟨_, rfl⟩
  rw [hA] at fS fD hRt
  have hA1 : 36028797018963968 ≤ A := hRt.ge (by omega)
  have hA2 : A < 72057591890444288 := hRt.lt (by omega)
  obtain ⟨e, he⟩ : ∃ e : Int, (i - (sqK m i : Int) - 56) / 2 = e := ⟨_, rfl⟩
  rw [he] at fS fD
  have heb : -140 ≤ e ∧ e ≤ 20 := by omega
  obtain ⟨st, hst⟩ : ∃ st : Bool, decide (A * A ≠ M * 72057594037927936) = st := ⟨_, rfl⟩
  rw [hst] at fS fD
  rw [soft_mark fmt_single false st (by omega)] at fS
  rw [soft_mark fmt_double false st (by omega)] at fD
  obtain ⟨B, hBv, hB0⟩ : ∃ B, 2 * A + (if st = true then 1 else 0) = B ∧ B ≤ 2 * A + 1 := ⟨_, rfl, by split <;> omega⟩
  have hB1 : 2 * A ≤ B := by rw [← hBv]; omega
  rw [hBv] at fS fD
  have hfar := root_far (N := M * 72057594037927936) (A := A) (st := B - 2 * A) (q := B / 8589934592) (R := B % 8589934592) (j := j) hj hRt (by omega) (by omega) (Nat.mod_lt _ (by decide)) (by omega)
  rw [soft_sqrt fmt_double 0 hy2] at fD
  rw [r2]
  have hne := near_ne (B := B) (e := e) (by omega) (by omega) heb
  cases hs : double.sqrt (double.word false R) with
  | none =>
    rw [hs] at fD
    exact absurd fD.symm hne
  | some r =>
    rw [hs] at fD
    have fD' : r = double.nearest false B (e - 1) := fD
    refine ⟨r, rfl, fun s2 m2 i2 h2 => ?_⟩
    rw [fD'] at h2
    rw [near_twice (by omega) (by omega) heb hfar h2, fS]
end Go.Proofs.Qxb6500275aGreatDoor
