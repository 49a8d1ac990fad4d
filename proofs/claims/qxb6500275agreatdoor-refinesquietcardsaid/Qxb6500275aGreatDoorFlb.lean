import Derived.Test.Qxb6500275aGreatDoorFla
set_option linter.unusedVariables false
set_option linter.unusedSimpArgs false
namespace Go.Proofs.Qxb6500275aGreatDoor
open Ieee
/- the whole root -/
structure Rt (n r : Nat) : Prop where
  lo : r * r ≤ n
  hi : n < (r + 1) * (r + 1)
theorem Rt.uniq {n r q : Nat} (h : Rt n r) (g : Rt n q) : r = q := by
  rcases Nat.lt_trichotomy r q with hc | hc | hc
  · have : (r + 1) * (r + 1) ≤ q * q := Nat.mul_le_mul hc hc
    have := h.hi; have := g.lo; omega
  · exact hc
  · have : (q + 1) * (q + 1) ≤ r * r := Nat.mul_le_mul hc hc
    have := g.hi; have := h.lo; omega
theorem rootFrom_ok (n : Nat) : ∀ (todo root : Nat), root * root ≤ n → n < (root + 2 ^ todo) * (root + 2 ^ todo) → Rt n (Datum.rootFrom n todo root)
  | 0, root, h1, h2 => by
    unfold Datum.rootFrom
    exact ⟨h1, by simpa using h2⟩
  | todo + 1, root, h1, h2 => by
    unfold Datum.rootFrom
    dsimp only
    have e : root + 1 <<< todo = root + 2 ^ todo := by rw [Nat.shiftLeft_eq, Nat.one_mul]
    rw [e]
    by_cases hc : (root + 2 ^ todo) * (root + 2 ^ todo) ≤ n
    · rw [if_pos hc]
      refine rootFrom_ok n todo _ hc ?_
      rw [show root + 2 ^ todo + 2 ^ todo = root + 2 ^ (todo + 1) by rw [Nat.pow_succ]; omega]
      exact h2
    · rw [if_neg hc]
      exact rootFrom_ok n todo _ h1 (by omega)
theorem rootFrom_rt (n : Nat) : Rt n (Datum.rootFrom n (n.log2 / 2 + 1) 0) := by
  refine rootFrom_ok n _ _ (by simp) ?_
  rw [Nat.zero_add, ← Nat.pow_add]
  have h1 : n < 2 ^ (n.log2 + 1) := Nat.lt_log2_self
  have h2 : 2 ^ (n.log2 + 1) ≤ 2 ^ (n.log2 / 2 + 1 + (n.log2 / 2 + 1)) := Nat.pow_le_pow_right (by decide) (by omega)
  omega
/- a longer root, cut off -/
theorem Rt.shift {n r j : Nat} (h : Rt (n * (2 ^ j * 2 ^ j)) r) : Rt n (r / 2 ^ j) := by
  have hj : 0 < 2 ^ j := Nat.two_pow_pos j
  have hdm := Nat.div_add_mod r (2 ^ j)
  have hr := Nat.mod_lt r hj
  generalize r / 2 ^ j = q at *
  generalize r % 2 ^ j = t at *
  generalize 2 ^ j = J at *
  subst hdm
  have hJJ : 0 < J * J := Nat.mul_pos hj hj
  constructor
  · have h1 : q * q * (J * J) ≤ n * (J * J) := by
      have : (J * q) * (J * q) ≤ (J * q + t) * (J * q + t) := Nat.mul_le_mul (by omega) (by omega)
      have e : q * q * (J * J) = (J * q) * (J * q) := by rw [Nat.mul_comm J q, Nat.mul_mul_mul_comm]
      have := h.lo
      omega
    exact Nat.le_of_mul_le_mul_right h1 hJJ
  · have h1 : n * (J * J) < (q + 1) * (q + 1) * (J * J) := by
      have h2 : (J * q + t + 1) * (J * q + t + 1) ≤ (J * (q + 1)) * (J * (q + 1)) := by
        have : J * q + t + 1 ≤ J * (q + 1) := by rw [Nat.mul_add]; omega
        exact Nat.mul_le_mul this this
      have e : (q + 1) * (q + 1) * (J * J) = (J * (q + 1)) * (J * (q + 1)) := by rw [Nat.mul_comm J (q + 1), Nat.mul_mul_mul_comm]
      have := h.hi
      omega
    exact Nat.lt_of_mul_lt_mul_right h1
theorem shr_root {n r j : Nat} (h : Rt (n * (2 ^ j * 2 ^ j)) r) : shr (2 * r + (if r * r = n * (2 ^ j * 2 ^ j) then 0 else 1)) j = 2 * (r / 2 ^ j) + (if r / 2 ^ j * (r / 2 ^ j) = n then 0 else 1) := by
  have hj : 0 < 2 ^ j := Nat.two_pow_pos j
  obtain ⟨st, hst, hs⟩ : ∃ st, (if r * r = n * (2 ^ j * 2 ^ j) then 0 else 1) = st ∧ (st = 0 ∧ r * r = n * (2 ^ j * 2 ^ j) ∨ st = 1 ∧ r * r ≠ n * (2 ^ j * 2 ^ j)) := by
    by_cases h0 : r * r = n * (2 ^ j * 2 ^ j)
    · exact ⟨0, by rw [if_pos h0], .inl ⟨rfl, h0⟩⟩
    · exact ⟨1, by rw [if_neg h0], .inr ⟨rfl, h0⟩⟩
  rw [hst]
  unfold shr
  rw [show 2 ^ (j + 1) = 2 * 2 ^ j by rw [Nat.pow_succ, Nat.mul_comm], ← Nat.div_div_eq_div_mul, Nat.mod_mul]
  rw [show (2 * r + st) / 2 = r by omega, show (2 * r + st) % 2 = st by omega]
  congr 1
  have key : (st + 2 * (r % 2 ^ j) = 0) ↔ (r / 2 ^ j * (r / 2 ^ j) = n) := by
    have hdm := Nat.div_add_mod r (2 ^ j)
    have hrt := h.shift
    have hJJ : 0 < 2 ^ j * 2 ^ j := Nat.mul_pos hj hj
    constructor
    · intro e
      have e0 : r % 2 ^ j = 0 := by omega
      have e1 : r * r = n * (2 ^ j * 2 ^ j) := by omega
      rw [e0, Nat.add_zero] at hdm
      have e2 : r / 2 ^ j * (r / 2 ^ j) * (2 ^ j * 2 ^ j) = n * (2 ^ j * 2 ^ j) := by
        rw [← e1, Nat.mul_mul_mul_comm, Nat.mul_comm (r / 2 ^ j) (2 ^ j), hdm]
      exact Nat.eq_of_mul_eq_mul_right hJJ e2
    · intro e
      have e2 : (r / 2 ^ j * 2 ^ j) * (r / 2 ^ j * 2 ^ j) = n * (2 ^ j * 2 ^ j) := by rw [← Nat.mul_mul_mul_comm, e]
      have h2 : Rt (n * (2 ^ j * 2 ^ j)) (r / 2 ^ j * 2 ^ j) := ⟨by omega, by rw [← e2]; exact Nat.mul_lt_mul'' (by omega) (by omega)⟩
      have h3 := h.uniq h2
      have h4 : r * r = n * (2 ^ j * 2 ^ j) := by rw [← e2, ← h3]
      have h5 : r % 2 ^ j = 0 := by
        rw [Nat.mul_comm (r / 2 ^ j)] at h3
        omega
      omega
  by_cases h0 : r / 2 ^ j * (r / 2 ^ j) = n
  · rw [if_pos h0, if_pos (by have := key.2 h0; omega)]
  · rw [if_neg h0, if_neg (fun e => h0 (key.1 (by omega)))]
theorem Rt.ge {n r q : Nat} (h : Rt n r) (hq : q * q ≤ n) : q ≤ r := by
  refine Nat.le_of_not_lt fun hlt => ?_
  have : (r + 1) * (r + 1) ≤ q * q := Nat.mul_le_mul hlt hlt
  have := h.hi
  omega
theorem Rt.lt {n r q : Nat} (h : Rt n r) (hq : n < q * q) : r < q := by
  refine Nat.lt_of_not_le fun hle => ?_
  have : q * q ≤ r * r := Nat.mul_le_mul hle hle
  have := h.lo
  omega
def rootN (n : Nat) : Nat := Datum.rootFrom n (n.log2 / 2 + 1) 0
theorem rootN_rt (n : Nat) : Rt n (rootN n) := rootFrom_rt n
/- SQUARE ROOTS -/
def sqK (m : Nat) (i : Int) : Nat := (54 - m.log2) + (if liftE m i 54 % 2 = 0 then 0 else 1)
def softSqrt (F : Format) (bi can a : Nat) : Nat :=
  let x := unpS F bi a
  if x.2.1 = 3 then can
  else if x.2.1 = 0 then a
  else if x.1 = true then can
  else if x.2.1 = 2 then a
  else softRound F bi false (rootN (x.2.2.1 * 2 ^ sqK x.2.2.1 x.2.2.2 * 72057594037927936)) ((x.2.2.2 - sqK x.2.2.1 x.2.2.2 - 56) / 2) (decide (rootN (x.2.2.1 * 2 ^ sqK x.2.2.1 x.2.2.2 * 72057594037927936) * rootN (x.2.2.1 * 2 ^ sqK x.2.2.1 x.2.2.2 * 72057594037927936) ≠ x.2.2.1 * 2 ^ sqK x.2.2.1 x.2.2.2 * 72057594037927936))
section
variable {F : Format} {bi : Nat}
set_option maxHeartbeats 1000000 in
theorem soft_sqrt (hF : Fmt F bi) (can : Nat) {a : Nat} (ha : a < 2 * F.signWeight) : softSqrt F bi can a = (F.sqrt a).getD can := by
  have ua := unp_ok hF ha
  unfold softSqrt Format.sqrt
  dsimp only
  generalize unpS F bi a = x at *
  obtain ⟨s, k, m, i⟩ := x
  dsimp only at ua ⊢
  have hfb := hF.fb
  have k3 := ua.k3
  rcases (by omega : k = 0 ∨ k = 1 ∨ k = 2 ∨ k = 3) with rfl | rfl | rfl | rfl
  · obtain ⟨⟨p, r1⟩, w1⟩ := ua.z rfl
    simp [r1, Datum.root, Format.write, nearest_zero, w1]
  · obtain ⟨r1, m0, ml, mw, w1⟩ := ua.f rfl
    rw [if_neg (by omega), if_neg (by omega), r1]
    cases s with
    | true => simp [Datum.root, m0]
    | false =>
      rw [if_neg (by simp), if_neg (by omega)]
      simp only [Datum.root, if_neg m0, Bool.false_eq_true, if_false, Option.map_some, Option.getD_some, Format.write]
      have hl1 := log52 m0 ml hfb.2
      have hml : m.log2 ≤ F.fractionBits := by have := (Nat.log2_lt m0).2 ml; omega
      have a1 : 2 ^ m.log2 ≤ m := Nat.log2_self_le m0
      have a2 : m < 2 ^ (m.log2 + 1) := Nat.lt_log2_self
      obtain ⟨K, hK, hK2⟩ : ∃ K, sqK m i = K ∧ (K = 54 - m.log2 ∨ K = 55 - m.log2) ∧ (i - (K : Int)) % 2 = 0 := by
        refine ⟨_, rfl, ?_, ?_⟩
        · unfold sqK
          split <;> omega
        · unfold sqK liftE
          split <;> omega
      rw [hK]
      obtain ⟨more, hmore, hm1, hm2⟩ : ∃ x, 2 * (F.fractionBits + 2) - m.log2 + ((i - ((2 * (F.fractionBits + 2) - m.log2 : Nat) : Int)) % 2).toNat = x ∧ (x = 2 * (F.fractionBits + 2) - m.log2 ∨ x = 2 * (F.fractionBits + 2) - m.log2 + 1) ∧ (i - (x : Int)) % 2 = 0 := ⟨_, rfl, by omega, by omega⟩
      rw [hmore, Nat.shiftLeft_eq]
      obtain ⟨j, hj⟩ : ∃ j, K + 56 = more + (j + j) := ⟨(K + 56 - more) / 2, by omega⟩
      have eN : m * 2 ^ K * 72057594037927936 = m * 2 ^ more * (2 ^ j * 2 ^ j) := by
        rw [show (72057594037927936 : Nat) = 2 ^ 56 by decide, Nat.mul_assoc m, Nat.mul_assoc m, ← Nat.pow_add, ← Nat.pow_add, ← Nat.pow_add, hj]
      rw [eN]
      have hrt := rootN_rt (m * 2 ^ more * (2 ^ j * 2 ^ j))
      have hsm : 2 ^ (m.log2 + (K + 56)) ≤ m * 2 ^ more * (2 ^ j * 2 ^ j) ∧ m * 2 ^ more * (2 ^ j * 2 ^ j) < 2 ^ (m.log2 + 1 + (K + 56)) := by
        have e5 : m * 2 ^ more * (2 ^ j * 2 ^ j) = m * 2 ^ (K + 56) := by rw [Nat.mul_assoc m, ← Nat.pow_add, ← Nat.pow_add, ← hj]
        have z0 : 0 < 2 ^ (K + 56) := Nat.two_pow_pos _
        rw [e5, Nat.pow_add 2 m.log2 (K + 56), Nat.pow_add 2 (m.log2 + 1) (K + 56)]
        generalize 2 ^ (K + 56) = Z at z0
        exact ⟨Nat.mul_le_mul_right _ a1, Nat.mul_lt_mul_of_pos_right a2 z0⟩
      have hlo : 2 ^ 110 ≤ m * 2 ^ more * (2 ^ j * 2 ^ j) := Nat.le_trans (Nat.pow_le_pow_right (by decide) (by omega)) hsm.1
      have hhi : m * 2 ^ more * (2 ^ j * 2 ^ j) < 2 ^ 112 := Nat.lt_of_lt_of_le hsm.2 (Nat.pow_le_pow_right (by decide) (by omega))
      have hw := hrt.shift
      have hw2 : Datum.rootFrom (m * 2 ^ more) ((m * 2 ^ more).log2 / 2 + 1) 0 = rootN (m * 2 ^ more * (2 ^ j * 2 ^ j)) / 2 ^ j := (rootFrom_rt (m * 2 ^ more)).uniq hw
      rw [hw2]
      have hsh := shr_root hrt
      have g1 : 36028797018963968 ≤ rootN (m * 2 ^ more * (2 ^ j * 2 ^ j)) := hrt.ge (Nat.le_trans (by simp) hlo)
      have g2 : rootN (m * 2 ^ more * (2 ^ j * 2 ^ j)) < 72057594037927936 := hrt.lt (Nat.lt_of_lt_of_le hhi (by simp))
      rw [soft_mark hF _ _ (by omega)]
      have eS : (if decide (rootN (m * 2 ^ more * (2 ^ j * 2 ^ j)) * rootN (m * 2 ^ more * (2 ^ j * 2 ^ j)) ≠ m * 2 ^ more * (2 ^ j * 2 ^ j)) = true then 1 else 0) = (if rootN (m * 2 ^ more * (2 ^ j * 2 ^ j)) * rootN (m * 2 ^ more * (2 ^ j * 2 ^ j)) = m * 2 ^ more * (2 ^ j * 2 ^ j) then 0 else 1) := by
        by_cases h0 : rootN (m * 2 ^ more * (2 ^ j * 2 ^ j)) * rootN (m * 2 ^ more * (2 ^ j * 2 ^ j)) = m * 2 ^ more * (2 ^ j * 2 ^ j)
        · rw [if_pos h0, if_neg (by simp [h0])]
        · rw [if_neg h0, if_pos (by simpa using h0)]
      rw [eS]
      have hbig : 2 ^ (F.fractionBits + 1) ≤ rootN (m * 2 ^ more * (2 ^ j * 2 ^ j)) / 2 ^ j := by
        refine hw.ge ?_
        have h5 : 2 ^ (m.log2 + more) ≤ m * 2 ^ more := by rw [Nat.pow_add]; exact Nat.mul_le_mul_right _ a1
        have h6 : 2 ^ (F.fractionBits + 1) * 2 ^ (F.fractionBits + 1) ≤ 2 ^ (m.log2 + more) := by
          rw [← Nat.pow_add]
          exact Nat.pow_le_pow_right (by decide) (by omega)
        omega
      generalize rootN (m * 2 ^ more * (2 ^ j * 2 ^ j)) = r at *
      have eA : 2 * (r / 2 ^ j) + (r / 2 ^ j * (r / 2 ^ j) != m * 2 ^ more).toNat = 2 * (r / 2 ^ j) + (if r / 2 ^ j * (r / 2 ^ j) = m * 2 ^ more then 0 else 1) := by
        congr 1
        by_cases h0 : r / 2 ^ j * (r / 2 ^ j) = m * 2 ^ more
        · rw [if_pos h0]; simp [h0]
        · rw [if_neg h0]; simp [h0]
      rw [eA, ← hsh, nearest_shr]
      · congr 1
        omega
      · rw [← shr_half, hsh]
        revert hbig
        split <;> omega
  · obtain ⟨r1, w1⟩ := ua.i rfl
    rw [r1]
    cases s with
    | true => simp [Datum.root]
    | false => simpa [Datum.root, Format.write] using w1.symm
  · obtain ⟨t, r1⟩ := ua.n rfl
    simp [r1, Datum.root]
end
end Go.Proofs.Qxb6500275aGreatDoor
