import Derived.Test.Qxb6500275aGreatDoorFl9
set_option linter.unusedVariables false
set_option linter.unusedSimpArgs false
namespace Go.Proofs.Qxb6500275aGreatDoor
open Ieee
/- QUOTIENTS -/
def softDiv (F : Format) (bi can a b : Nat) : Nat :=
  let x := unpS F bi a
  let y := unpS F bi b
  if x.2.1 = 2 then (if y.2.1 = 2 then can else F.word (x.1 ^^ y.1) F.infRung)
  else if y.2.1 = 2 then F.word (x.1 ^^ y.1) 0
  else if y.2.1 = 0 then (if x.2.1 = 0 then can else F.word (x.1 ^^ y.1) F.infRung)
  else if x.2.1 = 0 then F.word (x.1 ^^ y.1) 0
  else softRound F bi (x.1 ^^ y.1) (liftM x.2.2.1 62 * 9223372036854775808 / liftM y.2.2.1 62) (liftE x.2.2.1 x.2.2.2 62 - liftE y.2.2.1 y.2.2.2 62 - 63) (decide (liftM x.2.2.1 62 * 9223372036854775808 % liftM y.2.2.1 62 ≠ 0))
/- a quotient with its mark, cut off: the shorter quotient with its mark -/
theorem shr_quo (D n j : Nat) (hn : 0 < n) : shr (2 * (D * 2 ^ j / n) + (if D * 2 ^ j % n = 0 then 0 else 1)) j = 2 * (D / n) + (if D % n = 0 then 0 else 1) := by
  have hj : 0 < 2 ^ j := Nat.two_pow_pos j
  obtain ⟨st, hst, hs⟩ : ∃ st, (if D * 2 ^ j % n = 0 then 0 else 1) = st ∧ (st = 0 ∧ D * 2 ^ j % n = 0 ∨ st = 1 ∧ D * 2 ^ j % n ≠ 0) := by
    by_cases h0 : D * 2 ^ j % n = 0
    · exact ⟨0, by rw [if_pos h0], .inl ⟨rfl, h0⟩⟩
    · exact ⟨1, by rw [if_neg h0], .inr ⟨rfl, h0⟩⟩
  rw [hst]
  have eq1 : (2 * (D * 2 ^ j / n) + st) / 2 ^ (j + 1) = D / n := by
    rw [show 2 ^ (j + 1) = 2 * 2 ^ j by rw [Nat.pow_succ, Nat.mul_comm], ← Nat.div_div_eq_div_mul]
    rw [show (2 * (D * 2 ^ j / n) + st) / 2 = D * 2 ^ j / n by omega]
    rw [Nat.div_div_eq_div_mul, Nat.mul_comm n, Nat.mul_comm D, Nat.mul_div_mul_left _ _ hj]
  unfold shr
  rw [eq1]
  congr 1
  have key : (2 * (D * 2 ^ j / n) + st) % 2 ^ (j + 1) = 0 ↔ D % n = 0 := by
    rw [show 2 ^ (j + 1) = 2 * 2 ^ j by rw [Nat.pow_succ, Nat.mul_comm], Nat.mod_mul]
    rw [show (2 * (D * 2 ^ j / n) + st) / 2 = D * 2 ^ j / n by omega, show (2 * (D * 2 ^ j / n) + st) % 2 = st by omega]
    constructor
    · intro h
      have s0 : st = 0 := by omega
      have q0 : D * 2 ^ j / n % 2 ^ j = 0 := by omega
      have r0 : D * 2 ^ j % n = 0 := by omega
      obtain ⟨c, hc⟩ := Nat.dvd_of_mod_eq_zero q0
      have hdm := Nat.div_add_mod (D * 2 ^ j) n
      rw [r0, hc, Nat.add_zero, Nat.mul_left_comm, Nat.mul_comm D] at hdm
      have := Nat.eq_of_mul_eq_mul_left hj hdm
      rw [← this]
      exact Nat.mul_mod_right n c
    · intro h
      obtain ⟨c, hc⟩ := Nat.dvd_of_mod_eq_zero h
      subst hc
      have e1 : n * c * 2 ^ j = n * (c * 2 ^ j) := Nat.mul_assoc _ _ _
      have r0 : n * c * 2 ^ j % n = 0 := by rw [e1]; exact Nat.mul_mod_right _ _
      have q0 : n * c * 2 ^ j / n = c * 2 ^ j := by rw [e1, Nat.mul_div_cancel_left _ hn]
      rw [q0, Nat.mul_mod_left]
      have : st = 0 := by omega
      omega
  by_cases h0 : D % n = 0
  · rw [if_pos h0, if_pos (key.2 h0)]
  · rw [if_neg h0, if_neg (fun e => h0 (key.1 e))]
theorem shr_half (B j : Nat) : shr B j / 2 = B / 2 ^ (j + 1) := by
  unfold shr
  split <;> omega
section
variable {F : Format} {bi : Nat}
theorem soft_div (hF : Fmt F bi) (can : Nat) {a b : Nat} (ha : a < 2 * F.signWeight) (hb : b < 2 * F.signWeight) (na : (unpS F bi a).2.1 ≠ 3) (nb : (unpS F bi b).2.1 ≠ 3) : softDiv F bi can a b = (F.div a b).getD can := by
  have ua := unp_ok hF ha
  have ub := unp_ok hF hb
  unfold softDiv Format.div
  dsimp only
  generalize unpS F bi a = x at *
  generalize unpS F bi b = y at *
  obtain ⟨s, k, m, i⟩ := x
  obtain ⟨t, l, n, j⟩ := y
  dsimp only at ua ub na nb ⊢
  have hfb := hF.fb
  have k3 := ua.k3
  have l3 := ub.k3
  rcases (by omega : k = 0 ∨ k = 1 ∨ k = 2) with rfl | rfl | rfl <;> rcases (by omega : l = 0 ∨ l = 1 ∨ l = 2) with rfl | rfl | rfl
  · obtain ⟨⟨p, r1⟩, w1⟩ := ua.z rfl
    obtain ⟨⟨q, r2⟩, w2⟩ := ub.z rfl
    simp [r1, r2, Datum.quotient]
  · obtain ⟨⟨p, r1⟩, w1⟩ := ua.z rfl
    obtain ⟨r2, n0, nl, nw, w2⟩ := ub.f rfl
    simp [r1, r2, Datum.quotient, Format.write, nearest_zero, n0]
  · obtain ⟨⟨p, r1⟩, w1⟩ := ua.z rfl
    obtain ⟨r2, w2⟩ := ub.i rfl
    simp [r1, r2, Datum.quotient, Format.write, nearest_zero]
  · obtain ⟨r1, m0, ml, mw, w1⟩ := ua.f rfl
    obtain ⟨⟨q, r2⟩, w2⟩ := ub.z rfl
    simp [r1, r2, Datum.quotient, Format.write, m0]
  · obtain ⟨r1, m0, ml, mw, w1⟩ := ua.f rfl
    obtain ⟨r2, n0, nl, nw, w2⟩ := ub.f rfl
    rw [if_neg (by omega), if_neg (by omega), if_neg (by omega), if_neg (by omega), r1, r2]
    simp only [Datum.quotient, if_neg n0, Option.map_some, Option.getD_some, Format.write]
    have hl1 := log52 m0 ml hfb.2
    have hl2 := log52 n0 nl hfb.2
    have hml : m.log2 ≤ F.fractionBits := by have := (Nat.log2_lt m0).2 ml; omega
    have b1 := liftM_bd (at_ := 62) m0 (by omega)
    have b2 := liftM_bd (at_ := 62) n0 (by omega)
    have hnp : 0 < n := Nat.pos_of_ne_zero n0
    have hNp : 0 < liftM n 62 := by omega
    -- the long quotient
    have hq1 : 9007199254740992 ≤ liftM m 62 * 9223372036854775808 / liftM n 62 := by
      rw [Nat.le_div_iff_mul_le hNp]; omega
    have hq2 : liftM m 62 * 9223372036854775808 / liftM n 62 < 18446744073709551616 := by
      rw [Nat.div_lt_iff_lt_mul hNp]; omega
    rw [soft_mark hF _ _ ⟨hq1, hq2⟩]
    obtain ⟨more, hmore⟩ : ∃ x, F.fractionBits + 2 + n.log2 - m.log2 = x := ⟨_, rfl⟩
    rw [hmore, Nat.shiftLeft_eq]
    have eD : liftM m 62 * 9223372036854775808 = m * 2 ^ more * 2 ^ (61 - F.fractionBits) * 2 ^ (62 - n.log2) := by
      unfold liftM
      rw [show (9223372036854775808 : Nat) = 2 ^ 63 by decide, Nat.mul_assoc m, Nat.mul_assoc m, Nat.mul_assoc m, ← Nat.pow_add, ← Nat.pow_add, ← Nat.pow_add]
      congr 2
      omega
    have eN : liftM n 62 = n * 2 ^ (62 - n.log2) := rfl
    have hp : 0 < 2 ^ (62 - n.log2) := Nat.two_pow_pos _
    have eQ : liftM m 62 * 9223372036854775808 / liftM n 62 = m * 2 ^ more * 2 ^ (61 - F.fractionBits) / n := by rw [eD, eN, Nat.mul_div_mul_right _ _ hp]
    have eR : liftM m 62 * 9223372036854775808 % liftM n 62 = 0 ↔ m * 2 ^ more * 2 ^ (61 - F.fractionBits) % n = 0 := by
      rw [eD, eN, Nat.mul_mod_mul_right]
      constructor
      · intro h
        rcases Nat.mul_eq_zero.1 h with h | h
        · exact h
        · omega
      · intro h
        rw [h, Nat.zero_mul]
    have eS : (if decide (liftM m 62 * 9223372036854775808 % liftM n 62 ≠ 0) = true then 1 else 0) = (if m * 2 ^ more * 2 ^ (61 - F.fractionBits) % n = 0 then 0 else 1) := by
      by_cases h0 : m * 2 ^ more * 2 ^ (61 - F.fractionBits) % n = 0
      · rw [if_pos h0, if_neg (by simp [eR.2 h0])]
      · rw [if_neg h0, if_pos (by simpa using fun e => h0 (eR.1 e))]
    rw [eQ, eS]
    have hsh := shr_quo (m * 2 ^ more) n (61 - F.fractionBits) hnp
    have eA : 2 * (m * 2 ^ more / n) + (m * 2 ^ more % n != 0).toNat = 2 * (m * 2 ^ more / n) + (if m * 2 ^ more % n = 0 then 0 else 1) := by
      congr 1
      by_cases h0 : m * 2 ^ more % n = 0
      · rw [if_pos h0]; simp [h0]
      · rw [if_neg h0]; simp [h0]
    rw [eA, ← hsh, nearest_shr]
    · congr 1
      unfold liftE
      omega
    · have h3 : (2 * (m * 2 ^ more * 2 ^ (61 - F.fractionBits) / n) + (if m * 2 ^ more * 2 ^ (61 - F.fractionBits) % n = 0 then 0 else 1)) / 2 ^ (61 - F.fractionBits + 1) = m * 2 ^ more / n := by
        rw [← shr_half, hsh]
        split <;> omega
      rw [h3, Nat.le_div_iff_mul_le hnp]
      have a1 : 2 ^ m.log2 ≤ m := Nat.log2_self_le m0
      have a2 : n < 2 ^ (n.log2 + 1) := Nat.lt_log2_self
      have a3 : 2 ^ (F.fractionBits + 1) * n ≤ 2 ^ (F.fractionBits + 1) * 2 ^ (n.log2 + 1) := Nat.mul_le_mul_left _ (by omega)
      have a4 : 2 ^ m.log2 * 2 ^ more ≤ m * 2 ^ more := Nat.mul_le_mul_right _ a1
      rw [← Nat.pow_add] at a3 a4
      rw [show F.fractionBits + 1 + (n.log2 + 1) = m.log2 + more by omega] at a3
      omega
  · obtain ⟨r1, m0, ml, mw, w1⟩ := ua.f rfl
    obtain ⟨r2, w2⟩ := ub.i rfl
    simp [r1, r2, Datum.quotient, Format.write, nearest_zero]
  · obtain ⟨r1, w1⟩ := ua.i rfl
    obtain ⟨⟨q, r2⟩, w2⟩ := ub.z rfl
    simp [r1, r2, Datum.quotient, Format.write]
  · obtain ⟨r1, w1⟩ := ua.i rfl
    obtain ⟨r2, n0, nl, nw, w2⟩ := ub.f rfl
    simp [r1, r2, Datum.quotient, Format.write]
  · obtain ⟨r1, w1⟩ := ua.i rfl
    obtain ⟨r2, w2⟩ := ub.i rfl
    simp [r1, r2, Datum.quotient]
end
end Go.Proofs.Qxb6500275aGreatDoor
