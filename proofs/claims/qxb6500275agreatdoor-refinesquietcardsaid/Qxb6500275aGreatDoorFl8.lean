import Derived.Test.Qxb6500275aGreatDoorFl7
set_option linter.unusedVariables false
set_option linter.unusedSimpArgs false
namespace Go.Proofs.Qxb6500275aGreatDoor
open Ieee
/- add, as the model has it: neither is a NaN -/
def addLift (F : Format) (bi : Nat) (na nb : Bool) (ma mb : Nat) (ea eb : Int) : Nat :=
  if ea < eb ∨ (ea = eb ∧ ma < mb) then addCore F bi nb na mb ma eb (eb - ea).toNat else addCore F bi na nb ma mb ea (ea - eb).toNat
def softAdd (F : Format) (bi can a b : Nat) : Nat :=
  let x := unpS F bi a
  let y := unpS F bi b
  if x.2.1 = 2 then (if y.2.1 = 2 ∧ x.1 ≠ y.1 then can else a)
  else if y.2.1 = 2 then b
  else if x.2.1 = 0 then (if y.2.1 = 0 then F.word (x.1 && y.1) 0 else b)
  else if y.2.1 = 0 then a
  else addLift F bi x.1 y.1 (liftM x.2.2.1 61) (liftM y.2.2.1 61) (liftE x.2.2.1 x.2.2.2 61) (liftE y.2.2.1 y.2.2.2 61)
section
variable {F : Format} {bi : Nat}
theorem lift_512 {m : Nat} (hm : m ≠ 0) (hl : m.log2 ≤ 52) : liftM m 61 % 512 = 0 := by
  unfold liftM
  rw [show 61 - m.log2 = (52 - m.log2) + 9 by omega, Nat.pow_add, ← Nat.mul_assoc]
  exact Nat.mul_mod_left _ _
theorem log52 {m fb : Nat} (hm : m ≠ 0) (h : m < 2 ^ (fb + 1)) (hf : fb ≤ 52) : m.log2 ≤ 52 := by
  have := (Nat.log2_lt hm).2 h
  omega
theorem nearest_zero (F : Format) (neg : Bool) (p : Int) : F.nearest neg 0 p = F.word neg 0 := by unfold Format.nearest; rw [if_pos rfl]
theorem soft_add (hF : Fmt F bi) (can : Nat) {a b : Nat} (ha : a < 2 * F.signWeight) (hb : b < 2 * F.signWeight) (na : (unpS F bi a).2.1 ≠ 3) (nb : (unpS F bi b).2.1 ≠ 3) : softAdd F bi can a b = (F.add a b).getD can := by
  have ua := unp_ok hF ha
  have ub := unp_ok hF hb
  unfold softAdd Format.add
  dsimp only
  generalize unpS F bi a = x at *
  generalize unpS F bi b = y at *
  obtain ⟨s, k, m, i⟩ := x
  obtain ⟨t, l, n, j⟩ := y
  dsimp only at ua ub na nb ⊢
  have hfb := hF.fb
  by_cases k2 : k = 2
  · rw [if_pos k2]
    obtain ⟨r1, w1⟩ := ua.i k2
    rw [r1]
    by_cases l2 : l = 2
    · obtain ⟨r2, w2⟩ := ub.i l2
      rw [r2]
      by_cases hs : s = t
      · rw [if_neg (fun e => e.2 hs)]
        simp only [Datum.sum, if_pos hs, Option.map_some, Option.getD_some, Format.write]
        exact w1.symm
      · rw [if_pos ⟨l2, hs⟩]
        simp only [Datum.sum, if_neg hs, Option.map_none, Option.getD_none]
    · rw [if_neg (fun e => l2 e.1)]
      have : ∃ q p, F.read b = .number t q p := by
        by_cases l0 : l = 0
        · obtain ⟨⟨p, r2⟩, _⟩ := ub.z l0
          exact ⟨0, p, r2⟩
        · exact ⟨n, j, (ub.f (by have := ub.k3; omega)).1⟩
      obtain ⟨q, p, r2⟩ := this
      rw [r2]
      simp only [Datum.sum, Option.map_some, Option.getD_some, Format.write]
      exact w1.symm
  rw [if_neg k2]
  by_cases l2 : l = 2
  · rw [if_pos l2]
    obtain ⟨r2, w2⟩ := ub.i l2
    have : ∃ q p, F.read a = .number s q p := by
      by_cases k0 : k = 0
      · obtain ⟨⟨p, r1⟩, _⟩ := ua.z k0
        exact ⟨0, p, r1⟩
      · exact ⟨m, i, (ua.f (by have := ua.k3; omega)).1⟩
    obtain ⟨q, p, r1⟩ := this
    rw [r1, r2]
    simp only [Datum.sum, Option.map_some, Option.getD_some, Format.write]
    exact w2.symm
  rw [if_neg l2]
  by_cases k0 : k = 0
  · rw [if_pos k0]
    obtain ⟨⟨p, r1⟩, w1⟩ := ua.z k0
    rw [r1]
    by_cases l0 : l = 0
    · rw [if_pos l0]
      obtain ⟨⟨q, r2⟩, w2⟩ := ub.z l0
      rw [r2, sum_at F s t 0 0 p q (min p q) (by omega) (by omega), Option.getD_some]
      unfold totW tot
      simp [nearest_zero]
    · rw [if_neg l0]
      obtain ⟨r2, n0, nl, nw, w2⟩ := ub.f (by have := ub.k3; omega)
      rw [r2, sum_at F s t 0 n p j (min p j) (by omega) (by omega), Option.getD_some]
      have e1 : tot s t (0 * 2 ^ (p - min p j).toNat) (n * 2 ^ (j - min p j).toNat) = tot s t (0 * 2 ^ (j - min p j).toNat) (n * 2 ^ (j - min p j).toNat) := by simp
      rw [e1, show min p j = j - ((j - min p j).toNat : Int) by omega, show (j - (j - ((j - min p j).toNat : Int))).toNat = (j - min p j).toNat by omega, totW_scale]
      have h2 : totW F s t (tot s t 0 n) j = F.nearest t n j := by
        unfold totW tot
        cases s <;> cases t <;> simp <;> (first | rw [if_neg n0] | skip) <;> (try omega) <;> congr 1 <;> simp <;> omega
      rw [h2, nw, w2]
  rw [if_neg k0]
  obtain ⟨r1, m0, ml, mw, w1⟩ := ua.f (by have := ua.k3; omega)
  rw [r1]
  by_cases l0 : l = 0
  · rw [if_pos l0]
    obtain ⟨⟨q, r2⟩, w2⟩ := ub.z l0
    rw [r2, sum_at F s t m 0 i q (min i q) (by omega) (by omega), Option.getD_some]
    have e1 : tot s t (m * 2 ^ (i - min i q).toNat) (0 * 2 ^ (q - min i q).toNat) = tot s t (m * 2 ^ (i - min i q).toNat) (0 * 2 ^ (i - min i q).toNat) := by simp
    rw [e1, show min i q = i - ((i - min i q).toNat : Int) by omega, show (i - (i - ((i - min i q).toNat : Int))).toNat = (i - min i q).toNat by omega, totW_scale]
    have h2 : totW F s t (tot s t m 0) i = F.nearest s m i := by
      unfold totW tot
      cases s <;> cases t <;> simp <;> (first | rw [if_neg m0] | skip) <;> (try omega) <;> congr 1 <;> simp <;> omega
    rw [h2, mw, w1]
  rw [if_neg l0]
  obtain ⟨r2, n0, nl, nw, w2⟩ := ub.f (by have := ub.k3; omega)
  have hl1 := log52 m0 ml hfb.2
  have hl2 := log52 n0 nl hfb.2
  have b1 := liftM_bd (at_ := 61) m0 (by omega)
  have b2 := liftM_bd (at_ := 61) n0 (by omega)
  have d1 := lift_512 m0 hl1
  have d2 := lift_512 n0 hl2
  rw [r2]
  unfold addLift
  by_cases hsw : liftE m i 61 < liftE n j 61 ∨ (liftE m i 61 = liftE n j 61 ∧ liftM m 61 < liftM n 61)
  · rw [if_pos hsw, core_tot hF t s (by omega) (by omega) d1 (fun e => by omega)]
    have hle : liftE m i 61 ≤ liftE n j 61 := by omega
    have v1 := lift_val (m := m) (at_ := 61) (e := i) (Int.le_refl (liftE m i 61))
    have v2 := lift_val (m := n) (at_ := 61) (e := j) hle
    rw [Int.sub_self, Int.toNat_zero, Nat.pow_zero, Nat.mul_one] at v1
    have hi : liftE m i 61 ≤ i := by unfold liftE; omega
    have hj : liftE m i 61 ≤ j := by unfold liftE at hle ⊢; omega
    rw [sum_at F s t m n i j (liftE m i 61) hi hj, Option.getD_some, ← v1, ← v2, totW_comm, tot_comm]
    congr 1
    omega
  · rw [if_neg hsw, core_tot hF s t (by omega) (by omega) d2 (fun e => by omega)]
    have hle : liftE n j 61 ≤ liftE m i 61 := by omega
    have v1 := lift_val (m := n) (at_ := 61) (e := j) (Int.le_refl (liftE n j 61))
    have v2 := lift_val (m := m) (at_ := 61) (e := i) hle
    rw [Int.sub_self, Int.toNat_zero, Nat.pow_zero, Nat.mul_one] at v1
    have hj : liftE n j 61 ≤ j := by unfold liftE; omega
    have hi : liftE n j 61 ≤ i := by unfold liftE at hle ⊢; omega
    rw [sum_at F s t m n i j (liftE n j 61) hi hj, Option.getD_some, ← v1, ← v2]
    congr 1
    omega
end
end Go.Proofs.Qxb6500275aGreatDoor
