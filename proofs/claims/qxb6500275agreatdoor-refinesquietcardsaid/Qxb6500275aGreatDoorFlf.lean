import Derived.Test.Qxb6500275aGreatDoorFle
set_option linter.unusedVariables false
set_option linter.unusedSimpArgs false
namespace Go.Proofs.Qxb6500275aGreatDoor
open Ieee
section
variable {F : Format} {bi : Nat}
/- CEIL 2, FLOOR 3, TRUNC 4, NEAREST 5: the whole number that a number (of magnitude val, in units of the least place; g units are one) goes to -/
def wholeN (k : Nat) (s : Bool) (val g : Nat) : Nat :=
  if k = 5 then rnd val g else val / g + (if (k = 2 ∧ s = false ∨ k = 3 ∧ s = true) ∧ val % g ≠ 0 then 1 else 0)
def softWhole (F : Format) (bi can k v : Nat) : Nat :=
  if exB F v = 2 * bi + 1 ∧ frB F v ≠ 0 then can
  else if bi + F.fractionBits ≤ exB F v ∨ v % F.signWeight = 0 then v
  else F.word (sgB F v) (rungI F bi (wholeN k (sgB F v) (rgV F (v % F.signWeight)) (2 ^ (bi + F.fractionBits - 1))))
/- the same, as the model of the numbers computes it -/
def wholeC (F : Format) (bi can k v : Nat) : Nat :=
  let fb := F.fractionBits
  let s := sgB F v
  let body := v % F.signWeight
  let E := body / 2 ^ fb
  if F.infRung < body then can
  else if bi + fb ≤ E ∨ body = 0 then v
  else if E < bi then (if k = 2 ∧ s = false ∨ k = 3 ∧ s = true ∨ k = 5 ∧ (bi - 1) * 2 ^ fb < body then F.word s (bi * 2 ^ fb) else F.word s 0)
  else
    let unit := 2 ^ (fb - (E - bi))
    let frac := body % unit
    if frac = 0 then v
    else
      let base := body - frac
      if (if k = 5 then unit / 2 < frac ∨ frac = unit / 2 ∧ (E = bi ∨ base / unit % 2 = 1) else k = 2 ∧ s = false ∨ k = 3 ∧ s = true) then F.word s (base + unit) else F.word s base
theorem rgV_big {F : Format} {E fr : Nat} (hE : 1 ≤ E) (hf : fr < 2 ^ F.fractionBits) : rgV F (E * 2 ^ F.fractionBits + fr) = (2 ^ F.fractionBits + fr) * 2 ^ (E - 1) := by
  have hP0 : 0 < 2 ^ F.fractionBits := Nat.two_pow_pos _
  unfold rgV
  rw [Nat.mul_comm, Nat.mul_add_div hP0, Nat.div_eq_of_lt hf, Nat.add_zero, if_neg (by omega), Nat.mul_add_mod, Nat.mod_eq_of_lt hf]
/- a rung's value at or above one, cut to a whole number -/
theorem val_split {F : Format} {bi E fr : Nat} (hb : 1 ≤ bi) (h1 : bi ≤ E) (h2 : E < bi + F.fractionBits) (hf : fr < 2 ^ F.fractionBits) :
    rgV F (E * 2 ^ F.fractionBits + fr) / 2 ^ (bi + F.fractionBits - 1) = (2 ^ F.fractionBits + fr) / 2 ^ (F.fractionBits - (E - bi)) ∧
    rgV F (E * 2 ^ F.fractionBits + fr) % 2 ^ (bi + F.fractionBits - 1) = (2 ^ F.fractionBits + fr) % 2 ^ (F.fractionBits - (E - bi)) * 2 ^ (E - 1) ∧
    2 ^ (bi + F.fractionBits - 1) = 2 ^ (F.fractionBits - (E - bi)) * 2 ^ (E - 1) := by
  have e : 2 ^ (bi + F.fractionBits - 1) = 2 ^ (F.fractionBits - (E - bi)) * 2 ^ (E - 1) := by rw [← Nat.pow_add]; congr 1; omega
  rw [rgV_big (by omega) hf, e, Nat.mul_div_mul_right _ _ (Nat.two_pow_pos _), Nat.mul_mod_mul_right]
  exact ⟨rfl, rfl, rfl⟩
theorem whole_code (hF : Fmt F bi) (hbig : F.fractionBits + 2 ≤ bi) (can k : Nat) {v : Nat} (hv : v < 2 * F.signWeight) (hk : 2 ≤ k ∧ k ≤ 5) : wholeC F bi can k v = softWhole F bi can k v := by
  have hb := hF.b1
  have hP0 : 0 < 2 ^ F.fractionBits := Nat.two_pow_pos _
  have hel := hF.ex_lt v
  have hfl := Fmt.fr_lt F v
  have hmod : exB F v * 2 ^ F.fractionBits + frB F v = v % F.signWeight := by
    unfold exB frB; rw [Nat.mul_comm]; exact Nat.div_add_mod _ _
  unfold wholeC softWhole
  dsimp only
  rw [show v % F.signWeight / 2 ^ F.fractionBits = exB F v from rfl]
  have hn : (F.infRung < v % F.signWeight) ↔ (exB F v = 2 * bi + 1 ∧ frB F v ≠ 0) := by
    rw [hF.inf, ← hmod]
    constructor
    · intro h
      have : ¬ exB F v < 2 * bi + 1 := fun e => by
        have : (exB F v + 1) * 2 ^ F.fractionBits ≤ (2 * bi + 1) * 2 ^ F.fractionBits := Nat.mul_le_mul_right _ (by omega)
        rw [Nat.add_mul] at this
        omega
      have h2 : exB F v = 2 * bi + 1 := by omega
      rw [h2] at h
      exact ⟨h2, by omega⟩
    · rintro ⟨h2, h3⟩
      rw [h2]; omega
  by_cases c0 : F.infRung < v % F.signWeight
  · rw [if_pos c0, if_pos (hn.1 c0)]
  rw [if_neg c0, if_neg (fun e => c0 (hn.2 e))]
  by_cases c1 : bi + F.fractionBits ≤ exB F v ∨ v % F.signWeight = 0
  · rw [if_pos c1, if_pos c1]
  rw [if_neg c1, if_neg c1]
  have c2 : exB F v < bi + F.fractionBits := by omega
  have c3 : v % F.signWeight ≠ 0 := by omega
  have hwb := word_back hF hv
  rw [hmod] at hwb
  generalize hs : sgB F v = s at *
  by_cases c4 : exB F v < bi
  · rw [if_pos c4]
    -- below one
    have hone : rgV F (bi * 2 ^ F.fractionBits + 0) = 2 ^ (bi + F.fractionBits - 1) := by
      rw [rgV_big (by omega) (by omega), Nat.add_zero, ← Nat.pow_add]; congr 1; omega
    have hlt : rgV F (v % F.signWeight) < 2 ^ (bi + F.fractionBits - 1) := by
      rw [← hone, rgV_lt, ← hmod]
      have : (exB F v + 1) * 2 ^ F.fractionBits ≤ bi * 2 ^ F.fractionBits := Nat.mul_le_mul_right _ (by omega)
      rw [Nat.add_mul] at this
      omega
    have hpos : 0 < rgV F (v % F.signWeight) := by
      have := rgV_mono F (a := 0) (b := v % F.signWeight) (by omega)
      rw [rgV_zero] at this; exact this
    have hhalf : (2 ^ (bi + F.fractionBits - 1) < 2 * rgV F (v % F.signWeight)) ↔ ((bi - 1) * 2 ^ F.fractionBits < v % F.signWeight) := by
      rw [← rgV_lt F (a := (bi - 1) * 2 ^ F.fractionBits)]
      · have : rgV F ((bi - 1) * 2 ^ F.fractionBits + 0) = 2 ^ (bi + F.fractionBits - 1) / 2 := by
          rw [rgV_big (by omega) (by omega), Nat.add_zero, ← Nat.pow_add, show bi + F.fractionBits - 1 = (F.fractionBits + (bi - 1 - 1)) + 1 by omega, Nat.pow_succ, Nat.mul_div_cancel _ (by decide)]
        rw [Nat.add_zero] at this
        rw [this]
        have e2 : 2 ^ (bi + F.fractionBits - 1) = 2 * 2 ^ (bi + F.fractionBits - 2) := by
          rw [show bi + F.fractionBits - 1 = (bi + F.fractionBits - 2) + 1 by omega, Nat.pow_succ, Nat.mul_comm]
        omega
    have hr1 : rungI F bi 1 = bi * 2 ^ F.fractionBits := by
      rw [rungI_at (k := 0) (by decide) (by decide) (by omega)]
      simp
    have hr0 : rungI F bi 0 = 0 := by unfold rungI; rw [if_pos rfl]
    unfold wholeN
    generalize 2 ^ (bi + F.fractionBits - 1) = g at *
    generalize hval : rgV F (v % F.signWeight) = val at *
    have hq : val / g = 0 := Nat.div_eq_of_lt hlt
    have hr : val % g = val := Nat.mod_eq_of_lt hlt
    by_cases c5 : k = 5
    · rw [if_pos c5]
      unfold rnd
      rw [hq, hr]
      by_cases c6 : g < 2 * val
      · rw [if_pos (.inr (.inr ⟨c5, hhalf.1 c6⟩)), if_pos (.inl c6), Nat.zero_add, hr1]
      · rw [if_neg (by rintro (⟨e, _⟩ | ⟨e, _⟩ | ⟨_, e⟩); omega; omega; exact c6 (hhalf.2 e)), if_neg (by omega), hr0]
    · rw [if_neg c5, hq, hr]
      by_cases c6 : k = 2 ∧ s = false ∨ k = 3 ∧ s = true
      · rw [if_pos (by rcases c6 with c6 | c6; exact .inl c6; exact .inr (.inl c6)), if_pos ⟨c6, by omega⟩, Nat.zero_add, hr1]
      · rw [if_neg (by rintro (e | e | ⟨e, _⟩); exact c6 (.inl e); exact c6 (.inr e); exact c5 e), if_neg (fun e => c6 e.1), hr0]
  · rw [if_neg c4]
    obtain ⟨s1, s2, s3⟩ := val_split (F := F) (bi := bi) (E := exB F v) (fr := frB F v) hb (by omega) c2 hfl
    rw [hmod] at s1 s2
    obtain ⟨x, hx⟩ : ∃ x, exB F v - bi = x := ⟨_, rfl⟩
    have hx2 : x < F.fractionBits := by omega
    have hE : exB F v = bi + x := by omega
    rw [hx] at s1 s2 s3 ⊢
    have hu : 2 ^ F.fractionBits = 2 ^ x * 2 ^ (F.fractionBits - x) := by rw [← Nat.pow_add]; congr 1; omega
    have hu2 : 2 ^ (F.fractionBits - x) = 2 * 2 ^ (F.fractionBits - x - 1) := by
      rw [show F.fractionBits - x = (F.fractionBits - x - 1) + 1 by omega, Nat.pow_succ, Nat.mul_comm]; congr 1
    have hup : 0 < 2 ^ (F.fractionBits - x) := Nat.two_pow_pos _
    have hh0 : 0 < 2 ^ (F.fractionBits - x - 1) := Nat.two_pow_pos _
    -- the fraction
    have hfr : v % F.signWeight % 2 ^ (F.fractionBits - x) = (2 ^ F.fractionBits + frB F v) % 2 ^ (F.fractionBits - x) := by
      rw [← hmod, hu, ← Nat.mul_assoc, Nat.mul_add_mod_self_right, Nat.mul_add_mod_self_right]
    rw [hfr]
    have hq1 : 2 ^ x ≤ (2 ^ F.fractionBits + frB F v) / 2 ^ (F.fractionBits - x) := by
      rw [Nat.le_div_iff_mul_le hup, ← hu]; omega
    have hq2 : (2 ^ F.fractionBits + frB F v) / 2 ^ (F.fractionBits - x) < 2 ^ (x + 1) := by
      rw [Nat.div_lt_iff_lt_mul hup, Nat.pow_succ, Nat.mul_right_comm, ← hu]; omega
    have hdm := Nat.div_add_mod (2 ^ F.fractionBits + frB F v) (2 ^ (F.fractionBits - x))
    have hrl := Nat.mod_lt (2 ^ F.fractionBits + frB F v) hup
    have hbody : v % F.signWeight = (bi + x) * 2 ^ F.fractionBits + frB F v := by rw [← hmod, hE]
    have hi1 := rungI_at (F := F) (bi := bi) hq1 (Nat.le_of_lt hq2) (by omega)
    have hi2 := rungI_at (F := F) (bi := bi) (q := (2 ^ F.fractionBits + frB F v) / 2 ^ (F.fractionBits - x) + 1) (k := x) (by omega) (by omega) (by omega)
    unfold wholeN rnd
    rw [s1, s2, s3]
    have hE1 : 0 < 2 ^ (exB F v - 1) := Nat.two_pow_pos _
    have t1 : ∀ r : Nat, (2 ^ (F.fractionBits - x) * 2 ^ (exB F v - 1) < 2 * (r * 2 ^ (exB F v - 1))) ↔ (2 ^ (F.fractionBits - x) < 2 * r) := fun r => by
      rw [← Nat.mul_assoc]; exact Nat.mul_lt_mul_right hE1
    have t2 : ∀ r : Nat, (2 ^ (F.fractionBits - x) * 2 ^ (exB F v - 1) = 2 * (r * 2 ^ (exB F v - 1))) ↔ (2 ^ (F.fractionBits - x) = 2 * r) := fun r => by
      rw [← Nat.mul_assoc]; exact Nat.mul_left_inj (by omega)
    have t3 : ∀ r : Nat, (r * 2 ^ (exB F v - 1) ≠ 0) ↔ (r ≠ 0) := fun r => by
      constructor
      · intro h e; rw [e, Nat.zero_mul] at h; exact h rfl
      · intro h e; have := Nat.mul_pos (Nat.pos_of_ne_zero h) hE1; omega
    simp only [t1, t2, t3]
    -- parity
    have hpar : (exB F v = bi ∨ (v % F.signWeight - (2 ^ F.fractionBits + frB F v) % 2 ^ (F.fractionBits - x)) / 2 ^ (F.fractionBits - x) % 2 = 1) ↔ ((2 ^ F.fractionBits + frB F v) / 2 ^ (F.fractionBits - x) % 2 = 1) := by
      have e1 : v % F.signWeight - (2 ^ F.fractionBits + frB F v) % 2 ^ (F.fractionBits - x) = ((bi + x) * 2 ^ x + (2 ^ F.fractionBits + frB F v) / 2 ^ (F.fractionBits - x) - 2 ^ x) * 2 ^ (F.fractionBits - x) := by
        rw [Nat.sub_mul, Nat.add_mul, Nat.mul_assoc, ← hu, hbody, Nat.mul_comm ((2 ^ F.fractionBits + frB F v) / 2 ^ (F.fractionBits - x))]
        omega
      rw [e1, Nat.mul_div_cancel _ hup]
      generalize (2 ^ F.fractionBits + frB F v) / 2 ^ (F.fractionBits - x) = q at hq1 hq2 ⊢
      by_cases hx0 : x = 0
      · subst hx0
        have : q = 1 := by simp at hq1 hq2; omega
        subst this
        exact ⟨fun _ => rfl, fun _ => .inl (by omega)⟩
      · have ev : 2 ^ x = 2 * 2 ^ (x - 1) := by rw [Nat.mul_comm, ← Nat.pow_succ]; congr 1; omega
        have : ((bi + x) * 2 ^ x + q - 2 ^ x) % 2 = q % 2 := by
          rw [ev, ← Nat.mul_assoc, Nat.mul_comm (bi + x) 2, Nat.mul_assoc]
          rw [ev] at hq1
          generalize (bi + x) * 2 ^ (x - 1) = Z
          omega
        rw [this]
        constructor
        · rintro (e | e)
          · omega
          · exact e
        · exact .inr
    generalize hbase : v % F.signWeight - (2 ^ F.fractionBits + frB F v) % 2 ^ (F.fractionBits - x) = base at *
    have hpos2 : 2 ^ F.fractionBits ≤ 2 ^ F.fractionBits + frB F v := by omega
    have hqu : 2 ^ F.fractionBits ≤ (2 ^ F.fractionBits + frB F v) / 2 ^ (F.fractionBits - x) * 2 ^ (F.fractionBits - x) := by rw [hu] at hq1 ⊢; exact Nat.mul_le_mul_right _ hq1
    have g1 : rungI F bi ((2 ^ F.fractionBits + frB F v) / 2 ^ (F.fractionBits - x)) = base := by
      rw [hi1, ← hbase, hbody]
      rw [Nat.mul_comm] at hdm
      omega
    have g2 : rungI F bi ((2 ^ F.fractionBits + frB F v) / 2 ^ (F.fractionBits - x) + 1) = base + 2 ^ (F.fractionBits - x) := by
      rw [hi2, ← hbase, hbody, Nat.add_mul _ 1, Nat.one_mul]
      rw [Nat.mul_comm] at hdm
      omega
    generalize hr : (2 ^ F.fractionBits + frB F v) % 2 ^ (F.fractionBits - x) = r at *
    generalize hqq : (2 ^ F.fractionBits + frB F v) / 2 ^ (F.fractionBits - x) = q at *
    generalize 2 ^ (F.fractionBits - x - 1) = h at *
    by_cases c5 : r = 0
    · rw [if_pos c5]
      have : v = F.word s (rungI F bi q) := by rw [g1, ← hbase, c5, Nat.sub_zero, hwb]
      rw [if_neg (show ¬ ((k = 2 ∧ s = false ∨ k = 3 ∧ s = true) ∧ r ≠ 0) from fun e => e.2 c5), if_neg (show ¬ (2 ^ (F.fractionBits - x) < 2 * r ∨ 2 ^ (F.fractionBits - x) = 2 * r ∧ q % 2 = 1) by rw [c5]; omega)]
      simp only [Nat.add_zero, ite_self]
      exact this
    · rw [if_neg c5]
      by_cases c6 : k = 5
      · simp only [if_pos c6, hu2]
        have u1 : 2 * h / 2 = h := Nat.mul_div_cancel_left _ (by decide)
        rw [u1]
        have u2 : (h < r ∨ r = h ∧ (exB F v = bi ∨ base / (2 * h) % 2 = 1)) ↔ (2 * h < 2 * r ∨ 2 * h = 2 * r ∧ q % 2 = 1) := by
          rw [← hu2, hpar]; omega
        by_cases c7 : 2 * h < 2 * r ∨ 2 * h = 2 * r ∧ q % 2 = 1
        · rw [if_pos (u2.2 c7), if_pos c7, g2, hu2]
        · rw [if_neg (fun e => c7 (u2.1 e)), if_neg c7, Nat.add_zero, g1]
      · simp only [if_neg c6]
        by_cases c7 : k = 2 ∧ s = false ∨ k = 3 ∧ s = true
        · rw [if_pos c7, if_pos ⟨c7, c5⟩, g2]
        · rw [if_neg c7, if_neg (fun e => c7 e.1), Nat.add_zero, g1]
end
end Go.Proofs.Qxb6500275aGreatDoor
