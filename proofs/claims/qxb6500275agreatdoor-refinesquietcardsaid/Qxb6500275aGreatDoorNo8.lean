import Derived.Test.Qxb6500275aGreatDoorNo7
set_option maxRecDepth 100000
set_option linter.unusedVariables false
set_option linter.unusedSimpArgs false
namespace Go.Proofs.Qxb6500275aGreatDoor
open Ieee
/- the comparisons by IEEE's order -/
def cmpO (F : Format) (k a b : Nat) : Bool := if k = 0 then (F.order a b == some .eq) else if k = 1 then (F.order a b != some .eq) else if k = 2 then (F.order a b == some .lt) else if k = 3 then (F.order a b == some .gt) else if k = 4 then (F.order a b == some .lt || F.order a b == some .eq) else (F.order a b == some .gt || F.order a b == some .eq)
section
variable {F : Format} {bi : Nat}
theorem keyZ (hF : Fmt F bi) {v : Nat} (hv : v < 2 * F.signWeight) : ((keyN F (if zerB F v = true then 0 else v) : Nat) : Int) = sgR F v + F.signWeight - (if sgR F v < 0 then 1 else 0) := by
  have hs0 := hF.sw0
  unfold zerB
  by_cases h0 : v % F.signWeight = 0
  · rw [if_pos (decide_eq_true h0)]
    have : sgR F v = 0 := by unfold sgR; rw [h0]; split <;> rfl
    rw [this]
    unfold keyN
    rw [if_neg (by omega), if_neg (by omega)]
    omega
  · rw [if_neg (by simpa using h0)]
    unfold keyN sgR sgB
    by_cases hc : F.signWeight ≤ v
    · have hm : v % F.signWeight = v - F.signWeight := by rw [Nat.mod_eq_sub_mod hc, Nat.mod_eq_of_lt (by omega)]
      rw [if_pos hc, decide_eq_true hc, if_pos rfl, if_pos (by omega), hm]
      omega
    · have hm : v % F.signWeight = v := Nat.mod_eq_of_lt (by omega)
      rw [if_neg hc, decide_eq_false hc, if_neg (by simp), if_neg (by omega), hm]
      omega
theorem cmp_soft (hF : Fmt F bi) {k a b : Nat} (hk : k < 6) (ha : a < 2 * F.signWeight) (hb : b < 2 * F.signWeight) : cmpM F k a b = cmpO F k a b := by
  unfold cmpM
  by_cases na : nanB F a = true
  · rw [if_pos na]
    have h := order_nan hF ha ((nan_isN hF).1 na) b
    unfold cmpO
    rw [h]
    rcases (by omega : k = 0 ∨ k = 1 ∨ k = 2 ∨ k = 3 ∨ k = 4 ∨ k = 5) with rfl | rfl | rfl | rfl | rfl | rfl <;> rfl
  rw [if_neg na]
  by_cases nb : nanB F b = true
  · rw [if_pos nb]
    have h := order_nan2 hF hb ((nan_isN hF).1 nb) a
    unfold cmpO
    rw [h]
    rcases (by omega : k = 0 ∨ k = 1 ∨ k = 2 ∨ k = 3 ∨ k = 4 ∨ k = 5) with rfl | rfl | rfl | rfl | rfl | rfl <;> rfl
  rw [if_neg nb]
  have h := soft_order hF ha hb (fun e => na ((nan_isN hF).2 e)) (fun e => nb ((nan_isN hF).2 e))
  have ka := keyZ hF ha
  have kb := keyZ hF hb
  unfold cmpO cmpC
  rw [h]
  generalize keyN F (if zerB F a = true then 0 else a) = x at *
  generalize keyN F (if zerB F b = true then 0 else b) = y at *
  generalize sgR F a = s at *
  generalize sgR F b = t at *
  have e1 : ((some (compare s t) == some Ordering.eq) = true) ↔ s = t := by rw [beq_iff_eq, Option.some.injEq, cmp_eq_iff]
  have e2 : ((some (compare s t) == some Ordering.lt) = true) ↔ s < t := by rw [beq_iff_eq, Option.some.injEq, cmp_lt_iff]
  have e3 : ((some (compare s t) == some Ordering.gt) = true) ↔ t < s := by rw [beq_iff_eq, Option.some.injEq, cmp_gt_iff]
  have e4 : ((some (compare s t) != some Ordering.eq) = true) ↔ s ≠ t := by rw [bne_iff_ne, ne_eq, Option.some.injEq, cmp_eq_iff]
  have hx : (x : Int) < (y : Int) ↔ s < t := by split at ka <;> split at kb <;> omega
  have hy : (y : Int) < (x : Int) ↔ t < s := by split at ka <;> split at kb <;> omega
  have he : (x : Int) = (y : Int) ↔ s = t := by split at ka <;> split at kb <;> omega
  rcases (by omega : k = 0 ∨ k = 1 ∨ k = 2 ∨ k = 3 ∨ k = 4 ∨ k = 5) with rfl | rfl | rfl | rfl | rfl | rfl
  · rw [if_pos rfl, if_pos rfl, Bool.eq_iff_iff, e1, beq_iff_eq, he]
  · rw [if_neg (by decide), if_pos rfl, if_neg (by decide), if_pos rfl, Bool.eq_iff_iff, e4, bne_iff_ne, ne_eq, he]
  · rw [if_neg (by decide), if_neg (by decide), if_pos rfl, if_neg (by decide), if_neg (by decide), if_pos rfl, Bool.eq_iff_iff, e2, decide_eq_true_iff, hx]
  · rw [if_neg (by decide), if_neg (by decide), if_neg (by decide), if_pos rfl, if_neg (by decide), if_neg (by decide), if_neg (by decide), if_pos rfl, Bool.eq_iff_iff, e3, decide_eq_true_iff, hy]
  · rw [if_neg (by decide), if_neg (by decide), if_neg (by decide), if_neg (by decide), if_pos rfl, if_neg (by decide), if_neg (by decide), if_neg (by decide), if_neg (by decide), if_pos rfl, Bool.eq_iff_iff, Bool.or_eq_true, e1, e2, decide_eq_true_iff]
    omega
  · rw [if_neg (by decide), if_neg (by decide), if_neg (by decide), if_neg (by decide), if_neg (by decide), if_neg (by decide), if_neg (by decide), if_neg (by decide), if_neg (by decide), if_neg (by decide), Bool.eq_iff_iff, Bool.or_eq_true, e1, e3, decide_eq_true_iff]
    omega
/- the least and the most of two -/
theorem min_soft (hF : Fmt F bi) {a b : Nat} (ha : a < 2 * F.signWeight) (hb : b < 2 * F.signWeight) (na : nanB F a = false) (nb : nanB F b = false) :
    (F.order a b = some .lt → keyN F a < keyN F b) ∧ (F.order a b = some .gt → ¬ keyN F a < keyN F b ∧ keyN F a ≠ keyN F b) ∧
    (F.order a b = some .eq → a = b ∨ (a % F.signWeight = 0 ∧ b % F.signWeight = 0)) := by
  have h := soft_order hF ha hb (fun e => by rw [(nan_isN hF).2 e] at na; cases na) (fun e => by rw [(nan_isN hF).2 e] at nb; cases nb)
  rw [h]
  have hs0 := hF.sw0
  have key : ∀ {v : Nat}, v < 2 * F.signWeight → (F.signWeight ≤ v → ((keyN F v : Nat) : Int) = sgR F v + F.signWeight - 1 ∧ sgR F v ≤ 0 ∧ sgR F v = (F.signWeight : Int) - v) ∧ (¬ F.signWeight ≤ v → ((keyN F v : Nat) : Int) = sgR F v + F.signWeight ∧ 0 ≤ sgR F v ∧ sgR F v = v) := by
    intro v hv
    unfold keyN sgR sgB
    constructor
    · intro hc
      have hm : v % F.signWeight = v - F.signWeight := by rw [Nat.mod_eq_sub_mod hc, Nat.mod_eq_of_lt (by omega)]
      rw [if_pos hc, decide_eq_true hc, if_pos rfl, hm]
      omega
    · intro hc
      have hm : v % F.signWeight = v := Nat.mod_eq_of_lt (by omega)
      rw [if_neg hc, decide_eq_false hc, if_neg (by simp), hm]
      omega
  have ka := key ha
  have kb := key hb
  refine ⟨fun e => ?_, fun e => ?_, fun e => ?_⟩
  · have := (cmp_lt_iff _ _).1 (Option.some.inj e)
    by_cases c1 : F.signWeight ≤ a <;> by_cases c2 : F.signWeight ≤ b
    · have := ka.1 c1; have := kb.1 c2; omega
    · have := ka.1 c1; have := kb.2 c2; omega
    · have := ka.2 c1; have := kb.1 c2; omega
    · have := ka.2 c1; have := kb.2 c2; omega
  · have := (cmp_gt_iff _ _).1 (Option.some.inj e)
    by_cases c1 : F.signWeight ≤ a <;> by_cases c2 : F.signWeight ≤ b
    · have := ka.1 c1; have := kb.1 c2; omega
    · have := ka.1 c1; have := kb.2 c2; omega
    · have := ka.2 c1; have := kb.1 c2; omega
    · have := ka.2 c1; have := kb.2 c2; omega
  · have he := (cmp_eq_iff _ _).1 (Option.some.inj e)
    by_cases c1 : F.signWeight ≤ a <;> by_cases c2 : F.signWeight ≤ b
    · have := ka.1 c1; have := kb.1 c2; exact .inl (by omega)
    · have h1 := ka.1 c1; have h2 := kb.2 c2
      refine .inr ⟨?_, ?_⟩
      · rw [show a = F.signWeight by omega, Nat.mod_self]
      · rw [show b = 0 by omega, Nat.zero_mod]
    · have h1 := ka.2 c1; have h2 := kb.1 c2
      refine .inr ⟨?_, ?_⟩
      · rw [show a = 0 by omega, Nat.zero_mod]
      · rw [show b = F.signWeight by omega, Nat.mod_self]
    · have := ka.2 c1; have := kb.2 c2; exact .inl (by omega)
/- the difference is the sum with the other sign -/
theorem sub_flip (hF : Fmt F bi) (a : Nat) {b : Nat} (hb : b < 2 * F.signWeight) : F.sub a b = F.add a (flipW F b) := by
  unfold Format.sub Format.add
  have key : (F.read b).opposite = F.read (flipW F b) := by
    obtain ⟨f1, f2⟩ := flip_lt hb
    rw [hF.read hb, hF.read f1]
    have ex : exB F (flipW F b) = exB F b := by unfold exB; rw [f2]
    have fr : frB F (flipW F b) = frB F b := by unfold frB; rw [f2]
    have sg : sgB F (flipW F b) = !sgB F b := by
      unfold sgB flipW
      by_cases h : F.signWeight ≤ b
      · rw [if_pos h, decide_eq_true h, decide_eq_false (by omega)]; rfl
      · rw [if_neg h, decide_eq_false h, decide_eq_true (by omega)]; rfl
    rw [ex, fr, sg]
    split
    · rfl
    · split
      · rfl
      · split <;> rfl
  rw [key]
/- a result of arithmetic is a number, or there is none -/
theorem write_num (hF : Fmt F bi) (s : Bool) (m : Nat) (i : Int) : ¬ isN F bi (F.write (.number s m i)) ∧ F.write (.number s m i) < 2 * F.signWeight := by
  show ¬ isN F bi (F.nearest s m i) ∧ F.nearest s m i < 2 * F.signWeight
  unfold Format.nearest
  by_cases h0 : m = 0
  · rw [if_pos h0]; exact word_num hF s (Nat.zero_le _)
  · rw [if_neg h0]; exact word_num hF s (Nat.min_le_right _ _)
theorem write_inf (hF : Fmt F bi) (s : Bool) : ¬ isN F bi (F.write (.infinity s)) ∧ F.write (.infinity s) < 2 * F.signWeight := word_num hF s (Nat.le_refl _)
def NotNan : Datum → Prop
  | .nan .. => False
  | _ => True
theorem write_ok (hF : Fmt F bi) {d : Datum} (h : NotNan d) : ¬ isN F bi (F.write d) ∧ F.write d < 2 * F.signWeight := by
  cases d with
  | number s m i => exact write_num hF s m i
  | infinity s => exact write_inf hF s
  | nan s t => exact h.elim
theorem map_ok (hF : Fmt F bi) (can : Nat) {o : Option Datum} {r : Nat} (ho : ∀ d, o = some d → NotNan d) (h : o.map F.write = some r) : canB F can r = r := by
  cases o with
  | none => cases h
  | some d =>
    simp only [Option.map_some, Option.some.injEq] at h
    obtain ⟨h1, h2⟩ := write_ok hF (ho d rfl)
    rw [← h]
    exact canB_num hF can h2 h1
theorem sum_nn (x y : Datum) : ∀ d, Datum.sum x y = some d → NotNan d := by
  intro d h
  cases x <;> cases y <;> simp only [Datum.sum] at h <;> (try cases h) <;> (try trivial)
  · split at h <;> cases h
    trivial
theorem prod_nn (x y : Datum) : ∀ d, Datum.product x y = some d → NotNan d := by
  intro d h
  cases x <;> cases y <;> simp only [Datum.product] at h <;> (try (split at h)) <;> (try cases h) <;> (try trivial)
theorem quot_nn (k : Nat) (x y : Datum) : ∀ d, Datum.quotient k x y = some d → NotNan d := by
  intro d h
  cases x <;> cases y <;> simp only [Datum.quotient] at h <;> (try (split at h)) <;> (try (split at h)) <;> (try cases h) <;> (try trivial)
theorem root_nn (k : Nat) (x : Datum) : ∀ d, Datum.root k x = some d → NotNan d := by
  intro d h
  cases x <;> simp only [Datum.root] at h <;> (try (split at h)) <;> (try (split at h)) <;> (try cases h) <;> (try trivial)
theorem add_can (hF : Fmt F bi) (can : Nat) {a b r : Nat} (h : F.add a b = some r) : canB F can r = r := map_ok hF can (sum_nn _ _) h
theorem sub_can (hF : Fmt F bi) (can : Nat) {a b r : Nat} (h : F.sub a b = some r) : canB F can r = r := map_ok hF can (sum_nn _ _) h
theorem mul_can (hF : Fmt F bi) (can : Nat) {a b r : Nat} (h : F.mul a b = some r) : canB F can r = r := map_ok hF can (prod_nn _ _) h
theorem div_can (hF : Fmt F bi) (can : Nat) {a b r : Nat} (h : F.div a b = some r) : canB F can r = r := map_ok hF can (quot_nn _ _ _) h
theorem sqrt_can (hF : Fmt F bi) (can : Nat) {a r : Nat} (h : F.sqrt a = some r) : canB F can r = r := map_ok hF can (root_nn _ _) h
end
end Go.Proofs.Qxb6500275aGreatDoor
