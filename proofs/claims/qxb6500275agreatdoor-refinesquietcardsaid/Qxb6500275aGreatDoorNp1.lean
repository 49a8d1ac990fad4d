import Derived.Test.Qxb6500275aGreatDoorNqf
import Derived.Test.Qxb6500275aGreatDoorFlh
set_option linter.unusedVariables false
set_option linter.unusedSimpArgs false
namespace Go.Proofs.Qxb6500275aGreatDoor
open Ieee
section
variable {F : Format} {bi : Nat}
/- what the format has is written exactly -/
theorem nearest_exact (hF : Fmt F bi) (s : Bool) {M : Nat} {i : Int} (hM : M < 2 ^ (F.fractionBits + 1)) (hi : F.leastPlace ≤ i) (ht : i + (M.log2 : Int) ≤ bi) :
    ∃ R, R < F.infRung ∧ F.nearest s M i = F.word s R ∧ rgV F R = M * 2 ^ (i - F.leastPlace).toNat := by
  have hb1 := hF.b1
  have hP0 : 0 < 2 ^ F.fractionBits := Nat.two_pow_pos _
  have hl := hF.least
  by_cases h0 : M = 0
  · subst h0
    refine ⟨0, by rw [hF.inf]; exact Nat.mul_pos (by omega) hP0, nearest_zero F s i, by rw [rgV_zero, Nat.zero_mul]⟩
  have hk1 : 2 ^ M.log2 ≤ M := Nat.log2_self_le h0
  have hk2 : M < 2 ^ (M.log2 + 1) := Nat.lt_log2_self
  have hk3 : M.log2 ≤ F.fractionBits := by
    have := (Nat.log2_lt h0).2 hM
    omega
  generalize M.log2 = k at *
  by_cases hn : F.leastPlace ≤ i - ((F.fractionBits - k : Nat) : Int)
  · have hsplit : 2 ^ F.fractionBits = 2 ^ k * 2 ^ (F.fractionBits - k) := by rw [← Nat.pow_add]; congr 1; omega
    have c1 : 2 ^ F.fractionBits ≤ M * 2 ^ (F.fractionBits - k) := by rw [hsplit]; exact Nat.mul_le_mul_right _ hk1
    have c2 : M * 2 ^ (F.fractionBits - k) < 2 * 2 ^ F.fractionBits := by
      have := Nat.mul_lt_mul_of_pos_right hk2 (Nat.two_pow_pos (F.fractionBits - k))
      rw [Nat.pow_succ, Nat.mul_right_comm, ← hsplit] at this
      omega
    obtain ⟨E, hE⟩ : ∃ E : Nat, (E : Int) = i - ((F.fractionBits - k : Nat) : Int) + bi + F.fractionBits := ⟨(i - ((F.fractionBits - k : Nat) : Int) + bi + F.fractionBits).toNat, by omega⟩
    have hnn := nearest_norm hF s (E := E) (fr := M * 2 ^ (F.fractionBits - k) - 2 ^ F.fractionBits) (by omega) (by omega)
    refine ⟨E * 2 ^ F.fractionBits + (M * 2 ^ (F.fractionBits - k) - 2 ^ F.fractionBits), ?_, ?_, ?_⟩
    · rw [hF.inf]
      have : (E + 1) * 2 ^ F.fractionBits ≤ (2 * bi + 1) * 2 ^ F.fractionBits := Nat.mul_le_mul_right _ (by omega)
      rw [Nat.add_mul] at this
      omega
    · rw [← hnn, ← nearest_scale F s M i (F.fractionBits - k), show 2 ^ F.fractionBits + (M * 2 ^ (F.fractionBits - k) - 2 ^ F.fractionBits) = M * 2 ^ (F.fractionBits - k) by omega]
      congr 1
      omega
    · rw [rgV_big (by omega) (by omega), show 2 ^ F.fractionBits + (M * 2 ^ (F.fractionBits - k) - 2 ^ F.fractionBits) = M * 2 ^ (F.fractionBits - k) by omega, Nat.mul_assoc, ← Nat.pow_add]
      congr 2
      omega
  · have hlt : M * 2 ^ (i - F.leastPlace).toNat < 2 ^ F.fractionBits := by
      refine Nat.lt_of_lt_of_le (Nat.mul_lt_mul_of_pos_right hk2 (Nat.two_pow_pos _)) ?_
      rw [← Nat.pow_add]
      exact Nat.pow_le_pow_right (by decide) (by omega)
    have hs := nearest_sub hF s hlt
    refine ⟨M * 2 ^ (i - F.leastPlace).toNat, ?_, ?_, ?_⟩
    · rw [hF.inf]
      have : 1 * 2 ^ F.fractionBits ≤ (2 * bi + 1) * 2 ^ F.fractionBits := Nat.mul_le_mul_right _ (by omega)
      omega
    · rw [← hs, ← nearest_scale F s M i (i - F.leastPlace).toNat]
      congr 1
      omega
    · unfold rgV
      rw [if_pos (Nat.div_eq_of_lt hlt)]
/- THE ORDER BY VALUES -/
theorem order_val (hF : Fmt F bi) {a b : Nat} (ha : a < 2 * F.signWeight) (hb : b < 2 * F.signWeight) (na : ¬ isN F bi a) (nb : ¬ isN F bi b) : F.order a b = some (compare (sgV F a) (sgV F b)) := by
  rw [soft_order hF ha hb na nb, sgV_cmp]
theorem sgV_word (hF : Fmt F bi) (s : Bool) {r : Nat} (h : r ≤ F.infRung) : sgV F (F.word s r) = if s = true then -(rgV F r : Int) else (rgV F r : Int) := by
  have hsw := inf_sw hF
  obtain ⟨a1, a2, a3⟩ := word_lt hF s (r := r) (by omega)
  unfold sgV
  rw [a2, a3]
/- the rung of a power of two -/
theorem rgV_pow (hF : Fmt F bi) (j : Nat) : rgV F ((bi + j) * 2 ^ F.fractionBits) = 2 ^ j * 2 ^ (bi + F.fractionBits - 1) := by
  have hb1 := hF.b1
  have := rgV_big (F := F) (E := bi + j) (fr := 0) (by omega) (Nat.two_pow_pos _)
  rw [Nat.add_zero, Nat.add_zero] at this
  rw [this, ← Nat.pow_add, ← Nat.pow_add]
  congr 1
  omega
/- beyond the binade every number is whole -/
theorem val_whole (hF : Fmt F bi) {v : Nat} (he : bi + F.fractionBits ≤ exB F v) : rgV F (v % F.signWeight) % 2 ^ (bi + F.fractionBits - 1) = 0 := by
  have hb1 := hF.b1
  have hmod : exB F v * 2 ^ F.fractionBits + frB F v = v % F.signWeight := by
    unfold exB frB; rw [Nat.mul_comm]; exact Nat.div_add_mod _ _
  rw [← hmod, rgV_big (by omega) (Fmt.fr_lt F v), show exB F v - 1 = (exB F v - (bi + F.fractionBits)) + (bi + F.fractionBits - 1) by omega, Nat.pow_add, ← Nat.mul_assoc, Nat.mul_mod_left]
/- A FLOAT AS AN INTEGER -/
def truncP (F : Format) (bi n : Nat) (sg : Bool) (v : Nat) : Nat × Nat :=
  if exB F v = 2 * bi + 1 then (if frB F v = 0 then (0, 40) else (0, 41))
  else fitS n sg (sgB F v) (rgV F (v % F.signWeight) / 2 ^ (bi + F.fractionBits - 1))
/- as the model of the numbers has it -/
def truncC (F : Format) (bi n : Nat) (sg : Bool) (v : Nat) : Nat × Nat :=
  let x := unpS F bi v
  if x.2.1 = 3 then (0, 41) else if x.2.1 = 2 then (0, 40)
  else if x.2.1 = 0 ∨ x.2.2.2 ≤ -64 then (0, 0)
  else if x.2.2.2 < 0 then fitS n sg x.1 (x.2.2.1 / 2 ^ (-x.2.2.2).toNat)
  else if (63 : Int) - F.fractionBits < x.2.2.2 then (0, 40)
  else fitS n sg x.1 (x.2.2.1 * 2 ^ x.2.2.2.toNat)
theorem fitS_zero (n : Nat) (sg neg : Bool) (hn : 1 ≤ n) : fitS n sg neg 0 = (0, 0) := by
  have h1 := Nat.two_pow_pos (n - 1)
  have h2 := Nat.two_pow_pos n
  unfold fitS
  cases sg <;> cases neg <;> simp
theorem fitS_big (n : Nat) (sg neg : Bool) (hn : n ≤ 64) {m : Nat} (h : 18446744073709551616 ≤ m) : fitS n sg neg m = (0, 40) := by
  have h1 : 2 ^ (n - 1) ≤ 2 ^ 63 := Nat.pow_le_pow_right (by decide) (by omega)
  have h2 : 2 ^ n ≤ 2 ^ 64 := Nat.pow_le_pow_right (by decide) hn
  have h3 := Nat.two_pow_pos n
  unfold fitS
  cases sg <;> cases neg
  · rw [if_neg (by simp), if_neg (by simp), if_pos (by omega)]
  · rw [if_neg (by simp), if_pos rfl, if_neg (by omega)]
  · rw [if_pos rfl, if_neg (by simp), if_pos (by omega)]
  · rw [if_pos rfl, if_pos rfl, if_pos (by omega)]
theorem trunc_code (hF : Fmt F bi) (hbig : F.fractionBits + 2 ≤ bi) (h64 : 64 < bi) {n : Nat} (hn : 1 ≤ n ∧ n ≤ 64) (sg : Bool) {v : Nat} (hv : v < 2 * F.signWeight) : truncC F bi n sg v = truncP F bi n sg v := by
  have hfb := hF.fb
  have hP0 : 0 < 2 ^ F.fractionBits := Nat.two_pow_pos _
  have hfl := Fmt.fr_lt F v
  have hmod : exB F v * 2 ^ F.fractionBits + frB F v = v % F.signWeight := by
    unfold exB frB; rw [Nat.mul_comm]; exact Nat.div_add_mod _ _
  unfold truncC truncP unpS
  by_cases h1 : exB F v = 2 * bi + 1
  · rw [if_pos h1, if_pos h1]
    by_cases h2 : frB F v = 0
    · rw [if_pos h2, if_pos h2]; simp
    · rw [if_neg h2, if_neg h2]; simp
  · rw [if_neg h1, if_neg h1]
    by_cases h0 : exB F v = 0
    · rw [if_pos h0]
      have hz : rgV F (v % F.signWeight) / 2 ^ (bi + F.fractionBits - 1) = 0 := by
        refine Nat.div_eq_of_lt ?_
        rw [h0, Nat.zero_mul, Nat.zero_add] at hmod
        unfold rgV
        rw [← hmod, if_pos (Nat.div_eq_of_lt hfl)]
        exact Nat.lt_of_lt_of_le hfl (Nat.pow_le_pow_right (by decide) (by omega))
      rw [hz, fitS_zero n sg _ hn.1]
      by_cases h2 : frB F v = 0
      · rw [if_pos h2]; simp
      · rw [if_neg h2]
        dsimp only
        rw [if_neg (by decide), if_neg (by decide), if_pos (.inr (by omega))]
    · rw [if_neg h0]
      dsimp only
      rw [if_neg (by decide), if_neg (by decide)]
      have hval : (2 ^ F.fractionBits + frB F v) * 2 ^ ((exB F v : Int) - bi - F.fractionBits).toNat / 2 ^ (-((exB F v : Int) - bi - F.fractionBits)).toNat = rgV F (v % F.signWeight) / 2 ^ (bi + F.fractionBits - 1) := by
        have hl := hF.least
        rw [magOf_val (F := F) (bi := bi) (by omega) hF, ← hmod, rgV_big (by omega) hfl]
        congr 3
        omega
      rw [← hval]
      generalize hi : (exB F v : Int) - bi - F.fractionBits = i at *
      by_cases c1 : i ≤ -64
      · rw [if_pos (.inr c1)]
        have : (2 ^ F.fractionBits + frB F v) * 2 ^ i.toNat / 2 ^ (-i).toNat = 0 := by
          rw [show i.toNat = 0 by omega, Nat.pow_zero, Nat.mul_one]
          refine Nat.div_eq_of_lt ?_
          have e1 : 2 ^ 64 ≤ 2 ^ (-i).toNat := Nat.pow_le_pow_right (by decide) (by omega)
          have e2 : 2 ^ F.fractionBits ≤ 2 ^ 52 := Nat.pow_le_pow_right (by decide) (by omega)
          omega
        rw [this, fitS_zero n sg _ hn.1]
      · rw [if_neg (by omega)]
        by_cases c2 : i < 0
        · rw [if_pos c2, show i.toNat = 0 by omega, Nat.pow_zero, Nat.mul_one]
        · rw [if_neg c2, show (-i).toNat = 0 by omega, Nat.pow_zero, Nat.div_one]
          by_cases c3 : (63 : Int) - F.fractionBits < i
          · rw [if_pos c3, fitS_big n sg _ hn.2]
            have e1 : 2 ^ F.fractionBits * 2 ^ (64 - F.fractionBits) ≤ (2 ^ F.fractionBits + frB F v) * 2 ^ i.toNat := Nat.mul_le_mul (by omega) (Nat.pow_le_pow_right (by decide) (by omega))
            rw [← Nat.pow_add, show F.fractionBits + (64 - F.fractionBits) = 64 by omega] at e1
            exact e1
          · rw [if_neg c3]
end
end Go.Proofs.Qxb6500275aGreatDoor
