import Derived.Test.Qxb6500275aGreatDoorNoa
import Derived.Test.Qxb6500275aGreatDoorNp2
set_option maxRecDepth 100000
set_option linter.unusedVariables false
set_option linter.unusedSimpArgs false
namespace Go.Proofs.Qxb6500275aGreatDoor
open Ieee
section
variable {F G : Format} {bi bj : Nat}
theorem round_exact (hF : Fmt F bi) (s : Bool) {m : Nat} (e : Int) (h0 : m ≠ 0) (h : m < 18446744073709551616) : softRound F bi s m e false = F.nearest s m e := by
  symm
  refine soft_nearest hF s (e := e) (place := e) (by omega) ?_
  rw [show (e - e).toNat = 0 by omega]
  exact ⟨h0, h, fun _ => by rw [Nat.pow_zero, Nat.mul_one], fun e => by simp at e⟩
theorem ref_read (hF : Fmt F bi) (hG : Fmt G bj) (can : Nat) {a : Nat} (ha : a < 2 * F.signWeight) :
    softRef F bi G bj can a = match F.read a with | .nan _ _ => can | .infinity s => G.word s G.infRung | .number s m i => G.nearest s m i := by
  have h := unp_ok hF ha
  have h53 := unpS_lt53 hF (v := a)
  unfold softRef
  dsimp only
  generalize unpS F bi a = x at *
  obtain ⟨s, k, m, i⟩ := x
  dsimp only at h h53 ⊢
  have h3 := h.k3
  rcases (by omega : k = 0 ∨ k = 1 ∨ k = 2 ∨ k = 3) with rfl | rfl | rfl | rfl
  · obtain ⟨⟨j, hr⟩, _⟩ := h.z rfl
    rw [hr, if_neg (by decide), if_neg (by decide), if_pos rfl]
    exact (nearest_zero G s j).symm
  · obtain ⟨hr, h0, _⟩ := h.f rfl
    rw [hr, if_neg (by decide), if_neg (by decide), if_neg (by decide)]
    exact round_exact hG s i h0 (by omega)
  · obtain ⟨hr, _⟩ := h.i rfl
    rw [hr, if_neg (by decide), if_pos rfl]
  · obtain ⟨t, hr⟩ := h.n rfl
    rw [hr, if_pos rfl]
theorem from_near (hF : Fmt F bi) (n : Nat) (sg : Bool) {a : Nat} (hn : n ≤ 64) (ha : a < 2 ^ n) : softFrom F bi n sg a = F.nearest (decide (sg = true ∧ 2 ^ (n - 1) ≤ a)) (if sg = true ∧ 2 ^ (n - 1) ≤ a then 2 ^ n - a else a) 0 := by
  have h64 : 2 ^ n ≤ 2 ^ 64 := Nat.pow_le_pow_right (by decide) hn
  have hp := Nat.two_pow_pos (n - 1)
  unfold softFrom
  by_cases h0 : a = 0
  · subst h0
    rw [if_pos rfl, if_neg (by omega), nearest_zero, decide_eq_false (by omega)]
    rfl
  · rw [if_neg h0]
    by_cases hc : sg = true ∧ 2 ^ (n - 1) ≤ a
    · rw [if_pos hc, if_pos hc, decide_eq_true hc]
      exact round_exact hF true 0 (by omega) (by omega)
    · rw [if_neg hc, if_neg hc, decide_eq_false hc]
      exact round_exact hF false 0 h0 (by omega)
end
/- beyond the greatest float32 -/
theorem demote_big {x : Nat} {s : Bool} {m : Nat} {i : Int} (h : double.read x = .number s m i)
    (hge : 9007198986305536 * 2 ^ (75 - min i 75).toNat ≤ m * 2 ^ (i - min i 75).toNat) : single.nearest s m i = single.word s single.infRung := by
  obtain ⟨h1, h2, h3, h4⟩ := read_double h
  have hm0 : m ≠ 0 := by
    rintro rfl
    have : 0 < 9007198986305536 * 2 ^ (75 - min i 75).toNat := Nat.mul_pos (by decide) (Nat.two_pow_pos _)
    omega
  have hlog : m.log2 ≤ 52 := by
    have := (Nat.log2_lt hm0).2 (show m < 2 ^ 53 by omega)
    omega
  have hi : 75 ≤ i := by
    refine Classical.byContradiction fun hlt => ?_
    have e1 : min i 75 = i := by omega
    rw [e1, show (i - i).toNat = 0 by omega, Nat.pow_zero, Nat.mul_one, show (75 - i).toNat = (74 - i).toNat + 1 by omega, Nat.pow_succ] at hge
    have : 1 ≤ 2 ^ (74 - i).toNat := Nat.two_pow_pos _
    have h5 : 9007198986305536 * 1 ≤ 9007198986305536 * 2 ^ (74 - i).toNat := Nat.mul_le_mul_left _ this
    rw [← Nat.mul_assoc] at hge
    omega
  have hm : 4503599627370496 ≤ m := by omega
  have hlog' : m.log2 = 52 := by
    have : 52 ≤ m.log2 := (Nat.le_log2 hm0).2 (by omega)
    omega
  unfold Format.nearest
  rw [if_neg hm0, hlog']
  have efb : (single.fractionBits : Int) = 23 := rfl
  dsimp only
  rw [efb, s_least, show max (i + ((52 : Nat) : Int) - 23) (-149) = i + 29 by omega, cut_rnd]
  rw [show (i - (i + 29)).toNat = 0 by omega, show (i + 29 - i).toNat = 29 by omega, Nat.shiftLeft_zero, s_bin, show single.infRung = 2139095040 from rfl]
  have hk : 8388608 ≤ rnd m (2 ^ 29) := by unfold rnd; omega
  by_cases hc : i = 75
  · subst hc
    have hge' : 9007198986305536 ≤ m := by simpa using hge
    have hr : rnd m (2 ^ 29) = 16777216 := by
      unfold rnd
      have hq : m / 2 ^ 29 = 16777215 := by omega
      rw [hq]
      by_cases h5 : 2 ^ 29 < 2 * (m % 2 ^ 29)
      · rw [if_pos (.inl h5)]
      · rw [if_pos (.inr ⟨by omega, by decide⟩)]
    rw [hr]
    rfl
  · have : (254 : Nat) ≤ (i + 29 - -149).toNat := by omega
    have h6 : 254 * 8388608 ≤ (i + 29 - -149).toNat * 8388608 := Nat.mul_le_mul_right _ this
    rw [Nat.min_eq_right (by omega)]
end Go.Proofs.Qxb6500275aGreatDoor
