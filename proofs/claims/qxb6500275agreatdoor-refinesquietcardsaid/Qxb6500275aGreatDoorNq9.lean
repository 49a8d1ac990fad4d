import Derived.Test.Qxb6500275aGreatDoorNq6
import Derived.Test.Qxb6500275aGreatDoorNq7
import Derived.Test.Qxb6500275aGreatDoorNq8
set_option maxRecDepth 100000
set_option linter.unusedVariables false
set_option linter.unusedSimpArgs false
namespace Go.Proofs.Qxb6500275aGreatDoor
open Go Go.RowKit
theorem upq_upB (M c : Nat) (st : Bool) : upq M c st = upB (M / 2 ^ c) (M % 2 ^ c) (2 ^ (c - 1)) st := rfl
theorem word_32 (neg : Bool) (r : Nat) : Ieee.single.word neg r = if neg = true then 2147483648 + r else r := by
  unfold Ieee.Format.word
  rw [show Ieee.single.signWeight = 2147483648 by decide]
set_option maxHeartbeats 2000000 in
theorem round_32 (neg st : Bool) (m : Nat) (e : Int) (hm0 : m ≠ 0) (hm : m < 18446744073709551616) (he : -50000 ≤ e ∧ e ≤ 50000) (w : World) : Calls Tryz.prog 313 #[.int .i64 32, .bool neg, .int .u64 m, .int .i64 e, .bool st] w (Pq w (.int .u64 ((softRound Ieee.single 127 neg m e st : Nat) : Int))) := by
  have hl63 : m.log2 ≤ 63 := by
    have := (Nat.log2_lt hm0).2 (show m < 2 ^ 64 from hm)
    omega
  have hlift := fun w => lift_63 m e hm0 hl63 (by omega) w
  have hbd := liftM_bd (at_ := 63) hm0 hl63
  have hEb : e - 63 ≤ liftE m e 63 ∧ liftE m e 63 ≤ e := by unfold liftE; omega
  have hfb : Ieee.single.fractionBits = 23 := rfl
  have hex : e - ((63 - m.log2 : Nat) : Int) + 63 = liftE m e 63 + 63 := rfl
  have hmm : m * 2 ^ (63 - m.log2) = liftM m 63 := rfl
  have hinf : Ieee.single.infRung = 2139095040 := by decide
  unfold softRound
  dsimp only
  rw [hex, hmm, hfb, hinf]
  generalize liftM m 63 = M at *
  generalize liftE m e 63 = E at *
  have hM : 9223372036854775808 ≤ M ∧ M < 18446744073709551616 := hbd
  by_cases hs : E + 63 < 1 - ((127 : Nat) : Int)
  · rw [if_pos hs]
    obtain ⟨c, hc⟩ : ∃ c : Nat, E = -149 - (c : Int) := ⟨(-149 - E).toNat, by omega⟩
    subst hc
    have hk : ((23 : Nat) : Int) + 1 - (1 - ((127 : Nat) : Int) - (-149 - (c : Int) + 63)) = 64 - (c : Int) := by omega
    rw [hk]
    by_cases h65 : 65 ≤ c
    · rw [if_pos (by omega), word_32]
      have := roundN_32 neg st m e M c (by omega) hM hlift hm w
      cases neg
      · exact this
      · exact this
    · rw [if_neg (by omega), if_pos hs, word_32]
      by_cases h64 : c = 64
      · subst h64
        have := roundZ_32 neg st m e M hM hlift hm w
        rw [show (64 - ((64 : Nat) : Int)).toNat = 0 by omega, upq_upB, show M / 2 ^ (64 - 0) = 0 from Nat.div_eq_of_lt (by simpa using hM.2), show M % 2 ^ (64 - 0) = M from Nat.mod_eq_of_lt (by simpa using hM.2)]
        exact this
      · rw [show 64 - (64 - (c : Int)).toNat = c by omega, upq_upB]
        have hp : 0 < 2 ^ c := Nat.two_pow_pos _
        have hr := Nat.mod_lt M hp
        have hc63 : 2 ^ c ≤ 2 ^ 63 := Nat.pow_le_pow_right (by decide) (by omega)
        have hc62 : 2 ^ (c - 1) ≤ 2 ^ 63 := Nat.pow_le_pow_right (by decide) (by omega)
        have hq24 : M / 2 ^ c < 8388608 := by
          rw [Nat.div_lt_iff_lt_mul hp]
          have : 2 ^ 41 ≤ 2 ^ c := Nat.pow_le_pow_right (by decide) (by omega)
          have := Nat.mul_le_mul_left 8388608 this
          have e2 : 8388608 * 2 ^ 41 = 18446744073709551616 := by decide
          omega
        have hdm := Nat.div_add_mod M (2 ^ c)
        rw [Nat.mul_comm] at hdm
        exact roundA_32 neg st m e M c (M / 2 ^ c) (M % 2 ^ c) (2 ^ (c - 1)) (by omega) hM hlift hm (by simp) hdm.symm (by simp) hq24 (by omega) (by simpa using hc62) w
  · rw [if_neg hs, if_neg (by omega), if_neg hs, show 64 - (((23 : Nat) : Int) + 1).toNat = 40 by omega, upq_upB, show (2 : Nat) ^ 40 = 1099511627776 by decide, show (2 : Nat) ^ (40 - 1) = 549755813888 by decide, show (2 : Nat) ^ (23 + 1) = 16777216 by decide, show (2 : Nat) ^ 23 = 8388608 by decide]
    obtain ⟨x, hx⟩ : ∃ x : Nat, E = (x : Int) - 189 := ⟨(E + 189).toNat, by omega⟩
    subst hx
    have := roundB_32 neg st m e M x (M / 1099511627776) (M % 1099511627776) (by omega) hM hlift hm (by omega) (by omega) (by omega) 549755813888 rfl w
    rw [show ((x : Int) - 189 + 63 + 1 + ((127 : Nat) : Int) - 1).toNat = x + 1 by omega, show ((x : Int) - 189 + 63 + ((127 : Nat) : Int) - 1).toNat = x by omega]
    generalize upB (M / 1099511627776) (M % 1099511627776) 549755813888 st = Q at *
    have e1 : (((127 : Nat) : Int) < (x : Int) - 189 + 63 + 1) ↔ (254 < x + 2) := by omega
    have e2 : (((127 : Nat) : Int) < (x : Int) - 189 + 63) ↔ (254 < x + 1) := by omega
    simp only [e1, e2]
    have key : (if Q = 16777216 then (if 254 < x + 2 then Ieee.single.word neg 2139095040 else Ieee.single.word neg ((x + 1) * 8388608 + Q / 2)) else if 254 < x + 1 then Ieee.single.word neg 2139095040 else Ieee.single.word neg (x * 8388608 + Q)) = (if neg = true then 2147483648 + (if Q = 16777216 then (if 254 < x + 2 then 2139095040 else (x + 1) * 8388608 + 8388608) else if 254 < x + 1 then 2139095040 else x * 8388608 + Q) else (if Q = 16777216 then (if 254 < x + 2 then 2139095040 else (x + 1) * 8388608 + 8388608) else if 254 < x + 1 then 2139095040 else x * 8388608 + Q)) := by
      simp only [word_32]
      by_cases hQ : Q = 16777216
      · subst hQ
        simp only [if_true]
        cases neg <;> simp <;> split <;> omega
      · simp only [if_neg hQ]
        cases neg <;> simp <;> split <;> omega
    rw [key]
    exact this
theorem word_64 (neg : Bool) (r : Nat) : Ieee.double.word neg r = if neg = true then 9223372036854775808 + r else r := by
  unfold Ieee.Format.word
  rw [show Ieee.double.signWeight = 9223372036854775808 by decide]
set_option maxHeartbeats 2000000 in
theorem round_64 (neg st : Bool) (m : Nat) (e : Int) (hm0 : m ≠ 0) (hm : m < 18446744073709551616) (he : -50000 ≤ e ∧ e ≤ 50000) (w : World) : Calls Tryz.prog 313 #[.int .i64 64, .bool neg, .int .u64 m, .int .i64 e, .bool st] w (Pq w (.int .u64 ((softRound Ieee.double 1023 neg m e st : Nat) : Int))) := by
  have hl63 : m.log2 ≤ 63 := by
    have := (Nat.log2_lt hm0).2 (show m < 2 ^ 64 from hm)
    omega
  have hlift := fun w => lift_63 m e hm0 hl63 (by omega) w
  have hbd := liftM_bd (at_ := 63) hm0 hl63
  have hEb : e - 63 ≤ liftE m e 63 ∧ liftE m e 63 ≤ e := by unfold liftE; omega
  have hfb : Ieee.double.fractionBits = 52 := rfl
  have hex : e - ((63 - m.log2 : Nat) : Int) + 63 = liftE m e 63 + 63 := rfl
  have hmm : m * 2 ^ (63 - m.log2) = liftM m 63 := rfl
  have hinf : Ieee.double.infRung = 9218868437227405312 := by decide
  unfold softRound
  dsimp only
  rw [hex, hmm, hfb, hinf]
  generalize liftM m 63 = M at *
  generalize liftE m e 63 = E at *
  have hM : 9223372036854775808 ≤ M ∧ M < 18446744073709551616 := hbd
  by_cases hs : E + 63 < 1 - ((1023 : Nat) : Int)
  · rw [if_pos hs]
    obtain ⟨c, hc⟩ : ∃ c : Nat, E = -1074 - (c : Int) := ⟨(-1074 - E).toNat, by omega⟩
    subst hc
    have hk : ((52 : Nat) : Int) + 1 - (1 - ((1023 : Nat) : Int) - (-1074 - (c : Int) + 63)) = 64 - (c : Int) := by omega
    rw [hk]
    by_cases h65 : 65 ≤ c
    · rw [if_pos (by omega), word_64]
      have := roundN_64 neg st m e M c (by omega) hM hlift hm w
      cases neg
      · exact this
      · exact this
    · rw [if_neg (by omega), if_pos hs, word_64]
      by_cases h64 : c = 64
      · subst h64
        have := roundZ_64 neg st m e M hM hlift hm w
        rw [show (64 - ((64 : Nat) : Int)).toNat = 0 by omega, upq_upB, show M / 2 ^ (64 - 0) = 0 from Nat.div_eq_of_lt (by simpa using hM.2), show M % 2 ^ (64 - 0) = M from Nat.mod_eq_of_lt (by simpa using hM.2)]
        exact this
      · rw [show 64 - (64 - (c : Int)).toNat = c by omega, upq_upB]
        have hp : 0 < 2 ^ c := Nat.two_pow_pos _
        have hr := Nat.mod_lt M hp
        have hc63 : 2 ^ c ≤ 2 ^ 63 := Nat.pow_le_pow_right (by decide) (by omega)
        have hc62 : 2 ^ (c - 1) ≤ 2 ^ 63 := Nat.pow_le_pow_right (by decide) (by omega)
        have hq24 : M / 2 ^ c < 4503599627370496 := by
          rw [Nat.div_lt_iff_lt_mul hp]
          have : 2 ^ 12 ≤ 2 ^ c := Nat.pow_le_pow_right (by decide) (by omega)
          have := Nat.mul_le_mul_left 4503599627370496 this
          have e2 : 4503599627370496 * 2 ^ 12 = 18446744073709551616 := by decide
          omega
        have hdm := Nat.div_add_mod M (2 ^ c)
        rw [Nat.mul_comm] at hdm
        exact roundA_64 neg st m e M c (M / 2 ^ c) (M % 2 ^ c) (2 ^ (c - 1)) (by omega) hM hlift hm (by simp) hdm.symm (by simp) hq24 (by omega) (by simpa using hc62) w
  · rw [if_neg hs, if_neg (by omega), if_neg hs, show 64 - (((52 : Nat) : Int) + 1).toNat = 11 by omega, upq_upB, show (2 : Nat) ^ 11 = 2048 by decide, show (2 : Nat) ^ (11 - 1) = 1024 by decide, show (2 : Nat) ^ (52 + 1) = 9007199254740992 by decide, show (2 : Nat) ^ 52 = 4503599627370496 by decide]
    obtain ⟨x, hx⟩ : ∃ x : Nat, E = (x : Int) - 1085 := ⟨(E + 1085).toNat, by omega⟩
    subst hx
    have := roundB_64 neg st m e M x (M / 2048) (M % 2048) (by omega) hM hlift hm (by omega) (by omega) (by omega) 1024 rfl w
    rw [show ((x : Int) - 1085 + 63 + 1 + ((1023 : Nat) : Int) - 1).toNat = x + 1 by omega, show ((x : Int) - 1085 + 63 + ((1023 : Nat) : Int) - 1).toNat = x by omega]
    generalize upB (M / 2048) (M % 2048) 1024 st = Q at *
    have e1 : (((1023 : Nat) : Int) < (x : Int) - 1085 + 63 + 1) ↔ (2046 < x + 2) := by omega
    have e2 : (((1023 : Nat) : Int) < (x : Int) - 1085 + 63) ↔ (2046 < x + 1) := by omega
    simp only [e1, e2]
    have key : (if Q = 9007199254740992 then (if 2046 < x + 2 then Ieee.double.word neg 9218868437227405312 else Ieee.double.word neg ((x + 1) * 4503599627370496 + Q / 2)) else if 2046 < x + 1 then Ieee.double.word neg 9218868437227405312 else Ieee.double.word neg (x * 4503599627370496 + Q)) = (if neg = true then 9223372036854775808 + (if Q = 9007199254740992 then (if 2046 < x + 2 then 9218868437227405312 else (x + 1) * 4503599627370496 + 4503599627370496) else if 2046 < x + 1 then 9218868437227405312 else x * 4503599627370496 + Q) else (if Q = 9007199254740992 then (if 2046 < x + 2 then 9218868437227405312 else (x + 1) * 4503599627370496 + 4503599627370496) else if 2046 < x + 1 then 9218868437227405312 else x * 4503599627370496 + Q)) := by
      simp only [word_64]
      by_cases hQ : Q = 9007199254740992
      · subst hQ
        simp only [if_true]
        cases neg <;> simp <;> split <;> omega
      · simp only [if_neg hQ]
        cases neg <;> simp <;> split <;> omega
    rw [key]
    exact this
end Go.Proofs.Qxb6500275aGreatDoor
