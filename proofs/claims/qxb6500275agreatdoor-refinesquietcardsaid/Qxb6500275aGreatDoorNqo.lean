import Derived.Test.Qxb6500275aGreatDoorFlh
import Derived.Test.Qxb6500275aGreatDoorNqn
set_option maxRecDepth 100000
set_option linter.unusedVariables false
set_option linter.unusedSimpArgs false
namespace Go.Proofs.Qxb6500275aGreatDoor
open Go Go.RowKit
set_option maxHeartbeats 4000000 in
theorem whole_32_2 (a : Nat) (ha : a < 4294967296) (w : World) : Calls Tryz.prog 301 #[.int .i64 2, .int .i64 32, .int .u64 a] w (Pq w (.int .u64 ((wholeC Ieee.single 127 2143289344 2 a : Nat) : Int))) := by
  have hsw : Ieee.single.signWeight = 2147483648 := by decide
  have hfb : Ieee.single.fractionBits = 23 := rfl
  have hinf : Ieee.single.infRung = 2139095040 := by decide
  have hnan := fun w => isNaN_32 a ha w
  have hand := and_mask (a : Int) 31 2147483647 (by decide) (by decide) (by omega)
  rw [Int.toNat_natCast, show (2 : Nat) ^ 31 = 2147483648 by decide] at hand
  rw [show (2 : Nat) ^ 31 = 2147483648 by decide] at hnan
  have hB : a % 2147483648 < 2147483648 := Nat.mod_lt _ (by decide)
  have hsg : sgB Ieee.single a = decide (2147483648 ≤ a) := by unfold sgB; rw [hsw]
  unfold wholeC
  dsimp only
  rw [hsg, hsw, hfb, hinf, show (2 : Nat) ^ 23 = 8388608 by decide]
  generalize a % 2147483648 = B at *
  have hEi : (B : Int) / 8388608 = ((B / 8388608 : Nat) : Int) := by omega
  have hEl : B / 8388608 < 256 := by omega
  have hEB : 8388608 * (B / 8388608) ≤ B := by omega
  clear hsg hsw hfb hinf
  by_cases c0 : 2139095040 < B
  · rw [if_pos c0]
    have c0i : (2139095040 : Int) < (B : Int) := by omega
    rw [decide_eq_true c0i] at hnan
    go_enter Tryz.func301, Tryz.ntmps301
    go_wp2_with (first | (go_at_call 295; refine (hnan _).mono ?_; rintro en w2 ⟨rfl, rfl⟩) | (go_at_call 302; refine (canon_32 _).mono ?_; rintro en w2 ⟨rfl, rfl⟩) | (go_at_call 314; refine (prec_32 _).mono ?_; rintro en w2 ⟨rfl, rfl⟩) | (go_at_call 293; refine (top_32 _).mono ?_; rintro en w2 ⟨rfl, rfl⟩) | (go_at_call 315; refine (bias_32 _).mono ?_; rintro en w2 ⟨rfl, rfl⟩))
    refine bodyPost_ret (v := .int .u64 2143289344) (by simp [results, Tryz.results301, go_sem]) rfl ?_
    exact ⟨rfl, rfl⟩
  rw [if_neg c0]
  rw [decide_eq_false (show ¬ (2139095040 : Int) < (B : Int) by omega)] at hnan
  generalize hE : B / 8388608 = E at *
  by_cases c1 : 127 + 23 ≤ E
  · rw [if_pos (.inl c1)]
    have c1i : (23 : Int) ≤ (E : Int) - 127 := by omega
    go_enter Tryz.func301, Tryz.ntmps301
    go_wp2_with (first | (go_at_call 295; refine (hnan _).mono ?_; rintro en w2 ⟨rfl, rfl⟩) | (go_at_call 314; refine (prec_32 _).mono ?_; rintro en w2 ⟨rfl, rfl⟩) | (go_at_call 293; refine (top_32 _).mono ?_; rintro en w2 ⟨rfl, rfl⟩) | (go_at_call 315; refine (bias_32 _).mono ?_; rintro en w2 ⟨rfl, rfl⟩))
    refine bodyPost_ret (v := .int .u64 (a : Int)) (by simp [results, Tryz.results301, go_sem]) rfl ?_
    exact ⟨rfl, rfl⟩
  have c1i : ¬ (23 : Int) ≤ (E : Int) - 127 := by omega
  have c1d : decide ((23 : Int) ≤ (E : Int) - 127) = false := decide_eq_false c1i
  by_cases c2 : B = 0
  · rw [if_pos (.inr c2)]
    subst c2
    have hE0 : E = 0 := by omega
    subst hE0
    go_enter Tryz.func301, Tryz.ntmps301
    go_wp2_with (first | (go_at_call 295; refine (hnan _).mono ?_; rintro en w2 ⟨rfl, rfl⟩) | (go_at_call 314; refine (prec_32 _).mono ?_; rintro en w2 ⟨rfl, rfl⟩) | (go_at_call 293; refine (top_32 _).mono ?_; rintro en w2 ⟨rfl, rfl⟩) | (go_at_call 315; refine (bias_32 _).mono ?_; rintro en w2 ⟨rfl, rfl⟩))
    refine bodyPost_ret (v := .int .u64 (a : Int)) (by simp [results, Tryz.results301, go_sem]) rfl ?_
    exact ⟨rfl, rfl⟩
  rw [if_neg (by omega)]
  have c2b : ((B : Int) == 0) = false := by rw [beq_eq_false_iff_ne]; omega
  by_cases c3 : E < 127
  · rw [if_pos c3]
    have c3i : (E : Int) - 127 < 0 := by omega
    have hdn : ¬ 2147483648 ≤ a → ((2147483648 : Int) ≤ (a : Int)) = False := fun h => by simp; omega
    by_cases hs : 2147483648 ≤ a
    · rw [show decide (2147483648 ≤ a) = true from decide_eq_true hs]
      have hsi : (2147483648 : Int) ≤ (a : Int) := by omega
      have hsd : decide ((2147483648 : Int) ≤ (a : Int)) = true := decide_eq_true hsi
      clear hdn
      rw [if_neg (by simp)]
      go_enter Tryz.func301, Tryz.ntmps301
      go_wp2_with (first | (go_at_call 295; refine (hnan _).mono ?_; rintro en w2 ⟨rfl, rfl⟩) | (go_at_call 314; refine (prec_32 _).mono ?_; rintro en w2 ⟨rfl, rfl⟩) | (go_at_call 293; refine (top_32 _).mono ?_; rintro en w2 ⟨rfl, rfl⟩) | (go_at_call 315; refine (bias_32 _).mono ?_; rintro en w2 ⟨rfl, rfl⟩) | (go_at_call 316; refine (sign_32_true _).mono ?_; rintro en w2 ⟨rfl, rfl⟩))
      refine bodyPost_ret (v := .int .u64 2147483648) (by simp [results, Tryz.results301, go_sem]) rfl ?_
      exact ⟨rfl, rfl⟩
    · rw [show decide (2147483648 ≤ a) = false from decide_eq_false hs]
      have hsi : ¬ (2147483648 : Int) ≤ (a : Int) := by omega
      have hsd : decide ((2147483648 : Int) ≤ (a : Int)) = false := decide_eq_false hsi
      clear hdn
      rw [if_pos (by simp)]
      go_enter Tryz.func301, Tryz.ntmps301
      go_wp2_with (first | (go_at_call 295; refine (hnan _).mono ?_; rintro en w2 ⟨rfl, rfl⟩) | (go_at_call 314; refine (prec_32 _).mono ?_; rintro en w2 ⟨rfl, rfl⟩) | (go_at_call 293; refine (top_32 _).mono ?_; rintro en w2 ⟨rfl, rfl⟩) | (go_at_call 315; refine (bias_32 _).mono ?_; rintro en w2 ⟨rfl, rfl⟩) | (go_at_call 316; refine (sign_32_false _).mono ?_; rintro en w2 ⟨rfl, rfl⟩))
      refine bodyPost_ret (v := .int .u64 1065353216) (by simp [results, Tryz.results301, go_sem]) rfl ?_
      exact ⟨rfl, rfl⟩
  · rw [if_neg c3]
    have c3i : ¬ (E : Int) - 127 < 0 := by omega
    have c3d : decide ((E : Int) - 127 < 0) = false := decide_eq_false c3i
    by_cases c5 : E = 127
    · subst c5
      rw [show 23 - (127 - 127) = 23 by decide, show (2 : Nat) ^ 23 = 8388608 by decide, show 8388608 / 2 = 4194304 by decide]
      clear c3i c3d c1i c1d
      obtain ⟨r, hr⟩ : ∃ r : Nat, B % 8388608 = r := ⟨_, rfl⟩
      have hri : (B : Int) % (8388608 : Int) = (r : Int) := by rw [← hr]; simp
      have hrP : r < 8388608 := by rw [← hr]; exact Nat.mod_lt _ (by omega)
      have hrB : r ≤ B := by rw [← hr]; exact Nat.mod_le _ _
      rw [hr]
      by_cases c4 : r = 0
      · rw [if_pos c4]
        clear hr
        subst c4
        go_enter Tryz.func301, Tryz.ntmps301
        go_wp2_with (first | (go_at_call 295; refine (hnan _).mono ?_; rintro en w2 ⟨rfl, rfl⟩) | (go_at_call 314; refine (prec_32 _).mono ?_; rintro en w2 ⟨rfl, rfl⟩) | (go_at_call 293; refine (top_32 _).mono ?_; rintro en w2 ⟨rfl, rfl⟩) | (go_at_call 315; refine (bias_32 _).mono ?_; rintro en w2 ⟨rfl, rfl⟩))
        refine bodyPost_ret (v := .int .u64 (a : Int)) (by simp [results, Tryz.results301, go_sem]) rfl ?_
        exact ⟨rfl, rfl⟩
      rw [if_neg c4]
      have c4b : ((r : Int) == 0) = false := by rw [beq_eq_false_iff_ne]; omega
      obtain ⟨b0, hb0⟩ : ∃ b0 : Nat, B - r = b0 := ⟨_, rfl⟩
      have hb0i : (B : Int) - (r : Int) = (b0 : Int) := by omega
      have hb0l : b0 < 2147483648 := by omega
      rw [hb0]
      clear hr hb0
      by_cases hs : 2147483648 ≤ a
      · rw [show decide (2147483648 ≤ a) = true from decide_eq_true hs, word_32, word_32]
        simp only [if_true]
        have hsi : (2147483648 : Int) ≤ (a : Int) := by omega
        have hsd : decide ((2147483648 : Int) ≤ (a : Int)) = true := decide_eq_true hsi
        simp only [show ¬ (2 = 5) by decide, if_false]
        rw [if_neg (by simp)]
        go_enter Tryz.func301, Tryz.ntmps301
        go_wp2_with (first | (go_at_call 295; refine (hnan _).mono ?_; rintro en w2 ⟨rfl, rfl⟩) | (go_at_call 314; refine (prec_32 _).mono ?_; rintro en w2 ⟨rfl, rfl⟩) | (go_at_call 293; refine (top_32 _).mono ?_; rintro en w2 ⟨rfl, rfl⟩) | (go_at_call 315; refine (bias_32 _).mono ?_; rintro en w2 ⟨rfl, rfl⟩) | (go_at_call 316; refine (sign_32_true _).mono ?_; rintro en w2 ⟨rfl, rfl⟩))
        refine bodyPost_ret (v := .int .u64 (2147483648 + (b0 : Int))) (by simp [results, Tryz.results301, go_sem]) rfl ?_
        exact ⟨u64_eqa (by omega), rfl⟩
      · rw [show decide (2147483648 ≤ a) = false from decide_eq_false hs, word_32, word_32]
        simp only [Bool.false_eq_true, if_false]
        have hsi : ¬ (2147483648 : Int) ≤ (a : Int) := by omega
        have hsd : decide ((2147483648 : Int) ≤ (a : Int)) = false := decide_eq_false hsi
        simp only [show ¬ (2 = 5) by decide, if_false]
        rw [if_pos (by simp)]
        go_enter Tryz.func301, Tryz.ntmps301
        go_wp2_with (first | (go_at_call 295; refine (hnan _).mono ?_; rintro en w2 ⟨rfl, rfl⟩) | (go_at_call 314; refine (prec_32 _).mono ?_; rintro en w2 ⟨rfl, rfl⟩) | (go_at_call 293; refine (top_32 _).mono ?_; rintro en w2 ⟨rfl, rfl⟩) | (go_at_call 315; refine (bias_32 _).mono ?_; rintro en w2 ⟨rfl, rfl⟩) | (go_at_call 316; refine (sign_32_false _).mono ?_; rintro en w2 ⟨rfl, rfl⟩))
        refine bodyPost_ret (v := .int .u64 (((b0 : Int) + (8388608 : Int)))) (by simp [results, Tryz.results301, go_sem]) rfl ?_
        exact ⟨u64_eqa (by omega), rfl⟩
    · have c5i : ((E : Int) - 127 == 0) = false := by rw [beq_eq_false_iff_ne]; omega
      obtain ⟨c, hc⟩ : ∃ c : Nat, 23 - (E - 127) = c := ⟨_, rfl⟩
      have hci : (23 : Int) - ((E : Int) - 127) = (c : Int) := by omega
      have hcb : 1 ≤ c ∧ c ≤ 23 := by omega
      rw [hc]
      have hP2 : 2 ^ c = 2 * 2 ^ (c - 1) := by rw [Nat.mul_comm, ← Nat.pow_succ]; congr 1; omega
      have hPl : 2 ^ c ≤ 2 ^ 23 := Nat.pow_le_pow_right (by decide) hcb.2
      have hpw : IntKind.u64.wrap (2 ^ c) = ((2 ^ c : Nat) : Int) := by
        rw [wrap_u64]
        have : ((2 ^ c : Nat) : Int) = (2 : Int) ^ c := by simp
        rw [← this]
        omega
      have hP0 : 0 < 2 ^ (c - 1) := Nat.two_pow_pos _
      obtain ⟨P, hP⟩ : ∃ P : Nat, 2 ^ c = P := ⟨_, rfl⟩
      rw [hP] at hpw hP2 hPl ⊢
      obtain ⟨hh, hhE⟩ : ∃ hh : Nat, 2 ^ (c - 1) = hh := ⟨_, rfl⟩
      rw [hhE] at hP2 hP0
      have hPh : (P : Int) / 2 = (hh : Int) := by omega
      have hPz : ((P : Int) == 0) = false := by rw [beq_eq_false_iff_ne]; omega
      have hP64 : 0 < P ∧ P ≤ 8388608 := by omega
      have hhP : hh < P := by omega
      rw [show P / 2 = hh by omega]
      clear hP2 hP hhE hc hPl
      obtain ⟨r, hr⟩ : ∃ r : Nat, B % P = r := ⟨_, rfl⟩
      have hri : (B : Int) % (P : Int) = (r : Int) := by rw [← hr]; simp
      have hrP : r < P := by rw [← hr]; exact Nat.mod_lt _ (by omega)
      have hrB : r ≤ B := by rw [← hr]; exact Nat.mod_le _ _
      rw [hr]
      by_cases c4 : r = 0
      · rw [if_pos c4]
        clear hr
        subst c4
        go_enter Tryz.func301, Tryz.ntmps301
        go_wp2_with (first | (go_at_call 295; refine (hnan _).mono ?_; rintro en w2 ⟨rfl, rfl⟩) | (go_at_call 314; refine (prec_32 _).mono ?_; rintro en w2 ⟨rfl, rfl⟩) | (go_at_call 293; refine (top_32 _).mono ?_; rintro en w2 ⟨rfl, rfl⟩) | (go_at_call 315; refine (bias_32 _).mono ?_; rintro en w2 ⟨rfl, rfl⟩))
        refine bodyPost_ret (v := .int .u64 (a : Int)) (by simp [results, Tryz.results301, go_sem]) rfl ?_
        exact ⟨rfl, rfl⟩
      rw [if_neg c4]
      have c4b : ((r : Int) == 0) = false := by rw [beq_eq_false_iff_ne]; omega
      obtain ⟨b0, hb0⟩ : ∃ b0 : Nat, B - r = b0 := ⟨_, rfl⟩
      have hb0i : (B : Int) - (r : Int) = (b0 : Int) := by omega
      have hb0l : b0 < 2147483648 := by omega
      obtain ⟨y, hy⟩ : ∃ y : Nat, b0 / P = y := ⟨_, rfl⟩
      have hyi : (b0 : Int) / (P : Int) = (y : Int) := by rw [← hy]; simp
      have hytd : (b0 : Int).tdiv (P : Int) = (y : Int) := by rw [Int.tdiv_eq_ediv_of_nonneg (by omega)]; exact hyi
      have hyb : y < 18446744073709551616 := by rw [← hy]; exact Nat.lt_of_le_of_lt (Nat.div_le_self _ _) (by omega)
      rw [hb0, hy]
      clear hr hy hb0
      by_cases hs : 2147483648 ≤ a
      · rw [show decide (2147483648 ≤ a) = true from decide_eq_true hs, word_32, word_32]
        simp only [if_true]
        have hsi : (2147483648 : Int) ≤ (a : Int) := by omega
        have hsd : decide ((2147483648 : Int) ≤ (a : Int)) = true := decide_eq_true hsi
        simp only [show ¬ (2 = 5) by decide, if_false]
        rw [if_neg (by simp)]
        go_enter Tryz.func301, Tryz.ntmps301
        go_wp2_with (first | (go_at_call 295; refine (hnan _).mono ?_; rintro en w2 ⟨rfl, rfl⟩) | (go_at_call 314; refine (prec_32 _).mono ?_; rintro en w2 ⟨rfl, rfl⟩) | (go_at_call 293; refine (top_32 _).mono ?_; rintro en w2 ⟨rfl, rfl⟩) | (go_at_call 315; refine (bias_32 _).mono ?_; rintro en w2 ⟨rfl, rfl⟩) | (go_at_call 316; refine (sign_32_true _).mono ?_; rintro en w2 ⟨rfl, rfl⟩))
        refine bodyPost_ret (v := .int .u64 (2147483648 + (b0 : Int))) (by simp [results, Tryz.results301, go_sem]) rfl ?_
        exact ⟨u64_eqa (by omega), rfl⟩
      · rw [show decide (2147483648 ≤ a) = false from decide_eq_false hs, word_32, word_32]
        simp only [Bool.false_eq_true, if_false]
        have hsi : ¬ (2147483648 : Int) ≤ (a : Int) := by omega
        have hsd : decide ((2147483648 : Int) ≤ (a : Int)) = false := decide_eq_false hsi
        simp only [show ¬ (2 = 5) by decide, if_false]
        rw [if_pos (by simp)]
        go_enter Tryz.func301, Tryz.ntmps301
        go_wp2_with (first | (go_at_call 295; refine (hnan _).mono ?_; rintro en w2 ⟨rfl, rfl⟩) | (go_at_call 314; refine (prec_32 _).mono ?_; rintro en w2 ⟨rfl, rfl⟩) | (go_at_call 293; refine (top_32 _).mono ?_; rintro en w2 ⟨rfl, rfl⟩) | (go_at_call 315; refine (bias_32 _).mono ?_; rintro en w2 ⟨rfl, rfl⟩) | (go_at_call 316; refine (sign_32_false _).mono ?_; rintro en w2 ⟨rfl, rfl⟩))
        refine bodyPost_ret (v := .int .u64 (((b0 : Int) + (P : Int)))) (by simp [results, Tryz.results301, go_sem]) rfl ?_
        exact ⟨u64_eqa (by omega), rfl⟩
set_option maxHeartbeats 4000000 in
theorem whole_32_3 (a : Nat) (ha : a < 4294967296) (w : World) : Calls Tryz.prog 301 #[.int .i64 3, .int .i64 32, .int .u64 a] w (Pq w (.int .u64 ((wholeC Ieee.single 127 2143289344 3 a : Nat) : Int))) := by
  have hsw : Ieee.single.signWeight = 2147483648 := by decide
  have hfb : Ieee.single.fractionBits = 23 := rfl
  have hinf : Ieee.single.infRung = 2139095040 := by decide
  have hnan := fun w => isNaN_32 a ha w
  have hand := and_mask (a : Int) 31 2147483647 (by decide) (by decide) (by omega)
  rw [Int.toNat_natCast, show (2 : Nat) ^ 31 = 2147483648 by decide] at hand
  rw [show (2 : Nat) ^ 31 = 2147483648 by decide] at hnan
  have hB : a % 2147483648 < 2147483648 := Nat.mod_lt _ (by decide)
  have hsg : sgB Ieee.single a = decide (2147483648 ≤ a) := by unfold sgB; rw [hsw]
  unfold wholeC
  dsimp only
  rw [hsg, hsw, hfb, hinf, show (2 : Nat) ^ 23 = 8388608 by decide]
  generalize a % 2147483648 = B at *
  have hEi : (B : Int) / 8388608 = ((B / 8388608 : Nat) : Int) := by omega
  have hEl : B / 8388608 < 256 := by omega
  have hEB : 8388608 * (B / 8388608) ≤ B := by omega
  clear hsg hsw hfb hinf
  by_cases c0 : 2139095040 < B
  · rw [if_pos c0]
    have c0i : (2139095040 : Int) < (B : Int) := by omega
    rw [decide_eq_true c0i] at hnan
    go_enter Tryz.func301, Tryz.ntmps301
    go_wp2_with (first | (go_at_call 295; refine (hnan _).mono ?_; rintro en w2 ⟨rfl, rfl⟩) | (go_at_call 302; refine (canon_32 _).mono ?_; rintro en w2 ⟨rfl, rfl⟩) | (go_at_call 314; refine (prec_32 _).mono ?_; rintro en w2 ⟨rfl, rfl⟩) | (go_at_call 293; refine (top_32 _).mono ?_; rintro en w2 ⟨rfl, rfl⟩) | (go_at_call 315; refine (bias_32 _).mono ?_; rintro en w2 ⟨rfl, rfl⟩))
    refine bodyPost_ret (v := .int .u64 2143289344) (by simp [results, Tryz.results301, go_sem]) rfl ?_
    exact ⟨rfl, rfl⟩
  rw [if_neg c0]
  rw [decide_eq_false (show ¬ (2139095040 : Int) < (B : Int) by omega)] at hnan
  generalize hE : B / 8388608 = E at *
  by_cases c1 : 127 + 23 ≤ E
  · rw [if_pos (.inl c1)]
    have c1i : (23 : Int) ≤ (E : Int) - 127 := by omega
    go_enter Tryz.func301, Tryz.ntmps301
    go_wp2_with (first | (go_at_call 295; refine (hnan _).mono ?_; rintro en w2 ⟨rfl, rfl⟩) | (go_at_call 314; refine (prec_32 _).mono ?_; rintro en w2 ⟨rfl, rfl⟩) | (go_at_call 293; refine (top_32 _).mono ?_; rintro en w2 ⟨rfl, rfl⟩) | (go_at_call 315; refine (bias_32 _).mono ?_; rintro en w2 ⟨rfl, rfl⟩))
    refine bodyPost_ret (v := .int .u64 (a : Int)) (by simp [results, Tryz.results301, go_sem]) rfl ?_
    exact ⟨rfl, rfl⟩
  have c1i : ¬ (23 : Int) ≤ (E : Int) - 127 := by omega
  have c1d : decide ((23 : Int) ≤ (E : Int) - 127) = false := decide_eq_false c1i
  by_cases c2 : B = 0
  · rw [if_pos (.inr c2)]
    subst c2
    have hE0 : E = 0 := by omega
    subst hE0
    go_enter Tryz.func301, Tryz.ntmps301
    go_wp2_with (first | (go_at_call 295; refine (hnan _).mono ?_; rintro en w2 ⟨rfl, rfl⟩) | (go_at_call 314; refine (prec_32 _).mono ?_; rintro en w2 ⟨rfl, rfl⟩) | (go_at_call 293; refine (top_32 _).mono ?_; rintro en w2 ⟨rfl, rfl⟩) | (go_at_call 315; refine (bias_32 _).mono ?_; rintro en w2 ⟨rfl, rfl⟩))
    refine bodyPost_ret (v := .int .u64 (a : Int)) (by simp [results, Tryz.results301, go_sem]) rfl ?_
    exact ⟨rfl, rfl⟩
  rw [if_neg (by omega)]
  have c2b : ((B : Int) == 0) = false := by rw [beq_eq_false_iff_ne]; omega
  by_cases c3 : E < 127
  · rw [if_pos c3]
    have c3i : (E : Int) - 127 < 0 := by omega
    have hdn : ¬ 2147483648 ≤ a → ((2147483648 : Int) ≤ (a : Int)) = False := fun h => by simp; omega
    by_cases hs : 2147483648 ≤ a
    · rw [show decide (2147483648 ≤ a) = true from decide_eq_true hs]
      have hsi : (2147483648 : Int) ≤ (a : Int) := by omega
      have hsd : decide ((2147483648 : Int) ≤ (a : Int)) = true := decide_eq_true hsi
      clear hdn
      rw [if_pos (by simp)]
      go_enter Tryz.func301, Tryz.ntmps301
      go_wp2_with (first | (go_at_call 295; refine (hnan _).mono ?_; rintro en w2 ⟨rfl, rfl⟩) | (go_at_call 314; refine (prec_32 _).mono ?_; rintro en w2 ⟨rfl, rfl⟩) | (go_at_call 293; refine (top_32 _).mono ?_; rintro en w2 ⟨rfl, rfl⟩) | (go_at_call 315; refine (bias_32 _).mono ?_; rintro en w2 ⟨rfl, rfl⟩) | (go_at_call 316; refine (sign_32_true _).mono ?_; rintro en w2 ⟨rfl, rfl⟩))
      refine bodyPost_ret (v := .int .u64 3212836864) (by simp [results, Tryz.results301, go_sem]) rfl ?_
      exact ⟨rfl, rfl⟩
    · rw [show decide (2147483648 ≤ a) = false from decide_eq_false hs]
      have hsi : ¬ (2147483648 : Int) ≤ (a : Int) := by omega
      have hsd : decide ((2147483648 : Int) ≤ (a : Int)) = false := decide_eq_false hsi
      clear hdn
      rw [if_neg (by simp)]
      go_enter Tryz.func301, Tryz.ntmps301
      go_wp2_with (first | (go_at_call 295; refine (hnan _).mono ?_; rintro en w2 ⟨rfl, rfl⟩) | (go_at_call 314; refine (prec_32 _).mono ?_; rintro en w2 ⟨rfl, rfl⟩) | (go_at_call 293; refine (top_32 _).mono ?_; rintro en w2 ⟨rfl, rfl⟩) | (go_at_call 315; refine (bias_32 _).mono ?_; rintro en w2 ⟨rfl, rfl⟩) | (go_at_call 316; refine (sign_32_false _).mono ?_; rintro en w2 ⟨rfl, rfl⟩))
      refine bodyPost_ret (v := .int .u64 0) (by simp [results, Tryz.results301, go_sem]) rfl ?_
      exact ⟨rfl, rfl⟩
  · rw [if_neg c3]
    have c3i : ¬ (E : Int) - 127 < 0 := by omega
    have c3d : decide ((E : Int) - 127 < 0) = false := decide_eq_false c3i
    by_cases c5 : E = 127
    · subst c5
      rw [show 23 - (127 - 127) = 23 by decide, show (2 : Nat) ^ 23 = 8388608 by decide, show 8388608 / 2 = 4194304 by decide]
      clear c3i c3d c1i c1d
      obtain ⟨r, hr⟩ : ∃ r : Nat, B % 8388608 = r := ⟨_, rfl⟩
      have hri : (B : Int) % (8388608 : Int) = (r : Int) := by rw [← hr]; simp
      have hrP : r < 8388608 := by rw [← hr]; exact Nat.mod_lt _ (by omega)
      have hrB : r ≤ B := by rw [← hr]; exact Nat.mod_le _ _
      rw [hr]
      by_cases c4 : r = 0
      · rw [if_pos c4]
        clear hr
        subst c4
        go_enter Tryz.func301, Tryz.ntmps301
        go_wp2_with (first | (go_at_call 295; refine (hnan _).mono ?_; rintro en w2 ⟨rfl, rfl⟩) | (go_at_call 314; refine (prec_32 _).mono ?_; rintro en w2 ⟨rfl, rfl⟩) | (go_at_call 293; refine (top_32 _).mono ?_; rintro en w2 ⟨rfl, rfl⟩) | (go_at_call 315; refine (bias_32 _).mono ?_; rintro en w2 ⟨rfl, rfl⟩))
        refine bodyPost_ret (v := .int .u64 (a : Int)) (by simp [results, Tryz.results301, go_sem]) rfl ?_
        exact ⟨rfl, rfl⟩
      rw [if_neg c4]
      have c4b : ((r : Int) == 0) = false := by rw [beq_eq_false_iff_ne]; omega
      obtain ⟨b0, hb0⟩ : ∃ b0 : Nat, B - r = b0 := ⟨_, rfl⟩
      have hb0i : (B : Int) - (r : Int) = (b0 : Int) := by omega
      have hb0l : b0 < 2147483648 := by omega
      rw [hb0]
      clear hr hb0
      by_cases hs : 2147483648 ≤ a
      · rw [show decide (2147483648 ≤ a) = true from decide_eq_true hs, word_32, word_32]
        simp only [if_true]
        have hsi : (2147483648 : Int) ≤ (a : Int) := by omega
        have hsd : decide ((2147483648 : Int) ≤ (a : Int)) = true := decide_eq_true hsi
        simp only [show ¬ (3 = 5) by decide, if_false]
        rw [if_pos (by simp)]
        go_enter Tryz.func301, Tryz.ntmps301
        go_wp2_with (first | (go_at_call 295; refine (hnan _).mono ?_; rintro en w2 ⟨rfl, rfl⟩) | (go_at_call 314; refine (prec_32 _).mono ?_; rintro en w2 ⟨rfl, rfl⟩) | (go_at_call 293; refine (top_32 _).mono ?_; rintro en w2 ⟨rfl, rfl⟩) | (go_at_call 315; refine (bias_32 _).mono ?_; rintro en w2 ⟨rfl, rfl⟩) | (go_at_call 316; refine (sign_32_true _).mono ?_; rintro en w2 ⟨rfl, rfl⟩))
        refine bodyPost_ret (v := .int .u64 (2147483648 + ((b0 : Int) + (8388608 : Int)))) (by simp [results, Tryz.results301, go_sem]) rfl ?_
        exact ⟨u64_eqa (by omega), rfl⟩
      · rw [show decide (2147483648 ≤ a) = false from decide_eq_false hs, word_32, word_32]
        simp only [Bool.false_eq_true, if_false]
        have hsi : ¬ (2147483648 : Int) ≤ (a : Int) := by omega
        have hsd : decide ((2147483648 : Int) ≤ (a : Int)) = false := decide_eq_false hsi
        simp only [show ¬ (3 = 5) by decide, if_false]
        rw [if_neg (by simp)]
        go_enter Tryz.func301, Tryz.ntmps301
        go_wp2_with (first | (go_at_call 295; refine (hnan _).mono ?_; rintro en w2 ⟨rfl, rfl⟩) | (go_at_call 314; refine (prec_32 _).mono ?_; rintro en w2 ⟨rfl, rfl⟩) | (go_at_call 293; refine (top_32 _).mono ?_; rintro en w2 ⟨rfl, rfl⟩) | (go_at_call 315; refine (bias_32 _).mono ?_; rintro en w2 ⟨rfl, rfl⟩) | (go_at_call 316; refine (sign_32_false _).mono ?_; rintro en w2 ⟨rfl, rfl⟩))
        refine bodyPost_ret (v := .int .u64 ((b0 : Int))) (by simp [results, Tryz.results301, go_sem]) rfl ?_
        exact ⟨u64_eqa (by omega), rfl⟩
    · have c5i : ((E : Int) - 127 == 0) = false := by rw [beq_eq_false_iff_ne]; omega
      obtain ⟨c, hc⟩ : ∃ c : Nat, 23 - (E - 127) = c := ⟨_, rfl⟩
      have hci : (23 : Int) - ((E : Int) - 127) = (c : Int) := by omega
      have hcb : 1 ≤ c ∧ c ≤ 23 := by omega
      rw [hc]
      have hP2 : 2 ^ c = 2 * 2 ^ (c - 1) := by rw [Nat.mul_comm, ← Nat.pow_succ]; congr 1; omega
      have hPl : 2 ^ c ≤ 2 ^ 23 := Nat.pow_le_pow_right (by decide) hcb.2
      have hpw : IntKind.u64.wrap (2 ^ c) = ((2 ^ c : Nat) : Int) := by
        rw [wrap_u64]
        have : ((2 ^ c : Nat) : Int) = (2 : Int) ^ c := by simp
        rw [← this]
        omega
      have hP0 : 0 < 2 ^ (c - 1) := Nat.two_pow_pos _
      obtain ⟨P, hP⟩ : ∃ P : Nat, 2 ^ c = P := ⟨_, rfl⟩
      rw [hP] at hpw hP2 hPl ⊢
      obtain ⟨hh, hhE⟩ : ∃ hh : Nat, 2 ^ (c - 1) = hh := ⟨_, rfl⟩
      rw [hhE] at hP2 hP0
      have hPh : (P : Int) / 2 = (hh : Int) := by omega
      have hPz : ((P : Int) == 0) = false := by rw [beq_eq_false_iff_ne]; omega
      have hP64 : 0 < P ∧ P ≤ 8388608 := by omega
      have hhP : hh < P := by omega
      rw [show P / 2 = hh by omega]
      clear hP2 hP hhE hc hPl
      obtain ⟨r, hr⟩ : ∃ r : Nat, B % P = r := ⟨_, rfl⟩
      have hri : (B : Int) % (P : Int) = (r : Int) := by rw [← hr]; simp
      have hrP : r < P := by rw [← hr]; exact Nat.mod_lt _ (by omega)
      have hrB : r ≤ B := by rw [← hr]; exact Nat.mod_le _ _
      rw [hr]
      by_cases c4 : r = 0
      · rw [if_pos c4]
        clear hr
        subst c4
        go_enter Tryz.func301, Tryz.ntmps301
        go_wp2_with (first | (go_at_call 295; refine (hnan _).mono ?_; rintro en w2 ⟨rfl, rfl⟩) | (go_at_call 314; refine (prec_32 _).mono ?_; rintro en w2 ⟨rfl, rfl⟩) | (go_at_call 293; refine (top_32 _).mono ?_; rintro en w2 ⟨rfl, rfl⟩) | (go_at_call 315; refine (bias_32 _).mono ?_; rintro en w2 ⟨rfl, rfl⟩))
        refine bodyPost_ret (v := .int .u64 (a : Int)) (by simp [results, Tryz.results301, go_sem]) rfl ?_
        exact ⟨rfl, rfl⟩
      rw [if_neg c4]
      have c4b : ((r : Int) == 0) = false := by rw [beq_eq_false_iff_ne]; omega
      obtain ⟨b0, hb0⟩ : ∃ b0 : Nat, B - r = b0 := ⟨_, rfl⟩
      have hb0i : (B : Int) - (r : Int) = (b0 : Int) := by omega
      have hb0l : b0 < 2147483648 := by omega
      obtain ⟨y, hy⟩ : ∃ y : Nat, b0 / P = y := ⟨_, rfl⟩
      have hyi : (b0 : Int) / (P : Int) = (y : Int) := by rw [← hy]; simp
      have hytd : (b0 : Int).tdiv (P : Int) = (y : Int) := by rw [Int.tdiv_eq_ediv_of_nonneg (by omega)]; exact hyi
      have hyb : y < 18446744073709551616 := by rw [← hy]; exact Nat.lt_of_le_of_lt (Nat.div_le_self _ _) (by omega)
      rw [hb0, hy]
      clear hr hy hb0
      by_cases hs : 2147483648 ≤ a
      · rw [show decide (2147483648 ≤ a) = true from decide_eq_true hs, word_32, word_32]
        simp only [if_true]
        have hsi : (2147483648 : Int) ≤ (a : Int) := by omega
        have hsd : decide ((2147483648 : Int) ≤ (a : Int)) = true := decide_eq_true hsi
        simp only [show ¬ (3 = 5) by decide, if_false]
        rw [if_pos (by simp)]
        go_enter Tryz.func301, Tryz.ntmps301
        go_wp2_with (first | (go_at_call 295; refine (hnan _).mono ?_; rintro en w2 ⟨rfl, rfl⟩) | (go_at_call 314; refine (prec_32 _).mono ?_; rintro en w2 ⟨rfl, rfl⟩) | (go_at_call 293; refine (top_32 _).mono ?_; rintro en w2 ⟨rfl, rfl⟩) | (go_at_call 315; refine (bias_32 _).mono ?_; rintro en w2 ⟨rfl, rfl⟩) | (go_at_call 316; refine (sign_32_true _).mono ?_; rintro en w2 ⟨rfl, rfl⟩))
        refine bodyPost_ret (v := .int .u64 (2147483648 + ((b0 : Int) + (P : Int)))) (by simp [results, Tryz.results301, go_sem]) rfl ?_
        exact ⟨u64_eqa (by omega), rfl⟩
      · rw [show decide (2147483648 ≤ a) = false from decide_eq_false hs, word_32, word_32]
        simp only [Bool.false_eq_true, if_false]
        have hsi : ¬ (2147483648 : Int) ≤ (a : Int) := by omega
        have hsd : decide ((2147483648 : Int) ≤ (a : Int)) = false := decide_eq_false hsi
        simp only [show ¬ (3 = 5) by decide, if_false]
        rw [if_neg (by simp)]
        go_enter Tryz.func301, Tryz.ntmps301
        go_wp2_with (first | (go_at_call 295; refine (hnan _).mono ?_; rintro en w2 ⟨rfl, rfl⟩) | (go_at_call 314; refine (prec_32 _).mono ?_; rintro en w2 ⟨rfl, rfl⟩) | (go_at_call 293; refine (top_32 _).mono ?_; rintro en w2 ⟨rfl, rfl⟩) | (go_at_call 315; refine (bias_32 _).mono ?_; rintro en w2 ⟨rfl, rfl⟩) | (go_at_call 316; refine (sign_32_false _).mono ?_; rintro en w2 ⟨rfl, rfl⟩))
        refine bodyPost_ret (v := .int .u64 ((b0 : Int))) (by simp [results, Tryz.results301, go_sem]) rfl ?_
        exact ⟨u64_eqa (by omega), rfl⟩
end Go.Proofs.Qxb6500275aGreatDoor
