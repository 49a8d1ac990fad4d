import Derived.Test.Qxb6500275aGreatDoorNql
set_option maxRecDepth 100000
set_option linter.unusedVariables false
set_option linter.unusedSimpArgs false
namespace Go.Proofs.Qxb6500275aGreatDoor
open Go Go.RowKit
theorem sq_pair {X k : Nat} (hX : X < 72057594037927936) (hk : k < 56) : X * 72057594037927936 / 4 ^ (56 - (k + 1)) = 4 * (X * 72057594037927936 / 4 ^ (56 - k)) + (if k < 28 then X / 2 ^ (54 - 2 * k) % 4 else 0) := by
  have e4 : ∀ j : Nat, 4 ^ j = 2 ^ (2 * j) := fun j => by rw [show (4 : Nat) = 2 ^ 2 by decide, ← Nat.pow_mul]
  have e1 : 4 ^ (56 - k) = 4 ^ (56 - (k + 1)) * 4 := by rw [← Nat.pow_succ]; congr 1; omega
  rw [e1, ← Nat.div_div_eq_div_mul]
  have hm : (X * 72057594037927936 / 4 ^ (56 - (k + 1))) % 4 = if k < 28 then X / 2 ^ (54 - 2 * k) % 4 else 0 := by
    rw [e4]
    by_cases h : k < 28
    · rw [if_pos h]
      have : 2 ^ (2 * (56 - (k + 1))) = 2 ^ (54 - 2 * k) * 2 ^ 56 := by rw [← Nat.pow_add]; congr 1; omega
      rw [this, show (72057594037927936 : Nat) = 2 ^ 56 by decide, Nat.mul_div_mul_right _ _ (Nat.two_pow_pos 56)]
    · rw [if_neg h]
      have : (72057594037927936 : Nat) = 2 ^ (2 * (k - 28) + 2) * 2 ^ (2 * (56 - (k + 1))) := by rw [← Nat.pow_add, show (72057594037927936 : Nat) = 2 ^ 56 by decide]; congr 1; omega
      rw [this, ← Nat.mul_assoc, Nat.mul_div_cancel _ (Nat.two_pow_pos _), Nat.pow_add, ← Nat.mul_assoc]
      exact Nat.mul_mod_left _ _
  rw [← hm]
  generalize X * 72057594037927936 / 4 ^ (56 - (k + 1)) = Y
  omega
theorem sq_step {P r p : Nat} (h : Rt P r) (hp : p < 4) : (4 * r + 1 ≤ 4 * (P - r * r) + p → Rt (4 * P + p) (2 * r + 1) ∧ 4 * P + p - (2 * r + 1) * (2 * r + 1) = 4 * (P - r * r) + p - (4 * r + 1)) ∧ (4 * (P - r * r) + p < 4 * r + 1 → Rt (4 * P + p) (2 * r) ∧ 4 * P + p - (2 * r) * (2 * r) = 4 * (P - r * r) + p) ∧ P - r * r ≤ 2 * r := by
  obtain ⟨h1, h2⟩ := h
  have e1 : (r + 1) * (r + 1) = r * r + 2 * r + 1 := by rw [Nat.add_mul, Nat.mul_add, Nat.one_mul, Nat.mul_one]; omega
  have e2 : (2 * r + 1) * (2 * r + 1) = 4 * (r * r) + 4 * r + 1 := by
    have : 2 * r * (2 * r) = 4 * (r * r) := by rw [Nat.mul_mul_mul_comm]
    rw [Nat.add_mul, Nat.mul_add, Nat.one_mul, Nat.mul_one, this]; omega
  have e3 : (2 * r + 1 + 1) * (2 * r + 1 + 1) = 4 * (r * r) + 8 * r + 4 := by
    have : 2 * r * (2 * r) = 4 * (r * r) := by rw [Nat.mul_mul_mul_comm]
    rw [Nat.add_assoc, Nat.add_mul, Nat.mul_add, this]; omega
  have e4 : 2 * r * (2 * r) = 4 * (r * r) := by rw [Nat.mul_mul_mul_comm]
  rw [e1] at h2
  refine ⟨fun h => ⟨⟨?_, ?_⟩, ?_⟩, fun h => ⟨⟨?_, ?_⟩, ?_⟩, by omega⟩
  · rw [e2]; omega
  · rw [e3]; omega
  · rw [e2]; omega
  · rw [e4]; omega
  · rw [e2]; omega
  · rw [e4]; omega
theorem rt_small {P r k : Nat} (h : Rt P r) (hP : P < 4 ^ k) : r < 2 ^ k := by
  refine h.lt ?_
  rw [← Nat.pow_add, show k + k = 2 * k by omega, Nat.pow_mul]
  exact hP
set_option maxHeartbeats 4000000 in
theorem sqrt_even {F : Ieee.Format} {bi : Nat} {f : Int} (a : Nat) (ha2 : a < 18446744073709551616) (m : Nat) (i : Int) (hm64 : m < 18446744073709551616) (he1 : -3000 ≤ i) (he2 : i ≤ 3000)
  (HR : Hid (∀ (neg st : Bool) (m : Nat) (e : Int), m ≠ 0 → m < 18446744073709551616 → -30000 ≤ e ∧ e ≤ 30000 → ∀ w, Calls Tryz.prog 313 #[.int .i64 f, .bool neg, .int .u64 m, .int .i64 e, .bool st] w (Pq w (.int .u64 ((softRound F bi neg m e st : Nat) : Int)))))
  (hU : ∀ w, Calls Tryz.prog 311 #[.int .i64 f, .int .u64 a] w (Pq w (.tuple #[.bool false, .int .i64 1, .int .u64 m, .int .i64 i])))
  (M X : Nat) (E H : Int) (hL : ∀ w, Calls Tryz.prog 312 #[.int .u64 m, .int .i64 i, .int .i64 54] w (Pq w (.tuple #[.int .u64 M, .int .i64 E])))
  (bX : 18014398509481984 ≤ X ∧ X < 72057594037927936) (g1 : -3100 ≤ E ∧ E ≤ 3000) (hodd : E.tmod 2 = 0) (hXM : X = M) (hH : (E - 56).tdiv 2 = H) (hHb : -3000 ≤ H ∧ H ≤ 3000)
  (w : World) : Calls Tryz.prog 300 #[.int .i64 f, .int .u64 a] w (Pq w (.int .u64 ((softRound F bi false (rootN (X * 72057594037927936)) H (decide (rootN (X * 72057594037927936) * rootN (X * 72057594037927936) ≠ X * 72057594037927936)) : Nat) : Int))) := by
  have HS : Hid (∀ k, k < 56 → X * 72057594037927936 / 4 ^ (56 - (k + 1)) = 4 * (X * 72057594037927936 / 4 ^ (56 - k)) + (if k < 28 then X / 2 ^ (54 - 2 * k) % 4 else 0)) := fun k hk => sq_pair bX.2 hk
  have HB : Hid (∀ k, k ≤ 56 → X * 72057594037927936 / 4 ^ (56 - k) < 4 ^ k) := fun k hk => by
    rw [Nat.div_lt_iff_lt_mul (Nat.pow_pos (by decide)), ← Nat.pow_add, show k + (56 - k) = 56 by omega]
    omega
  obtain ⟨Z, HZ⟩ : ∃ Z : Nat, Hid (Z = softRound F bi false (rootN (X * 72057594037927936)) H (decide (rootN (X * 72057594037927936) * rootN (X * 72057594037927936) ≠ X * 72057594037927936))) := ⟨_, rfl⟩
  have HT := rootN_rt (X * 72057594037927936)
  have HT2 : Hid (Rt (X * 72057594037927936) (rootN (X * 72057594037927936))) := HT
  clear HT
  rw [← HZ.out]
  subst hXM
  go_enter Tryz.func300, Tryz.ntmps300
  go_wp2_with (first | (go_at_call 311; refine (hU _).mono ?_; rintro en w2 ⟨rfl, rfl⟩) | (go_at_call 312; refine (hL _).mono ?_; rintro en w2 ⟨rfl, rfl⟩))
  go_loopw [9, 10, 11] (fun qq rr ii u => ∃ (k Q R : Nat), k ≤ 56 ∧ ii = .int .i64 k ∧ qq = .int .u64 Q ∧ rr = .int .u64 R ∧ u = w2 ∧ Hid (Rt (X * 72057594037927936 / 4 ^ (56 - k)) Q) ∧ Hid (R = X * 72057594037927936 / 4 ^ (56 - k) - Q * Q)) (fun _ _ ii _ => (56 - intOf ii).toNat)
  case atStart =>
    have h0 : X * 72057594037927936 / 4 ^ (56 - 0) = 0 := by
      have h4 : (4 : Nat) ^ (56 - 0) = 5192296858534827628530496329220096 := by decide
      exact Nat.div_eq_of_lt (by omega)
    refine ⟨0, 0, 0, by omega, rfl, rfl, rfl, by first | rfl | assumption, ?_, ?_⟩
    · show Rt _ _
      rw [h0]
      exact ⟨by decide, by decide⟩
    · show _ = _
      rw [h0]
  case round =>
    obtain ⟨k, Q, R, hk, rfl, rfl, rfl, rfl, HQk, HRk⟩ := hrel
    have hQb := rt_small HQk.out (HB.out k hk)
    have hRb := (sq_step HQk.out (show 0 < 4 by decide)).2.2
    rw [← HRk.out] at hRb
    have hQ56 : Q < 72057594037927936 := Nat.lt_of_lt_of_le hQb (Nat.pow_le_pow_right (by decide) hk)
    clear hQb
    by_cases hlt : k < 56
    · have hki : (k : Int) < 56 := by omega
      have hpr := HS.out k hlt
      obtain ⟨p, hp, hp4⟩ : ∃ p : Nat, (if k < 28 then X / 2 ^ (54 - 2 * k) % 4 else 0) = p ∧ p < 4 := ⟨_, rfl, by split; exact Nat.mod_lt _ (by decide); decide⟩
      rw [hp] at hpr
      obtain ⟨st1, st2, _⟩ := sq_step HQk.out hp4
      rw [← hpr, ← HRk.out] at st1 st2
      have HP : Hid ((k < 28 → bits .and .u64 ((X : Int) / 2 ^ (54 - 2 * k)) 3 = (p : Int)) ∧ (¬ k < 28 → p = 0)) := by
        constructor
        · intro h
          rw [if_pos h] at hp
          have hnn : (X : Int) / 2 ^ (54 - 2 * k) = ((X / 2 ^ (54 - 2 * k) : Nat) : Int) := by simp
          rw [hnn]
          have hle : X / 2 ^ (54 - 2 * k) ≤ X := Nat.div_le_self _ _
          generalize X / 2 ^ (54 - 2 * k) = yy at hp hle ⊢
          have := and_mask (yy : Int) 2 3 (by decide) (by decide) (by omega)
          rw [this, Int.toNat_natCast, show (2 : Nat) ^ 2 = 4 by decide, hp]
        · intro h
          rw [if_neg h] at hp
          exact hp.symm
      have HK : Hid (56 - (k + 1) = 56 - (k + 1)) := rfl
      clear hpr hp
      by_cases h28 : k < 28
      · have h28i : (k : Int) < 28 := by omega
        have hcp := HP.out.1 h28
        obtain ⟨c, hc⟩ : ∃ c : Nat, 54 - 2 * k = c := ⟨_, rfl⟩
        rw [hc] at hcp
        have hci : (54 : Int) - 2 * (k : Int) = (c : Int) := by omega
        have hc64 : c ≤ 54 := by omega
        obtain ⟨y, hy⟩ : ∃ y : Nat, (X : Int) / 2 ^ c = (y : Int) := ⟨X / 2 ^ c, by simp⟩
        rw [hy] at hcp
        clear hc
        by_cases hge : 4 * Q + 1 ≤ 4 * R + p
        · obtain ⟨H1, H2⟩ := st1 hge
          have H1' : Hid (Rt (X * 72057594037927936 / 4 ^ (56 - (k + 1))) (2 * Q + 1)) := H1
          have H2' : Hid (4 * R + p - (4 * Q + 1) = X * 72057594037927936 / 4 ^ (56 - (k + 1)) - (2 * Q + 1) * (2 * Q + 1)) := H2.symm
          have hgi : (Q : Int) * 4 + 1 ≤ (R : Int) * 4 + (p : Int) := by omega
          clear H1 H2 st1 st2
          go_wp2_with fail
          go_roundw
          case rel =>
            refine ⟨k + 1, 2 * Q + 1, 4 * R + p - (4 * Q + 1), by omega, ?_, ?_, ?_, by trivial, H1', H2'⟩
            · exact congrArg _ (by omega)
            · exact congrArg _ (by omega)
            · exact congrArg _ (by omega)
          case measure => simp [intOf]; omega
        · obtain ⟨H1, H2⟩ := st2 (by omega)
          have H1' : Hid (Rt (X * 72057594037927936 / 4 ^ (56 - (k + 1))) (2 * Q)) := H1
          have H2' : Hid (4 * R + p = X * 72057594037927936 / 4 ^ (56 - (k + 1)) - (2 * Q) * (2 * Q)) := H2.symm
          have hgi : ¬ (Q : Int) * 4 + 1 ≤ (R : Int) * 4 + (p : Int) := by omega
          have hgd : decide ((Q : Int) * 4 + 1 ≤ (R : Int) * 4 + (p : Int)) = false := decide_eq_false hgi
          clear H1 H2 st1 st2
          go_wp2_with fail
          go_roundw
          case rel =>
            refine ⟨k + 1, 2 * Q, 4 * R + p, by omega, ?_, ?_, ?_, by trivial, H1', H2'⟩
            · exact congrArg _ (by omega)
            · exact congrArg _ (by omega)
            · exact congrArg _ (by omega)
          case measure => simp [intOf]; omega
      · have h28i : ¬ (k : Int) < 28 := by omega
        have h28d : decide ((k : Int) < 28) = false := decide_eq_false h28i
        have hp0 := HP.out.2 h28
        subst hp0
        rw [Nat.add_zero] at st1 st2
        by_cases hge : 4 * Q + 1 ≤ 4 * R
        · obtain ⟨H1, H2⟩ := st1 hge
          have H1' : Hid (Rt (X * 72057594037927936 / 4 ^ (56 - (k + 1))) (2 * Q + 1)) := H1
          have H2' : Hid (4 * R - (4 * Q + 1) = X * 72057594037927936 / 4 ^ (56 - (k + 1)) - (2 * Q + 1) * (2 * Q + 1)) := H2.symm
          have hgi : (Q : Int) * 4 + 1 ≤ (R : Int) * 4 := by omega
          clear H1 H2 st1 st2
          go_wp2_with fail
          go_roundw
          case rel =>
            refine ⟨k + 1, 2 * Q + 1, 4 * R - (4 * Q + 1), by omega, ?_, ?_, ?_, by trivial, H1', H2'⟩
            · exact congrArg _ (by omega)
            · exact congrArg _ (by omega)
            · exact congrArg _ (by omega)
          case measure => simp [intOf]; omega
        · obtain ⟨H1, H2⟩ := st2 (by omega)
          have H1' : Hid (Rt (X * 72057594037927936 / 4 ^ (56 - (k + 1))) (2 * Q)) := H1
          have H2' : Hid (4 * R = X * 72057594037927936 / 4 ^ (56 - (k + 1)) - (2 * Q) * (2 * Q)) := H2.symm
          have hgi : ¬ (Q : Int) * 4 + 1 ≤ (R : Int) * 4 := by omega
          have hgd : decide ((Q : Int) * 4 + 1 ≤ (R : Int) * 4) = false := decide_eq_false hgi
          clear H1 H2 st1 st2
          go_wp2_with fail
          go_roundw
          case rel =>
            refine ⟨k + 1, 2 * Q, 4 * R, by omega, ?_, ?_, ?_, by trivial, H1', H2'⟩
            · exact congrArg _ (by omega)
            · exact congrArg _ (by omega)
            · exact congrArg _ (by omega)
          case measure => simp [intOf]; omega
    · have hk56 : k = 56 := by omega
      subst hk56
      have hq := HQk.out
      have hr := HRk.out
      rw [show (56 - 56 : Nat) = 0 by decide, Nat.pow_zero, Nat.div_one] at hq hr
      have heq := hq.uniq HT2.out
      have hz := HZ.out
      rw [← heq] at hz
      have hn0 : Q ≠ 0 := by
        rintro rfl
        have := hq.2
        omega
      have hle := hq.1
      by_cases hr0 : R = 0
      · subst hr0
        rw [show decide (Q * Q ≠ X * 72057594037927936) = false from decide_eq_false (by omega)] at hz
        have hro := fun w => HR.out false false Q H hn0 (by omega) (by omega) w
        rw [← hz] at hro
        clear hz hq hr heq HZ HS HB HT2 HQk HRk hle hRb
        go_wp2_with (first | (go_at_call 313; refine (hro _).mono ?_; rintro en w2 ⟨rfl, rfl⟩))
        refine bodyPost_ret (v := .int .u64 (Z : Int)) (by simp [results, Tryz.results300, go_sem]) rfl ?_
        exact ⟨rfl, rfl⟩
      · rw [show decide (Q * Q ≠ X * 72057594037927936) = true from decide_eq_true (by omega)] at hz
        have hro := fun w => HR.out false true Q H hn0 (by omega) (by omega) w
        rw [← hz] at hro
        have z0 : ((R : Int) == 0) = false := by rw [beq_eq_false_iff_ne]; omega
        have z1 : ((R : Int) != 0) = true := by rw [bne_iff_ne]; omega
        have z2 : (!((R : Int) == 0)) = true := by rw [z0]; rfl
        clear hz hq hr heq HZ HS HB HT2 HQk HRk hle
        go_wp2_with (first | (go_at_call 313; refine (hro _).mono ?_; rintro en w2 ⟨rfl, rfl⟩))
        refine bodyPost_ret (v := .int .u64 (Z : Int)) (by simp [results, Tryz.results300, go_sem]) rfl ?_
        exact ⟨rfl, rfl⟩
end Go.Proofs.Qxb6500275aGreatDoor
