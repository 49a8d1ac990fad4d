import Derived.Test.Qxb6500275aGreatDoorNqF
set_option maxRecDepth 100000
set_option linter.unusedVariables false
set_option linter.unusedSimpArgs false
namespace Go.Proofs.Qxb6500275aGreatDoor
open Go Go.RowKit
set_option maxHeartbeats 4000000 in
theorem applyM_70 (o : Nat) (h1 : 70 ≤ o) (h2 : o ≤ 79) (a b : Nat) (ha : a < 18446744073709551616) (hb : b < 18446744073709551616) (w : World) : Calls Tryz.prog 278 #[.int .i64 (o : Int), .int .u64 a, .int .u64 b] w (Pq w (fitV (numP o a b))) := by
  obtain ⟨n1, r1, hs⟩ : ∃ n1 r1 : Nat, numSig o = (n1, 127, r1) ∧ n1 ≠ 0 := by
    unfold numSig
    repeat (first | rw [if_pos (by omega)] | rw [if_neg (by omega)])
    exact ⟨_, _, rfl, by decide⟩
  have hn1 := hs.2
  replace hs := hs.1
  have hsg := fun w => numSig_pq o (by omega) w
  rw [hs] at hsg
  unfold enc3 at hsg
  dsimp only at hsg
  have hn1b : ((n1 : Int) == 0) = false := by rw [beq_eq_false_iff_ne]; omega
  obtain ⟨CU, HCU⟩ : ∃ CU : Nat → Nat, CU = fun v => v % 4294967296 := ⟨_, rfl⟩
  have hC : ∀ v : Nat, v < 18446744073709551616 → ∀ w, Calls Tryz.prog 46 #[.int .u8 127, .int .u64 v] w (Pq w (.int .u64 ((CU v : Nat) : Int))) := fun v hv w => by
    have h := cut_calls2 w 127 (by decide) (v : Int) (by omega)
    have e : cutB 127 (v : Int) = ((CU v : Nat) : Int) := by
      rw [HCU]
      unfold cutB
      rw [if_pos (by decide)]
      dsimp only; omega
    rw [e] at h
    exact h
  have hCl : ∀ v : Nat, v < 18446744073709551616 → CU v < 4294967296 := fun v hv => by rw [HCU]; dsimp only; omega
  have hcA : cut32 o a = CU a := by unfold cut32; rw [hs, HCU]; rw [if_pos (by simp)]
  have hcB : cut32 o b = CU b := by unfold cut32; rw [hs, HCU]; rw [if_pos (by simp)]
  clear HCU
  unfold numP
  rw [hcA, hcB, if_neg (by omega), if_pos (by omega)]
  have hk := fun w => intCmp_32_all (o - 70) (by omega) (CU a) (CU b) (hCl a ha) (hCl b hb) w
  rw [show ((o - 70 : Nat) : Int) = (o : Int) - 70 by omega] at hk
  generalize flagN (icmpM 32 (o - 70) (CU a) (CU b)) = X at hk ⊢
  unfold fitV
  dsimp only
  clear hs hcA hcB hn1 hCl
  have i1 : (70 : Int) ≤ (o : Int) := by omega
  have i2 : (o : Int) ≤ 79 := by omega
  have n69 : ((o : Int) == 69) = false := by rw [beq_eq_false_iff_ne]; omega
  have n80 : ((o : Int) == 80) = false := by rw [beq_eq_false_iff_ne]; omega
  clear h1 h2
  go_enter Tryz.func278, Tryz.ntmps278
  go_wp2_with (first | (go_at_call 208; refine (hsg _).mono ?_; rintro en w2 ⟨rfl, rfl⟩) | (go_at_call 46; refine (hC _ (by assumption) _).mono ?_; rintro en w2 ⟨rfl, rfl⟩) | (go_at_call 285; refine (hk _).mono ?_; rintro en w2 ⟨rfl, rfl⟩))
  refine bodyPost_ret (v := .tuple #[.int .u64 (X : Int), .int .i64 0]) (by simp [results, Tryz.results278, go_sem]) rfl ?_
  exact ⟨rfl, rfl⟩
set_option maxHeartbeats 4000000 in
theorem applyM_81 (o : Nat) (h1 : 81 ≤ o) (h2 : o ≤ 90) (a b : Nat) (ha : a < 18446744073709551616) (hb : b < 18446744073709551616) (w : World) : Calls Tryz.prog 278 #[.int .i64 (o : Int), .int .u64 a, .int .u64 b] w (Pq w (fitV (numP o a b))) := by
  obtain ⟨n1, r1, hs⟩ : ∃ n1 r1 : Nat, numSig o = (n1, 126, r1) ∧ n1 ≠ 0 := by
    unfold numSig
    repeat (first | rw [if_pos (by omega)] | rw [if_neg (by omega)])
    exact ⟨_, _, rfl, by decide⟩
  have hn1 := hs.2
  replace hs := hs.1
  have hsg := fun w => numSig_pq o (by omega) w
  rw [hs] at hsg
  unfold enc3 at hsg
  dsimp only at hsg
  have hn1b : ((n1 : Int) == 0) = false := by rw [beq_eq_false_iff_ne]; omega
  obtain ⟨CU, HCU⟩ : ∃ CU : Nat → Nat, CU = fun v => v := ⟨_, rfl⟩
  have hC : ∀ v : Nat, v < 18446744073709551616 → ∀ w, Calls Tryz.prog 46 #[.int .u8 126, .int .u64 v] w (Pq w (.int .u64 ((CU v : Nat) : Int))) := fun v hv w => by
    have h := cut_calls2 w 126 (by decide) (v : Int) (by omega)
    have e : cutB 126 (v : Int) = ((CU v : Nat) : Int) := by
      rw [HCU]
      unfold cutB
      rw [if_neg (by decide)]
      
    rw [e] at h
    exact h
  have hCl : ∀ v : Nat, v < 18446744073709551616 → CU v < 18446744073709551616 := fun v hv => by rw [HCU]; dsimp only; omega
  have hcA : cut32 o a = CU a := by unfold cut32; rw [hs, HCU]; rw [if_neg (by simp)]
  have hcB : cut32 o b = CU b := by unfold cut32; rw [hs, HCU]; rw [if_neg (by simp)]
  clear HCU
  unfold numP
  rw [hcA, hcB, if_neg (by omega), if_neg (by omega), if_pos (by omega)]
  have hk := fun w => intCmp_64_all (o - 81) (by omega) (CU a) (CU b) (hCl a ha) (hCl b hb) w
  rw [show ((o - 81 : Nat) : Int) = (o : Int) - 81 by omega] at hk
  generalize flagN (icmpM 64 (o - 81) (CU a) (CU b)) = X at hk ⊢
  unfold fitV
  dsimp only
  clear hs hcA hcB hn1 hCl
  have i1 : (81 : Int) ≤ (o : Int) := by omega
  have i2 : (o : Int) ≤ 90 := by omega
  have n69 : ((o : Int) == 69) = false := by rw [beq_eq_false_iff_ne]; omega
  have n80 : ((o : Int) == 80) = false := by rw [beq_eq_false_iff_ne]; omega
  have l70 : (70 : Int) ≤ (o : Int) := by omega
  have g79 : ¬ (o : Int) ≤ 79 := by omega
  have d79 : decide ((o : Int) ≤ 79) = false := decide_eq_false g79
  clear h1 h2
  go_enter Tryz.func278, Tryz.ntmps278
  go_wp2_with (first | (go_at_call 208; refine (hsg _).mono ?_; rintro en w2 ⟨rfl, rfl⟩) | (go_at_call 46; refine (hC _ (by assumption) _).mono ?_; rintro en w2 ⟨rfl, rfl⟩) | (go_at_call 285; refine (hk _).mono ?_; rintro en w2 ⟨rfl, rfl⟩))
  refine bodyPost_ret (v := .tuple #[.int .u64 (X : Int), .int .i64 0]) (by simp [results, Tryz.results278, go_sem]) rfl ?_
  exact ⟨rfl, rfl⟩
set_option maxHeartbeats 4000000 in
theorem applyM_91 (o : Nat) (h1 : 91 ≤ o) (h2 : o ≤ 96) (a b : Nat) (ha : a < 18446744073709551616) (hb : b < 18446744073709551616) (w : World) : Calls Tryz.prog 278 #[.int .i64 (o : Int), .int .u64 a, .int .u64 b] w (Pq w (fitV (numP o a b))) := by
  obtain ⟨n1, r1, hs⟩ : ∃ n1 r1 : Nat, numSig o = (n1, 125, r1) ∧ n1 ≠ 0 := by
    unfold numSig
    repeat (first | rw [if_pos (by omega)] | rw [if_neg (by omega)])
    exact ⟨_, _, rfl, by decide⟩
  have hn1 := hs.2
  replace hs := hs.1
  have hsg := fun w => numSig_pq o (by omega) w
  rw [hs] at hsg
  unfold enc3 at hsg
  dsimp only at hsg
  have hn1b : ((n1 : Int) == 0) = false := by rw [beq_eq_false_iff_ne]; omega
  obtain ⟨CU, HCU⟩ : ∃ CU : Nat → Nat, CU = fun v => v % 4294967296 := ⟨_, rfl⟩
  have hC : ∀ v : Nat, v < 18446744073709551616 → ∀ w, Calls Tryz.prog 46 #[.int .u8 125, .int .u64 v] w (Pq w (.int .u64 ((CU v : Nat) : Int))) := fun v hv w => by
    have h := cut_calls2 w 125 (by decide) (v : Int) (by omega)
    have e : cutB 125 (v : Int) = ((CU v : Nat) : Int) := by
      rw [HCU]
      unfold cutB
      rw [if_pos (by decide)]
      dsimp only; omega
    rw [e] at h
    exact h
  have hCl : ∀ v : Nat, v < 18446744073709551616 → CU v < 4294967296 := fun v hv => by rw [HCU]; dsimp only; omega
  have hcA : cut32 o a = CU a := by unfold cut32; rw [hs, HCU]; rw [if_pos (by simp)]
  have hcB : cut32 o b = CU b := by unfold cut32; rw [hs, HCU]; rw [if_pos (by simp)]
  clear HCU
  unfold numP
  rw [hcA, hcB, if_neg (by omega), if_neg (by omega), if_neg (by omega), if_pos (by omega)]
  have hk := fun w => fltCmp_32_all (o - 91) (by omega) (CU a) (CU b) (hCl a ha) (hCl b hb) w
  rw [show ((o - 91 : Nat) : Int) = (o : Int) - 91 by omega] at hk
  generalize flagN (cmpM Ieee.single (o - 91) (CU a) (CU b)) = X at hk ⊢
  unfold fitV
  dsimp only
  clear hs hcA hcB hn1 hCl
  have i1 : (91 : Int) ≤ (o : Int) := by omega
  have i2 : (o : Int) ≤ 96 := by omega
  have n69 : ((o : Int) == 69) = false := by rw [beq_eq_false_iff_ne]; omega
  have n80 : ((o : Int) == 80) = false := by rw [beq_eq_false_iff_ne]; omega
  have l70 : (70 : Int) ≤ (o : Int) := by omega
  have g79 : ¬ (o : Int) ≤ 79 := by omega
  have d79 : decide ((o : Int) ≤ 79) = false := decide_eq_false g79
  have l81 : (81 : Int) ≤ (o : Int) := by omega
  have g90 : ¬ (o : Int) ≤ 90 := by omega
  have d90 : decide ((o : Int) ≤ 90) = false := decide_eq_false g90
  clear h1 h2
  go_enter Tryz.func278, Tryz.ntmps278
  go_wp2_with (first | (go_at_call 208; refine (hsg _).mono ?_; rintro en w2 ⟨rfl, rfl⟩) | (go_at_call 46; refine (hC _ (by assumption) _).mono ?_; rintro en w2 ⟨rfl, rfl⟩) | (go_at_call 286; refine (hk _).mono ?_; rintro en w2 ⟨rfl, rfl⟩))
  refine bodyPost_ret (v := .tuple #[.int .u64 (X : Int), .int .i64 0]) (by simp [results, Tryz.results278, go_sem]) rfl ?_
  exact ⟨rfl, rfl⟩
set_option maxHeartbeats 4000000 in
theorem applyM_97 (o : Nat) (h1 : 97 ≤ o) (h2 : o ≤ 102) (a b : Nat) (ha : a < 18446744073709551616) (hb : b < 18446744073709551616) (w : World) : Calls Tryz.prog 278 #[.int .i64 (o : Int), .int .u64 a, .int .u64 b] w (Pq w (fitV (numP o a b))) := by
  obtain ⟨n1, r1, hs⟩ : ∃ n1 r1 : Nat, numSig o = (n1, 124, r1) ∧ n1 ≠ 0 := by
    unfold numSig
    repeat (first | rw [if_pos (by omega)] | rw [if_neg (by omega)])
    exact ⟨_, _, rfl, by decide⟩
  have hn1 := hs.2
  replace hs := hs.1
  have hsg := fun w => numSig_pq o (by omega) w
  rw [hs] at hsg
  unfold enc3 at hsg
  dsimp only at hsg
  have hn1b : ((n1 : Int) == 0) = false := by rw [beq_eq_false_iff_ne]; omega
  obtain ⟨CU, HCU⟩ : ∃ CU : Nat → Nat, CU = fun v => v := ⟨_, rfl⟩
  have hC : ∀ v : Nat, v < 18446744073709551616 → ∀ w, Calls Tryz.prog 46 #[.int .u8 124, .int .u64 v] w (Pq w (.int .u64 ((CU v : Nat) : Int))) := fun v hv w => by
    have h := cut_calls2 w 124 (by decide) (v : Int) (by omega)
    have e : cutB 124 (v : Int) = ((CU v : Nat) : Int) := by
      rw [HCU]
      unfold cutB
      rw [if_neg (by decide)]
      
    rw [e] at h
    exact h
  have hCl : ∀ v : Nat, v < 18446744073709551616 → CU v < 18446744073709551616 := fun v hv => by rw [HCU]; dsimp only; omega
  have hcA : cut32 o a = CU a := by unfold cut32; rw [hs, HCU]; rw [if_neg (by simp)]
  have hcB : cut32 o b = CU b := by unfold cut32; rw [hs, HCU]; rw [if_neg (by simp)]
  clear HCU
  unfold numP
  rw [hcA, hcB, if_neg (by omega), if_neg (by omega), if_neg (by omega), if_neg (by omega), if_pos (by omega)]
  have hk := fun w => fltCmp_64_all (o - 97) (by omega) (CU a) (CU b) (hCl a ha) (hCl b hb) w
  rw [show ((o - 97 : Nat) : Int) = (o : Int) - 97 by omega] at hk
  generalize flagN (cmpM Ieee.double (o - 97) (CU a) (CU b)) = X at hk ⊢
  unfold fitV
  dsimp only
  clear hs hcA hcB hn1 hCl
  have i1 : (97 : Int) ≤ (o : Int) := by omega
  have i2 : (o : Int) ≤ 102 := by omega
  have n69 : ((o : Int) == 69) = false := by rw [beq_eq_false_iff_ne]; omega
  have n80 : ((o : Int) == 80) = false := by rw [beq_eq_false_iff_ne]; omega
  have l70 : (70 : Int) ≤ (o : Int) := by omega
  have g79 : ¬ (o : Int) ≤ 79 := by omega
  have d79 : decide ((o : Int) ≤ 79) = false := decide_eq_false g79
  have l81 : (81 : Int) ≤ (o : Int) := by omega
  have g90 : ¬ (o : Int) ≤ 90 := by omega
  have d90 : decide ((o : Int) ≤ 90) = false := decide_eq_false g90
  have l91 : (91 : Int) ≤ (o : Int) := by omega
  have g96 : ¬ (o : Int) ≤ 96 := by omega
  have d96 : decide ((o : Int) ≤ 96) = false := decide_eq_false g96
  clear h1 h2
  go_enter Tryz.func278, Tryz.ntmps278
  go_wp2_with (first | (go_at_call 208; refine (hsg _).mono ?_; rintro en w2 ⟨rfl, rfl⟩) | (go_at_call 46; refine (hC _ (by assumption) _).mono ?_; rintro en w2 ⟨rfl, rfl⟩) | (go_at_call 286; refine (hk _).mono ?_; rintro en w2 ⟨rfl, rfl⟩))
  refine bodyPost_ret (v := .tuple #[.int .u64 (X : Int), .int .i64 0]) (by simp [results, Tryz.results278, go_sem]) rfl ?_
  exact ⟨rfl, rfl⟩
set_option maxHeartbeats 4000000 in
theorem applyM_103 (o : Nat) (h1 : 103 ≤ o) (h2 : o ≤ 105) (a b : Nat) (ha : a < 18446744073709551616) (hb : b < 18446744073709551616) (w : World) : Calls Tryz.prog 278 #[.int .i64 (o : Int), .int .u64 a, .int .u64 b] w (Pq w (fitV (numP o a b))) := by
  obtain ⟨n1, r1, hs⟩ : ∃ n1 r1 : Nat, numSig o = (n1, 127, r1) ∧ n1 ≠ 0 := by
    unfold numSig
    repeat (first | rw [if_pos (by omega)] | rw [if_neg (by omega)])
    exact ⟨_, _, rfl, by decide⟩
  have hn1 := hs.2
  replace hs := hs.1
  have hsg := fun w => numSig_pq o (by omega) w
  rw [hs] at hsg
  unfold enc3 at hsg
  dsimp only at hsg
  have hn1b : ((n1 : Int) == 0) = false := by rw [beq_eq_false_iff_ne]; omega
  obtain ⟨CU, HCU⟩ : ∃ CU : Nat → Nat, CU = fun v => v % 4294967296 := ⟨_, rfl⟩
  have hC : ∀ v : Nat, v < 18446744073709551616 → ∀ w, Calls Tryz.prog 46 #[.int .u8 127, .int .u64 v] w (Pq w (.int .u64 ((CU v : Nat) : Int))) := fun v hv w => by
    have h := cut_calls2 w 127 (by decide) (v : Int) (by omega)
    have e : cutB 127 (v : Int) = ((CU v : Nat) : Int) := by
      rw [HCU]
      unfold cutB
      rw [if_pos (by decide)]
      dsimp only; omega
    rw [e] at h
    exact h
  have hCl : ∀ v : Nat, v < 18446744073709551616 → CU v < 4294967296 := fun v hv => by rw [HCU]; dsimp only; omega
  have hcA : cut32 o a = CU a := by unfold cut32; rw [hs, HCU]; rw [if_pos (by simp)]
  have hcB : cut32 o b = CU b := by unfold cut32; rw [hs, HCU]; rw [if_pos (by simp)]
  clear HCU
  unfold numP
  rw [hcA, hcB, if_neg (by omega), if_neg (by omega), if_neg (by omega), if_neg (by omega), if_neg (by omega), if_pos (by omega)]
  have hk := fun w => intUn_32_all (o - 103) (by omega) (CU a)  (hCl a ha)  w
  rw [show ((o - 103 : Nat) : Int) = (o : Int) - 103 by omega] at hk
  generalize iunM 32 (o - 103) (CU a) = X at hk ⊢
  unfold fitV
  dsimp only
  clear hs hcA hcB hn1 hCl
  have i1 : (103 : Int) ≤ (o : Int) := by omega
  have i2 : (o : Int) ≤ 105 := by omega
  have n69 : ((o : Int) == 69) = false := by rw [beq_eq_false_iff_ne]; omega
  have n80 : ((o : Int) == 80) = false := by rw [beq_eq_false_iff_ne]; omega
  have l70 : (70 : Int) ≤ (o : Int) := by omega
  have g79 : ¬ (o : Int) ≤ 79 := by omega
  have d79 : decide ((o : Int) ≤ 79) = false := decide_eq_false g79
  have l81 : (81 : Int) ≤ (o : Int) := by omega
  have g90 : ¬ (o : Int) ≤ 90 := by omega
  have d90 : decide ((o : Int) ≤ 90) = false := decide_eq_false g90
  have l91 : (91 : Int) ≤ (o : Int) := by omega
  have g96 : ¬ (o : Int) ≤ 96 := by omega
  have d96 : decide ((o : Int) ≤ 96) = false := decide_eq_false g96
  have l97 : (97 : Int) ≤ (o : Int) := by omega
  have g102 : ¬ (o : Int) ≤ 102 := by omega
  have d102 : decide ((o : Int) ≤ 102) = false := decide_eq_false g102
  clear h1 h2
  go_enter Tryz.func278, Tryz.ntmps278
  go_wp2_with (first | (go_at_call 208; refine (hsg _).mono ?_; rintro en w2 ⟨rfl, rfl⟩) | (go_at_call 46; refine (hC _ (by assumption) _).mono ?_; rintro en w2 ⟨rfl, rfl⟩) | (go_at_call 287; refine (hk _).mono ?_; rintro en w2 ⟨rfl, rfl⟩))
  refine bodyPost_ret (v := .tuple #[.int .u64 (X : Int), .int .i64 0]) (by simp [results, Tryz.results278, go_sem]) rfl ?_
  exact ⟨rfl, rfl⟩
set_option maxHeartbeats 4000000 in
theorem applyM_106 (o : Nat) (h1 : 106 ≤ o) (h2 : o ≤ 120) (a b : Nat) (ha : a < 18446744073709551616) (hb : b < 18446744073709551616) (w : World) : Calls Tryz.prog 278 #[.int .i64 (o : Int), .int .u64 a, .int .u64 b] w (Pq w (fitV (numP o a b))) := by
  obtain ⟨n1, r1, hs⟩ : ∃ n1 r1 : Nat, numSig o = (n1, 127, r1) ∧ n1 ≠ 0 := by
    unfold numSig
    repeat (first | rw [if_pos (by omega)] | rw [if_neg (by omega)])
    exact ⟨_, _, rfl, by decide⟩
  have hn1 := hs.2
  replace hs := hs.1
  have hsg := fun w => numSig_pq o (by omega) w
  rw [hs] at hsg
  unfold enc3 at hsg
  dsimp only at hsg
  have hn1b : ((n1 : Int) == 0) = false := by rw [beq_eq_false_iff_ne]; omega
  obtain ⟨CU, HCU⟩ : ∃ CU : Nat → Nat, CU = fun v => v % 4294967296 := ⟨_, rfl⟩
  have hC : ∀ v : Nat, v < 18446744073709551616 → ∀ w, Calls Tryz.prog 46 #[.int .u8 127, .int .u64 v] w (Pq w (.int .u64 ((CU v : Nat) : Int))) := fun v hv w => by
    have h := cut_calls2 w 127 (by decide) (v : Int) (by omega)
    have e : cutB 127 (v : Int) = ((CU v : Nat) : Int) := by
      rw [HCU]
      unfold cutB
      rw [if_pos (by decide)]
      dsimp only; omega
    rw [e] at h
    exact h
  have hCl : ∀ v : Nat, v < 18446744073709551616 → CU v < 4294967296 := fun v hv => by rw [HCU]; dsimp only; omega
  have hcA : cut32 o a = CU a := by unfold cut32; rw [hs, HCU]; rw [if_pos (by simp)]
  have hcB : cut32 o b = CU b := by unfold cut32; rw [hs, HCU]; rw [if_pos (by simp)]
  clear HCU
  unfold numP
  rw [hcA, hcB, if_neg (by omega), if_neg (by omega), if_neg (by omega), if_neg (by omega), if_neg (by omega), if_neg (by omega), if_pos (by omega)]
  have hk := fun w => intBin_32_all (o - 106) (by omega) (CU a) (CU b) (hCl a ha) (hCl b hb) w
  rw [show ((o - 106 : Nat) : Int) = (o : Int) - 106 by omega] at hk
  generalize ibinM 32 (o - 106) (CU a) (CU b) = X at hk ⊢
  obtain ⟨x1, x2⟩ := X
  unfold fitV at hk ⊢
  dsimp only at hk ⊢
  clear hs hcA hcB hn1 hCl
  have i1 : (106 : Int) ≤ (o : Int) := by omega
  have i2 : (o : Int) ≤ 120 := by omega
  have n69 : ((o : Int) == 69) = false := by rw [beq_eq_false_iff_ne]; omega
  have n80 : ((o : Int) == 80) = false := by rw [beq_eq_false_iff_ne]; omega
  have l70 : (70 : Int) ≤ (o : Int) := by omega
  have g79 : ¬ (o : Int) ≤ 79 := by omega
  have d79 : decide ((o : Int) ≤ 79) = false := decide_eq_false g79
  have l81 : (81 : Int) ≤ (o : Int) := by omega
  have g90 : ¬ (o : Int) ≤ 90 := by omega
  have d90 : decide ((o : Int) ≤ 90) = false := decide_eq_false g90
  have l91 : (91 : Int) ≤ (o : Int) := by omega
  have g96 : ¬ (o : Int) ≤ 96 := by omega
  have d96 : decide ((o : Int) ≤ 96) = false := decide_eq_false g96
  have l97 : (97 : Int) ≤ (o : Int) := by omega
  have g102 : ¬ (o : Int) ≤ 102 := by omega
  have d102 : decide ((o : Int) ≤ 102) = false := decide_eq_false g102
  have l103 : (103 : Int) ≤ (o : Int) := by omega
  have g105 : ¬ (o : Int) ≤ 105 := by omega
  have d105 : decide ((o : Int) ≤ 105) = false := decide_eq_false g105
  clear h1 h2
  go_enter Tryz.func278, Tryz.ntmps278
  go_wp2_with (first | (go_at_call 208; refine (hsg _).mono ?_; rintro en w2 ⟨rfl, rfl⟩) | (go_at_call 46; refine (hC _ (by assumption) _).mono ?_; rintro en w2 ⟨rfl, rfl⟩) | (go_at_call 288; refine (hk _).mono ?_; rintro en w2 ⟨rfl, rfl⟩))
  refine bodyPost_ret (v := .tuple #[.int .u64 (x1 : Int), .int .i64 (x2 : Int)]) (by simp [results, Tryz.results278, go_sem]) rfl ?_
  exact ⟨rfl, rfl⟩
end Go.Proofs.Qxb6500275aGreatDoor
