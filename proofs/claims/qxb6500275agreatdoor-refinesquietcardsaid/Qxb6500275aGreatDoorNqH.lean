import Derived.Test.Qxb6500275aGreatDoorNqF
set_option maxRecDepth 100000
set_option linter.unusedVariables false
set_option linter.unusedSimpArgs false
namespace Go.Proofs.Qxb6500275aGreatDoor
open Go Go.RowKit
set_option maxHeartbeats 4000000 in
theorem applyM_121 (o : Nat) (h1 : 121 ≤ o) (h2 : o ≤ 123) (a b : Nat) (ha : a < 18446744073709551616) (hb : b < 18446744073709551616) (w : World) : Calls Tryz.prog 278 #[.int .i64 (o : Int), .int .u64 a, .int .u64 b] w (Pq w (fitV (numP o a b))) := by
  obtain ⟨n1, r1, hs⟩ : ∃ n1 r1 : Nat, numSig o = (n1, 126, r1) ∧ n1 ≠ 0 := by
    unfold numSig
    repeat (first | rw [if_pos (by omega)] | rw [if_neg (by omega)])
    exact ⟨_, _, rfl, by decide⟩
  have hn1 := hs.2
  replace hs := hs.1
  have hsg := fun w => numSig_pq o (by omega) w
  rw [hs] at hsg
  unfold enc3 at hsg
  dsimp only at hsg
  have hn1b : ((n1 : Int) == 0) = false := by rw [beq_eq_false_iff_ne]; omega
  obtain ⟨CU, HCU⟩ : ∃ CU : Nat → Nat, CU = fun v => v := ⟨_, rfl⟩
  have hC : ∀ v : Nat, v < 18446744073709551616 → ∀ w, Calls Tryz.prog 46 #[.int .u8 126, .int .u64 v] w (Pq w (.int .u64 ((CU v : Nat) : Int))) := fun v hv w => by
    have h := cut_calls2 w 126 (by decide) (v : Int) (by omega)
    have e : cutB 126 (v : Int) = ((CU v : Nat) : Int) := by
      rw [HCU]
      unfold cutB
      rw [if_neg (by decide)]
      
    rw [e] at h
    exact h
  have hCl : ∀ v : Nat, v < 18446744073709551616 → CU v < 18446744073709551616 := fun v hv => by rw [HCU]; dsimp only; omega
  have hcA : cut32 o a = CU a := by unfold cut32; rw [hs, HCU]; rw [if_neg (by simp)]
  have hcB : cut32 o b = CU b := by unfold cut32; rw [hs, HCU]; rw [if_neg (by simp)]
  clear HCU
  unfold numP
  rw [hcA, hcB, if_neg (by omega), if_neg (by omega), if_neg (by omega), if_neg (by omega), if_neg (by omega), if_neg (by omega), if_neg (by omega), if_pos (by omega)]
  have hk := fun w => intUn_64_all (o - 121) (by omega) (CU a)  (hCl a ha)  w
  rw [show ((o - 121 : Nat) : Int) = (o : Int) - 121 by omega] at hk
  generalize iunM 64 (o - 121) (CU a) = X at hk ⊢
  unfold fitV
  dsimp only
  clear hs hcA hcB hn1 hCl
  have i1 : (121 : Int) ≤ (o : Int) := by omega
  have i2 : (o : Int) ≤ 123 := by omega
  have n69 : ((o : Int) == 69) = false := by rw [beq_eq_false_iff_ne]; omega
  have n80 : ((o : Int) == 80) = false := by rw [beq_eq_false_iff_ne]; omega
  have l70 : (70 : Int) ≤ (o : Int) := by omega
  have g79 : ¬ (o : Int) ≤ 79 := by omega
  have d79 : decide ((o : Int) ≤ 79) = false := decide_eq_false g79
  have l81 : (81 : Int) ≤ (o : Int) := by omega
  have g90 : ¬ (o : Int) ≤ 90 := by omega
  have d90 : decide ((o : Int) ≤ 90) = false := decide_eq_false g90
  have l91 : (91 : Int) ≤ (o : Int) := by omega
  have g96 : ¬ (o : Int) ≤ 96 := by omega
  have d96 : decide ((o : Int) ≤ 96) = false := decide_eq_false g96
  have l97 : (97 : Int) ≤ (o : Int) := by omega
  have g102 : ¬ (o : Int) ≤ 102 := by omega
  have d102 : decide ((o : Int) ≤ 102) = false := decide_eq_false g102
  have l103 : (103 : Int) ≤ (o : Int) := by omega
  have g105 : ¬ (o : Int) ≤ 105 := by omega
  have d105 : decide ((o : Int) ≤ 105) = false := decide_eq_false g105
  have l106 : (106 : Int) ≤ (o : Int) := by omega
  have g120 : ¬ (o : Int) ≤ 120 := by omega
  have d120 : decide ((o : Int) ≤ 120) = false := decide_eq_false g120
  clear h1 h2
  go_enter Tryz.func278, Tryz.ntmps278
  go_wp2_with (first | (go_at_call 208; refine (hsg _).mono ?_; rintro en w2 ⟨rfl, rfl⟩) | (go_at_call 46; refine (hC _ (by assumption) _).mono ?_; rintro en w2 ⟨rfl, rfl⟩) | (go_at_call 287; refine (hk _).mono ?_; rintro en w2 ⟨rfl, rfl⟩))
  refine bodyPost_ret (v := .tuple #[.int .u64 (X : Int), .int .i64 0]) (by simp [results, Tryz.results278, go_sem]) rfl ?_
  exact ⟨rfl, rfl⟩
set_option maxHeartbeats 4000000 in
theorem applyM_124 (o : Nat) (h1 : 124 ≤ o) (h2 : o ≤ 138) (a b : Nat) (ha : a < 18446744073709551616) (hb : b < 18446744073709551616) (w : World) : Calls Tryz.prog 278 #[.int .i64 (o : Int), .int .u64 a, .int .u64 b] w (Pq w (fitV (numP o a b))) := by
  obtain ⟨n1, r1, hs⟩ : ∃ n1 r1 : Nat, numSig o = (n1, 126, r1) ∧ n1 ≠ 0 := by
    unfold numSig
    repeat (first | rw [if_pos (by omega)] | rw [if_neg (by omega)])
    exact ⟨_, _, rfl, by decide⟩
  have hn1 := hs.2
  replace hs := hs.1
  have hsg := fun w => numSig_pq o (by omega) w
  rw [hs] at hsg
  unfold enc3 at hsg
  dsimp only at hsg
  have hn1b : ((n1 : Int) == 0) = false := by rw [beq_eq_false_iff_ne]; omega
  obtain ⟨CU, HCU⟩ : ∃ CU : Nat → Nat, CU = fun v => v := ⟨_, rfl⟩
  have hC : ∀ v : Nat, v < 18446744073709551616 → ∀ w, Calls Tryz.prog 46 #[.int .u8 126, .int .u64 v] w (Pq w (.int .u64 ((CU v : Nat) : Int))) := fun v hv w => by
    have h := cut_calls2 w 126 (by decide) (v : Int) (by omega)
    have e : cutB 126 (v : Int) = ((CU v : Nat) : Int) := by
      rw [HCU]
      unfold cutB
      rw [if_neg (by decide)]
      
    rw [e] at h
    exact h
  have hCl : ∀ v : Nat, v < 18446744073709551616 → CU v < 18446744073709551616 := fun v hv => by rw [HCU]; dsimp only; omega
  have hcA : cut32 o a = CU a := by unfold cut32; rw [hs, HCU]; rw [if_neg (by simp)]
  have hcB : cut32 o b = CU b := by unfold cut32; rw [hs, HCU]; rw [if_neg (by simp)]
  clear HCU
  unfold numP
  rw [hcA, hcB, if_neg (by omega), if_neg (by omega), if_neg (by omega), if_neg (by omega), if_neg (by omega), if_neg (by omega), if_neg (by omega), if_neg (by omega), if_pos (by omega)]
  have hk := fun w => intBin_64_all (o - 124) (by omega) (CU a) (CU b) (hCl a ha) (hCl b hb) w
  rw [show ((o - 124 : Nat) : Int) = (o : Int) - 124 by omega] at hk
  generalize ibinM 64 (o - 124) (CU a) (CU b) = X at hk ⊢
  obtain ⟨x1, x2⟩ := X
  unfold fitV at hk ⊢
  dsimp only at hk ⊢
  clear hs hcA hcB hn1 hCl
  have i1 : (124 : Int) ≤ (o : Int) := by omega
  have i2 : (o : Int) ≤ 138 := by omega
  have n69 : ((o : Int) == 69) = false := by rw [beq_eq_false_iff_ne]; omega
  have n80 : ((o : Int) == 80) = false := by rw [beq_eq_false_iff_ne]; omega
  have l70 : (70 : Int) ≤ (o : Int) := by omega
  have g79 : ¬ (o : Int) ≤ 79 := by omega
  have d79 : decide ((o : Int) ≤ 79) = false := decide_eq_false g79
  have l81 : (81 : Int) ≤ (o : Int) := by omega
  have g90 : ¬ (o : Int) ≤ 90 := by omega
  have d90 : decide ((o : Int) ≤ 90) = false := decide_eq_false g90
  have l91 : (91 : Int) ≤ (o : Int) := by omega
  have g96 : ¬ (o : Int) ≤ 96 := by omega
  have d96 : decide ((o : Int) ≤ 96) = false := decide_eq_false g96
  have l97 : (97 : Int) ≤ (o : Int) := by omega
  have g102 : ¬ (o : Int) ≤ 102 := by omega
  have d102 : decide ((o : Int) ≤ 102) = false := decide_eq_false g102
  have l103 : (103 : Int) ≤ (o : Int) := by omega
  have g105 : ¬ (o : Int) ≤ 105 := by omega
  have d105 : decide ((o : Int) ≤ 105) = false := decide_eq_false g105
  have l106 : (106 : Int) ≤ (o : Int) := by omega
  have g120 : ¬ (o : Int) ≤ 120 := by omega
  have d120 : decide ((o : Int) ≤ 120) = false := decide_eq_false g120
  have l121 : (121 : Int) ≤ (o : Int) := by omega
  have g123 : ¬ (o : Int) ≤ 123 := by omega
  have d123 : decide ((o : Int) ≤ 123) = false := decide_eq_false g123
  clear h1 h2
  go_enter Tryz.func278, Tryz.ntmps278
  go_wp2_with (first | (go_at_call 208; refine (hsg _).mono ?_; rintro en w2 ⟨rfl, rfl⟩) | (go_at_call 46; refine (hC _ (by assumption) _).mono ?_; rintro en w2 ⟨rfl, rfl⟩) | (go_at_call 288; refine (hk _).mono ?_; rintro en w2 ⟨rfl, rfl⟩))
  refine bodyPost_ret (v := .tuple #[.int .u64 (x1 : Int), .int .i64 (x2 : Int)]) (by simp [results, Tryz.results278, go_sem]) rfl ?_
  exact ⟨rfl, rfl⟩
set_option maxHeartbeats 4000000 in
theorem applyM_139 (o : Nat) (h1 : 139 ≤ o) (h2 : o ≤ 145) (a b : Nat) (ha : a < 18446744073709551616) (hb : b < 18446744073709551616) (w : World) : Calls Tryz.prog 278 #[.int .i64 (o : Int), .int .u64 a, .int .u64 b] w (Pq w (fitV (numP o a b))) := by
  obtain ⟨n1, r1, hs⟩ : ∃ n1 r1 : Nat, numSig o = (n1, 125, r1) ∧ n1 ≠ 0 := by
    unfold numSig
    repeat (first | rw [if_pos (by omega)] | rw [if_neg (by omega)])
    exact ⟨_, _, rfl, by decide⟩
  have hn1 := hs.2
  replace hs := hs.1
  have hsg := fun w => numSig_pq o (by omega) w
  rw [hs] at hsg
  unfold enc3 at hsg
  dsimp only at hsg
  have hn1b : ((n1 : Int) == 0) = false := by rw [beq_eq_false_iff_ne]; omega
  obtain ⟨CU, HCU⟩ : ∃ CU : Nat → Nat, CU = fun v => v % 4294967296 := ⟨_, rfl⟩
  have hC : ∀ v : Nat, v < 18446744073709551616 → ∀ w, Calls Tryz.prog 46 #[.int .u8 125, .int .u64 v] w (Pq w (.int .u64 ((CU v : Nat) : Int))) := fun v hv w => by
    have h := cut_calls2 w 125 (by decide) (v : Int) (by omega)
    have e : cutB 125 (v : Int) = ((CU v : Nat) : Int) := by
      rw [HCU]
      unfold cutB
      rw [if_pos (by decide)]
      dsimp only; omega
    rw [e] at h
    exact h
  have hCl : ∀ v : Nat, v < 18446744073709551616 → CU v < 4294967296 := fun v hv => by rw [HCU]; dsimp only; omega
  have hcA : cut32 o a = CU a := by unfold cut32; rw [hs, HCU]; rw [if_pos (by simp)]
  have hcB : cut32 o b = CU b := by unfold cut32; rw [hs, HCU]; rw [if_pos (by simp)]
  clear HCU
  unfold numP
  rw [hcA, hcB, if_neg (by omega), if_neg (by omega), if_neg (by omega), if_neg (by omega), if_neg (by omega), if_neg (by omega), if_neg (by omega), if_neg (by omega), if_neg (by omega), if_pos (by omega)]
  have hk := fun w => fltUn_32_all (o - 139) (by omega) (CU a)  (hCl a ha)  w
  rw [show ((o - 139 : Nat) : Int) = (o : Int) - 139 by omega] at hk
  generalize funM Ieee.single 127 2143289344 (o - 139) (CU a) = X at hk ⊢
  unfold fitV
  dsimp only
  clear hs hcA hcB hn1 hCl
  have i1 : (139 : Int) ≤ (o : Int) := by omega
  have i2 : (o : Int) ≤ 145 := by omega
  have n69 : ((o : Int) == 69) = false := by rw [beq_eq_false_iff_ne]; omega
  have n80 : ((o : Int) == 80) = false := by rw [beq_eq_false_iff_ne]; omega
  have l70 : (70 : Int) ≤ (o : Int) := by omega
  have g79 : ¬ (o : Int) ≤ 79 := by omega
  have d79 : decide ((o : Int) ≤ 79) = false := decide_eq_false g79
  have l81 : (81 : Int) ≤ (o : Int) := by omega
  have g90 : ¬ (o : Int) ≤ 90 := by omega
  have d90 : decide ((o : Int) ≤ 90) = false := decide_eq_false g90
  have l91 : (91 : Int) ≤ (o : Int) := by omega
  have g96 : ¬ (o : Int) ≤ 96 := by omega
  have d96 : decide ((o : Int) ≤ 96) = false := decide_eq_false g96
  have l97 : (97 : Int) ≤ (o : Int) := by omega
  have g102 : ¬ (o : Int) ≤ 102 := by omega
  have d102 : decide ((o : Int) ≤ 102) = false := decide_eq_false g102
  have l103 : (103 : Int) ≤ (o : Int) := by omega
  have g105 : ¬ (o : Int) ≤ 105 := by omega
  have d105 : decide ((o : Int) ≤ 105) = false := decide_eq_false g105
  have l106 : (106 : Int) ≤ (o : Int) := by omega
  have g120 : ¬ (o : Int) ≤ 120 := by omega
  have d120 : decide ((o : Int) ≤ 120) = false := decide_eq_false g120
  have l121 : (121 : Int) ≤ (o : Int) := by omega
  have g123 : ¬ (o : Int) ≤ 123 := by omega
  have d123 : decide ((o : Int) ≤ 123) = false := decide_eq_false g123
  have l124 : (124 : Int) ≤ (o : Int) := by omega
  have g138 : ¬ (o : Int) ≤ 138 := by omega
  have d138 : decide ((o : Int) ≤ 138) = false := decide_eq_false g138
  clear h1 h2
  go_enter Tryz.func278, Tryz.ntmps278
  go_wp2_with (first | (go_at_call 208; refine (hsg _).mono ?_; rintro en w2 ⟨rfl, rfl⟩) | (go_at_call 46; refine (hC _ (by assumption) _).mono ?_; rintro en w2 ⟨rfl, rfl⟩) | (go_at_call 289; refine (hk _).mono ?_; rintro en w2 ⟨rfl, rfl⟩))
  refine bodyPost_ret (v := .tuple #[.int .u64 (X : Int), .int .i64 0]) (by simp [results, Tryz.results278, go_sem]) rfl ?_
  exact ⟨rfl, rfl⟩
set_option maxHeartbeats 4000000 in
theorem applyM_146 (o : Nat) (h1 : 146 ≤ o) (h2 : o ≤ 152) (a b : Nat) (ha : a < 18446744073709551616) (hb : b < 18446744073709551616) (w : World) : Calls Tryz.prog 278 #[.int .i64 (o : Int), .int .u64 a, .int .u64 b] w (Pq w (fitV (numP o a b))) := by
  obtain ⟨n1, r1, hs⟩ : ∃ n1 r1 : Nat, numSig o = (n1, 125, r1) ∧ n1 ≠ 0 := by
    unfold numSig
    repeat (first | rw [if_pos (by omega)] | rw [if_neg (by omega)])
    exact ⟨_, _, rfl, by decide⟩
  have hn1 := hs.2
  replace hs := hs.1
  have hsg := fun w => numSig_pq o (by omega) w
  rw [hs] at hsg
  unfold enc3 at hsg
  dsimp only at hsg
  have hn1b : ((n1 : Int) == 0) = false := by rw [beq_eq_false_iff_ne]; omega
  obtain ⟨CU, HCU⟩ : ∃ CU : Nat → Nat, CU = fun v => v % 4294967296 := ⟨_, rfl⟩
  have hC : ∀ v : Nat, v < 18446744073709551616 → ∀ w, Calls Tryz.prog 46 #[.int .u8 125, .int .u64 v] w (Pq w (.int .u64 ((CU v : Nat) : Int))) := fun v hv w => by
    have h := cut_calls2 w 125 (by decide) (v : Int) (by omega)
    have e : cutB 125 (v : Int) = ((CU v : Nat) : Int) := by
      rw [HCU]
      unfold cutB
      rw [if_pos (by decide)]
      dsimp only; omega
    rw [e] at h
    exact h
  have hCl : ∀ v : Nat, v < 18446744073709551616 → CU v < 4294967296 := fun v hv => by rw [HCU]; dsimp only; omega
  have hcA : cut32 o a = CU a := by unfold cut32; rw [hs, HCU]; rw [if_pos (by simp)]
  have hcB : cut32 o b = CU b := by unfold cut32; rw [hs, HCU]; rw [if_pos (by simp)]
  clear HCU
  unfold numP
  rw [hcA, hcB, if_neg (by omega), if_neg (by omega), if_neg (by omega), if_neg (by omega), if_neg (by omega), if_neg (by omega), if_neg (by omega), if_neg (by omega), if_neg (by omega), if_neg (by omega), if_pos (by omega)]
  have hk := fun w => fltBin_32_all (o - 146) (by omega) (CU a) (CU b) (hCl a ha) (hCl b hb) w
  rw [show ((o - 146 : Nat) : Int) = (o : Int) - 146 by omega] at hk
  generalize fbinX Ieee.single 127 2143289344 (o - 146) (CU a) (CU b) = X at hk ⊢
  unfold fitV
  dsimp only
  clear hs hcA hcB hn1 hCl
  have i1 : (146 : Int) ≤ (o : Int) := by omega
  have i2 : (o : Int) ≤ 152 := by omega
  have n69 : ((o : Int) == 69) = false := by rw [beq_eq_false_iff_ne]; omega
  have n80 : ((o : Int) == 80) = false := by rw [beq_eq_false_iff_ne]; omega
  have l70 : (70 : Int) ≤ (o : Int) := by omega
  have g79 : ¬ (o : Int) ≤ 79 := by omega
  have d79 : decide ((o : Int) ≤ 79) = false := decide_eq_false g79
  have l81 : (81 : Int) ≤ (o : Int) := by omega
  have g90 : ¬ (o : Int) ≤ 90 := by omega
  have d90 : decide ((o : Int) ≤ 90) = false := decide_eq_false g90
  have l91 : (91 : Int) ≤ (o : Int) := by omega
  have g96 : ¬ (o : Int) ≤ 96 := by omega
  have d96 : decide ((o : Int) ≤ 96) = false := decide_eq_false g96
  have l97 : (97 : Int) ≤ (o : Int) := by omega
  have g102 : ¬ (o : Int) ≤ 102 := by omega
  have d102 : decide ((o : Int) ≤ 102) = false := decide_eq_false g102
  have l103 : (103 : Int) ≤ (o : Int) := by omega
  have g105 : ¬ (o : Int) ≤ 105 := by omega
  have d105 : decide ((o : Int) ≤ 105) = false := decide_eq_false g105
  have l106 : (106 : Int) ≤ (o : Int) := by omega
  have g120 : ¬ (o : Int) ≤ 120 := by omega
  have d120 : decide ((o : Int) ≤ 120) = false := decide_eq_false g120
  have l121 : (121 : Int) ≤ (o : Int) := by omega
  have g123 : ¬ (o : Int) ≤ 123 := by omega
  have d123 : decide ((o : Int) ≤ 123) = false := decide_eq_false g123
  have l124 : (124 : Int) ≤ (o : Int) := by omega
  have g138 : ¬ (o : Int) ≤ 138 := by omega
  have d138 : decide ((o : Int) ≤ 138) = false := decide_eq_false g138
  have l139 : (139 : Int) ≤ (o : Int) := by omega
  have g145 : ¬ (o : Int) ≤ 145 := by omega
  have d145 : decide ((o : Int) ≤ 145) = false := decide_eq_false g145
  clear h1 h2
  go_enter Tryz.func278, Tryz.ntmps278
  go_wp2_with (first | (go_at_call 208; refine (hsg _).mono ?_; rintro en w2 ⟨rfl, rfl⟩) | (go_at_call 46; refine (hC _ (by assumption) _).mono ?_; rintro en w2 ⟨rfl, rfl⟩) | (go_at_call 290; refine (hk _).mono ?_; rintro en w2 ⟨rfl, rfl⟩))
  refine bodyPost_ret (v := .tuple #[.int .u64 (X : Int), .int .i64 0]) (by simp [results, Tryz.results278, go_sem]) rfl ?_
  exact ⟨rfl, rfl⟩
set_option maxHeartbeats 4000000 in
theorem applyM_153 (o : Nat) (h1 : 153 ≤ o) (h2 : o ≤ 159) (a b : Nat) (ha : a < 18446744073709551616) (hb : b < 18446744073709551616) (w : World) : Calls Tryz.prog 278 #[.int .i64 (o : Int), .int .u64 a, .int .u64 b] w (Pq w (fitV (numP o a b))) := by
  obtain ⟨n1, r1, hs⟩ : ∃ n1 r1 : Nat, numSig o = (n1, 124, r1) ∧ n1 ≠ 0 := by
    unfold numSig
    repeat (first | rw [if_pos (by omega)] | rw [if_neg (by omega)])
    exact ⟨_, _, rfl, by decide⟩
  have hn1 := hs.2
  replace hs := hs.1
  have hsg := fun w => numSig_pq o (by omega) w
  rw [hs] at hsg
  unfold enc3 at hsg
  dsimp only at hsg
  have hn1b : ((n1 : Int) == 0) = false := by rw [beq_eq_false_iff_ne]; omega
  obtain ⟨CU, HCU⟩ : ∃ CU : Nat → Nat, CU = fun v => v := ⟨_, rfl⟩
  have hC : ∀ v : Nat, v < 18446744073709551616 → ∀ w, Calls Tryz.prog 46 #[.int .u8 124, .int .u64 v] w (Pq w (.int .u64 ((CU v : Nat) : Int))) := fun v hv w => by
    have h := cut_calls2 w 124 (by decide) (v : Int) (by omega)
    have e : cutB 124 (v : Int) = ((CU v : Nat) : Int) := by
      rw [HCU]
      unfold cutB
      rw [if_neg (by decide)]
      
    rw [e] at h
    exact h
  have hCl : ∀ v : Nat, v < 18446744073709551616 → CU v < 18446744073709551616 := fun v hv => by rw [HCU]; dsimp only; omega
  have hcA : cut32 o a = CU a := by unfold cut32; rw [hs, HCU]; rw [if_neg (by simp)]
  have hcB : cut32 o b = CU b := by unfold cut32; rw [hs, HCU]; rw [if_neg (by simp)]
  clear HCU
  unfold numP
  rw [hcA, hcB, if_neg (by omega), if_neg (by omega), if_neg (by omega), if_neg (by omega), if_neg (by omega), if_neg (by omega), if_neg (by omega), if_neg (by omega), if_neg (by omega), if_neg (by omega), if_neg (by omega), if_pos (by omega)]
  have hk := fun w => fltUn_64_all (o - 153) (by omega) (CU a)  (hCl a ha)  w
  rw [show ((o - 153 : Nat) : Int) = (o : Int) - 153 by omega] at hk
  generalize funM Ieee.double 1023 9221120237041090560 (o - 153) (CU a) = X at hk ⊢
  unfold fitV
  dsimp only
  clear hs hcA hcB hn1 hCl
  have i1 : (153 : Int) ≤ (o : Int) := by omega
  have i2 : (o : Int) ≤ 159 := by omega
  have n69 : ((o : Int) == 69) = false := by rw [beq_eq_false_iff_ne]; omega
  have n80 : ((o : Int) == 80) = false := by rw [beq_eq_false_iff_ne]; omega
  have l70 : (70 : Int) ≤ (o : Int) := by omega
  have g79 : ¬ (o : Int) ≤ 79 := by omega
  have d79 : decide ((o : Int) ≤ 79) = false := decide_eq_false g79
  have l81 : (81 : Int) ≤ (o : Int) := by omega
  have g90 : ¬ (o : Int) ≤ 90 := by omega
  have d90 : decide ((o : Int) ≤ 90) = false := decide_eq_false g90
  have l91 : (91 : Int) ≤ (o : Int) := by omega
  have g96 : ¬ (o : Int) ≤ 96 := by omega
  have d96 : decide ((o : Int) ≤ 96) = false := decide_eq_false g96
  have l97 : (97 : Int) ≤ (o : Int) := by omega
  have g102 : ¬ (o : Int) ≤ 102 := by omega
  have d102 : decide ((o : Int) ≤ 102) = false := decide_eq_false g102
  have l103 : (103 : Int) ≤ (o : Int) := by omega
  have g105 : ¬ (o : Int) ≤ 105 := by omega
  have d105 : decide ((o : Int) ≤ 105) = false := decide_eq_false g105
  have l106 : (106 : Int) ≤ (o : Int) := by omega
  have g120 : ¬ (o : Int) ≤ 120 := by omega
  have d120 : decide ((o : Int) ≤ 120) = false := decide_eq_false g120
  have l121 : (121 : Int) ≤ (o : Int) := by omega
  have g123 : ¬ (o : Int) ≤ 123 := by omega
  have d123 : decide ((o : Int) ≤ 123) = false := decide_eq_false g123
  have l124 : (124 : Int) ≤ (o : Int) := by omega
  have g138 : ¬ (o : Int) ≤ 138 := by omega
  have d138 : decide ((o : Int) ≤ 138) = false := decide_eq_false g138
  have l139 : (139 : Int) ≤ (o : Int) := by omega
  have g145 : ¬ (o : Int) ≤ 145 := by omega
  have d145 : decide ((o : Int) ≤ 145) = false := decide_eq_false g145
  have l146 : (146 : Int) ≤ (o : Int) := by omega
  have g152 : ¬ (o : Int) ≤ 152 := by omega
  have d152 : decide ((o : Int) ≤ 152) = false := decide_eq_false g152
  clear h1 h2
  go_enter Tryz.func278, Tryz.ntmps278
  go_wp2_with (first | (go_at_call 208; refine (hsg _).mono ?_; rintro en w2 ⟨rfl, rfl⟩) | (go_at_call 46; refine (hC _ (by assumption) _).mono ?_; rintro en w2 ⟨rfl, rfl⟩) | (go_at_call 289; refine (hk _).mono ?_; rintro en w2 ⟨rfl, rfl⟩))
  refine bodyPost_ret (v := .tuple #[.int .u64 (X : Int), .int .i64 0]) (by simp [results, Tryz.results278, go_sem]) rfl ?_
  exact ⟨rfl, rfl⟩
set_option maxHeartbeats 4000000 in
theorem applyM_160 (o : Nat) (h1 : 160 ≤ o) (h2 : o ≤ 166) (a b : Nat) (ha : a < 18446744073709551616) (hb : b < 18446744073709551616) (w : World) : Calls Tryz.prog 278 #[.int .i64 (o : Int), .int .u64 a, .int .u64 b] w (Pq w (fitV (numP o a b))) := by
  obtain ⟨n1, r1, hs⟩ : ∃ n1 r1 : Nat, numSig o = (n1, 124, r1) ∧ n1 ≠ 0 := by
    unfold numSig
    repeat (first | rw [if_pos (by omega)] | rw [if_neg (by omega)])
    exact ⟨_, _, rfl, by decide⟩
  have hn1 := hs.2
  replace hs := hs.1
  have hsg := fun w => numSig_pq o (by omega) w
  rw [hs] at hsg
  unfold enc3 at hsg
  dsimp only at hsg
  have hn1b : ((n1 : Int) == 0) = false := by rw [beq_eq_false_iff_ne]; omega
  obtain ⟨CU, HCU⟩ : ∃ CU : Nat → Nat, CU = fun v => v := ⟨_, rfl⟩
  have hC : ∀ v : Nat, v < 18446744073709551616 → ∀ w, Calls Tryz.prog 46 #[.int .u8 124, .int .u64 v] w (Pq w (.int .u64 ((CU v : Nat) : Int))) := fun v hv w => by
    have h := cut_calls2 w 124 (by decide) (v : Int) (by omega)
    have e : cutB 124 (v : Int) = ((CU v : Nat) : Int) := by
      rw [HCU]
      unfold cutB
      rw [if_neg (by decide)]
      
    rw [e] at h
    exact h
  have hCl : ∀ v : Nat, v < 18446744073709551616 → CU v < 18446744073709551616 := fun v hv => by rw [HCU]; dsimp only; omega
  have hcA : cut32 o a = CU a := by unfold cut32; rw [hs, HCU]; rw [if_neg (by simp)]
  have hcB : cut32 o b = CU b := by unfold cut32; rw [hs, HCU]; rw [if_neg (by simp)]
  clear HCU
  unfold numP
  rw [hcA, hcB, if_neg (by omega), if_neg (by omega), if_neg (by omega), if_neg (by omega), if_neg (by omega), if_neg (by omega), if_neg (by omega), if_neg (by omega), if_neg (by omega), if_neg (by omega), if_neg (by omega), if_neg (by omega), if_pos (by omega)]
  have hk := fun w => fltBin_64_all (o - 160) (by omega) (CU a) (CU b) (hCl a ha) (hCl b hb) w
  rw [show ((o - 160 : Nat) : Int) = (o : Int) - 160 by omega] at hk
  generalize fbinX Ieee.double 1023 9221120237041090560 (o - 160) (CU a) (CU b) = X at hk ⊢
  unfold fitV
  dsimp only
  clear hs hcA hcB hn1 hCl
  have i1 : (160 : Int) ≤ (o : Int) := by omega
  have i2 : (o : Int) ≤ 166 := by omega
  have n69 : ((o : Int) == 69) = false := by rw [beq_eq_false_iff_ne]; omega
  have n80 : ((o : Int) == 80) = false := by rw [beq_eq_false_iff_ne]; omega
  have l70 : (70 : Int) ≤ (o : Int) := by omega
  have g79 : ¬ (o : Int) ≤ 79 := by omega
  have d79 : decide ((o : Int) ≤ 79) = false := decide_eq_false g79
  have l81 : (81 : Int) ≤ (o : Int) := by omega
  have g90 : ¬ (o : Int) ≤ 90 := by omega
  have d90 : decide ((o : Int) ≤ 90) = false := decide_eq_false g90
  have l91 : (91 : Int) ≤ (o : Int) := by omega
  have g96 : ¬ (o : Int) ≤ 96 := by omega
  have d96 : decide ((o : Int) ≤ 96) = false := decide_eq_false g96
  have l97 : (97 : Int) ≤ (o : Int) := by omega
  have g102 : ¬ (o : Int) ≤ 102 := by omega
  have d102 : decide ((o : Int) ≤ 102) = false := decide_eq_false g102
  have l103 : (103 : Int) ≤ (o : Int) := by omega
  have g105 : ¬ (o : Int) ≤ 105 := by omega
  have d105 : decide ((o : Int) ≤ 105) = false := decide_eq_false g105
  have l106 : (106 : Int) ≤ (o : Int) := by omega
  have g120 : ¬ (o : Int) ≤ 120 := by omega
  have d120 : decide ((o : Int) ≤ 120) = false := decide_eq_false g120
  have l121 : (121 : Int) ≤ (o : Int) := by omega
  have g123 : ¬ (o : Int) ≤ 123 := by omega
  have d123 : decide ((o : Int) ≤ 123) = false := decide_eq_false g123
  have l124 : (124 : Int) ≤ (o : Int) := by omega
  have g138 : ¬ (o : Int) ≤ 138 := by omega
  have d138 : decide ((o : Int) ≤ 138) = false := decide_eq_false g138
  have l139 : (139 : Int) ≤ (o : Int) := by omega
  have g145 : ¬ (o : Int) ≤ 145 := by omega
  have d145 : decide ((o : Int) ≤ 145) = false := decide_eq_false g145
  have l146 : (146 : Int) ≤ (o : Int) := by omega
  have g152 : ¬ (o : Int) ≤ 152 := by omega
  have d152 : decide ((o : Int) ≤ 152) = false := decide_eq_false g152
  have l153 : (153 : Int) ≤ (o : Int) := by omega
  have g159 : ¬ (o : Int) ≤ 159 := by omega
  have d159 : decide ((o : Int) ≤ 159) = false := decide_eq_false g159
  clear h1 h2
  go_enter Tryz.func278, Tryz.ntmps278
  go_wp2_with (first | (go_at_call 208; refine (hsg _).mono ?_; rintro en w2 ⟨rfl, rfl⟩) | (go_at_call 46; refine (hC _ (by assumption) _).mono ?_; rintro en w2 ⟨rfl, rfl⟩) | (go_at_call 290; refine (hk _).mono ?_; rintro en w2 ⟨rfl, rfl⟩))
  refine bodyPost_ret (v := .tuple #[.int .u64 (X : Int), .int .i64 0]) (by simp [results, Tryz.results278, go_sem]) rfl ?_
  exact ⟨rfl, rfl⟩
end Go.Proofs.Qxb6500275aGreatDoor
