import Derived.Test.Qxb6500275aGreatDoorNqF
set_option maxRecDepth 100000
set_option linter.unusedVariables false
set_option linter.unusedSimpArgs false
namespace Go.Proofs.Qxb6500275aGreatDoor
open Go Go.RowKit
set_option maxHeartbeats 4000000 in
theorem applyM_180 (a b : Nat) (ha : a < 18446744073709551616) (hb : b < 18446744073709551616) (w : World) : Calls Tryz.prog 278 #[.int .i64 180, .int .u64 a, .int .u64 b] w (Pq w (fitV (numP 180 a b))) := by
  obtain ⟨o, ho⟩ : ∃ o : Nat, o = 180 := ⟨_, rfl⟩
  obtain ⟨r1, hs⟩ : ∃ r1, numSig o = (1, 126, r1) := ⟨_, by rw [ho]; rfl⟩
  have hsg := fun w => numSig_pq 180 (by decide) w
  rw [← ho, hs, ho] at hsg
  unfold enc3 at hsg
  dsimp only at hsg
  obtain ⟨CU, HCU⟩ : ∃ CU : Nat → Nat, CU = fun v => v := ⟨_, rfl⟩
  have hC : ∀ v : Nat, v < 18446744073709551616 → ∀ w, Calls Tryz.prog 46 #[.int .u8 126, .int .u64 v] w (Pq w (.int .u64 ((CU v : Nat) : Int))) := fun v hv w => by
    have h := cut_calls2 w 126 (by decide) (v : Int) (by omega)
    have e : cutB 126 (v : Int) = ((CU v : Nat) : Int) := by
      rw [HCU]
      unfold cutB
      rw [if_neg (by decide)]
      
    rw [e] at h
    exact h
  have hCl : ∀ v : Nat, v < 18446744073709551616 → CU v < 18446744073709551616 := fun v hv => by rw [HCU]; dsimp only; omega
  have hcA : cut32 o a = CU a := by unfold cut32; rw [hs, HCU]; rw [if_neg (by simp)]
  have hcB : cut32 o b = CU b := by unfold cut32; rw [hs, HCU]; rw [if_neg (by simp)]
  clear HCU
  rw [ho] at hcA
  unfold numP
  rw [hcA, if_neg (by decide), if_neg (by decide), if_neg (by decide), if_neg (by decide), if_neg (by decide), if_neg (by decide), if_neg (by decide), if_neg (by decide), if_neg (by decide), if_neg (by decide), if_neg (by decide), if_neg (by decide), if_neg (by decide)]
  have hk := fun w => convert_180 (CU a) (hCl a ha) w
  generalize convM 180 (CU a) = X at hk ⊢
  obtain ⟨x1, x2⟩ := X
  unfold fitV at hk ⊢
  dsimp only at hk ⊢
  clear hs hcA hcB hCl ho
  go_enter Tryz.func278, Tryz.ntmps278
  go_wp2_with (first | (go_at_call 208; refine (hsg _).mono ?_; rintro en w2 ⟨rfl, rfl⟩) | (go_at_call 46; refine (hC _ (by assumption) _).mono ?_; rintro en w2 ⟨rfl, rfl⟩) | (go_at_call 291; refine (hk _).mono ?_; rintro en w2 ⟨rfl, rfl⟩))
  refine bodyPost_ret (v := .tuple #[.int .u64 (x1 : Int), .int .i64 (x2 : Int)]) (by simp [results, Tryz.results278, go_sem]) rfl ?_
  exact ⟨rfl, rfl⟩
set_option maxHeartbeats 4000000 in
theorem applyM_181 (a b : Nat) (ha : a < 18446744073709551616) (hb : b < 18446744073709551616) (w : World) : Calls Tryz.prog 278 #[.int .i64 181, .int .u64 a, .int .u64 b] w (Pq w (fitV (numP 181 a b))) := by
  obtain ⟨o, ho⟩ : ∃ o : Nat, o = 181 := ⟨_, rfl⟩
  obtain ⟨r1, hs⟩ : ∃ r1, numSig o = (1, 126, r1) := ⟨_, by rw [ho]; rfl⟩
  have hsg := fun w => numSig_pq 181 (by decide) w
  rw [← ho, hs, ho] at hsg
  unfold enc3 at hsg
  dsimp only at hsg
  obtain ⟨CU, HCU⟩ : ∃ CU : Nat → Nat, CU = fun v => v := ⟨_, rfl⟩
  have hC : ∀ v : Nat, v < 18446744073709551616 → ∀ w, Calls Tryz.prog 46 #[.int .u8 126, .int .u64 v] w (Pq w (.int .u64 ((CU v : Nat) : Int))) := fun v hv w => by
    have h := cut_calls2 w 126 (by decide) (v : Int) (by omega)
    have e : cutB 126 (v : Int) = ((CU v : Nat) : Int) := by
      rw [HCU]
      unfold cutB
      rw [if_neg (by decide)]
      
    rw [e] at h
    exact h
  have hCl : ∀ v : Nat, v < 18446744073709551616 → CU v < 18446744073709551616 := fun v hv => by rw [HCU]; dsimp only; omega
  have hcA : cut32 o a = CU a := by unfold cut32; rw [hs, HCU]; rw [if_neg (by simp)]
  have hcB : cut32 o b = CU b := by unfold cut32; rw [hs, HCU]; rw [if_neg (by simp)]
  clear HCU
  rw [ho] at hcA
  unfold numP
  rw [hcA, if_neg (by decide), if_neg (by decide), if_neg (by decide), if_neg (by decide), if_neg (by decide), if_neg (by decide), if_neg (by decide), if_neg (by decide), if_neg (by decide), if_neg (by decide), if_neg (by decide), if_neg (by decide), if_neg (by decide)]
  have hk := fun w => convert_181 (CU a) (hCl a ha) w
  generalize convM 181 (CU a) = X at hk ⊢
  obtain ⟨x1, x2⟩ := X
  unfold fitV at hk ⊢
  dsimp only at hk ⊢
  clear hs hcA hcB hCl ho
  go_enter Tryz.func278, Tryz.ntmps278
  go_wp2_with (first | (go_at_call 208; refine (hsg _).mono ?_; rintro en w2 ⟨rfl, rfl⟩) | (go_at_call 46; refine (hC _ (by assumption) _).mono ?_; rintro en w2 ⟨rfl, rfl⟩) | (go_at_call 291; refine (hk _).mono ?_; rintro en w2 ⟨rfl, rfl⟩))
  refine bodyPost_ret (v := .tuple #[.int .u64 (x1 : Int), .int .i64 (x2 : Int)]) (by simp [results, Tryz.results278, go_sem]) rfl ?_
  exact ⟨rfl, rfl⟩
set_option maxHeartbeats 4000000 in
theorem applyM_182 (a b : Nat) (ha : a < 18446744073709551616) (hb : b < 18446744073709551616) (w : World) : Calls Tryz.prog 278 #[.int .i64 182, .int .u64 a, .int .u64 b] w (Pq w (fitV (numP 182 a b))) := by
  obtain ⟨o, ho⟩ : ∃ o : Nat, o = 182 := ⟨_, rfl⟩
  obtain ⟨r1, hs⟩ : ∃ r1, numSig o = (1, 124, r1) := ⟨_, by rw [ho]; rfl⟩
  have hsg := fun w => numSig_pq 182 (by decide) w
  rw [← ho, hs, ho] at hsg
  unfold enc3 at hsg
  dsimp only at hsg
  obtain ⟨CU, HCU⟩ : ∃ CU : Nat → Nat, CU = fun v => v := ⟨_, rfl⟩
  have hC : ∀ v : Nat, v < 18446744073709551616 → ∀ w, Calls Tryz.prog 46 #[.int .u8 124, .int .u64 v] w (Pq w (.int .u64 ((CU v : Nat) : Int))) := fun v hv w => by
    have h := cut_calls2 w 124 (by decide) (v : Int) (by omega)
    have e : cutB 124 (v : Int) = ((CU v : Nat) : Int) := by
      rw [HCU]
      unfold cutB
      rw [if_neg (by decide)]
      
    rw [e] at h
    exact h
  have hCl : ∀ v : Nat, v < 18446744073709551616 → CU v < 18446744073709551616 := fun v hv => by rw [HCU]; dsimp only; omega
  have hcA : cut32 o a = CU a := by unfold cut32; rw [hs, HCU]; rw [if_neg (by simp)]
  have hcB : cut32 o b = CU b := by unfold cut32; rw [hs, HCU]; rw [if_neg (by simp)]
  clear HCU
  rw [ho] at hcA
  unfold numP
  rw [hcA, if_neg (by decide), if_neg (by decide), if_neg (by decide), if_neg (by decide), if_neg (by decide), if_neg (by decide), if_neg (by decide), if_neg (by decide), if_neg (by decide), if_neg (by decide), if_neg (by decide), if_neg (by decide), if_neg (by decide)]
  have hk := fun w => convert_182 (CU a) (hCl a ha) w
  generalize convM 182 (CU a) = X at hk ⊢
  obtain ⟨x1, x2⟩ := X
  unfold fitV at hk ⊢
  dsimp only at hk ⊢
  clear hs hcA hcB hCl ho
  go_enter Tryz.func278, Tryz.ntmps278
  go_wp2_with (first | (go_at_call 208; refine (hsg _).mono ?_; rintro en w2 ⟨rfl, rfl⟩) | (go_at_call 46; refine (hC _ (by assumption) _).mono ?_; rintro en w2 ⟨rfl, rfl⟩) | (go_at_call 291; refine (hk _).mono ?_; rintro en w2 ⟨rfl, rfl⟩))
  refine bodyPost_ret (v := .tuple #[.int .u64 (x1 : Int), .int .i64 (x2 : Int)]) (by simp [results, Tryz.results278, go_sem]) rfl ?_
  exact ⟨rfl, rfl⟩
set_option maxHeartbeats 4000000 in
theorem applyM_183 (a b : Nat) (ha : a < 18446744073709551616) (hb : b < 18446744073709551616) (w : World) : Calls Tryz.prog 278 #[.int .i64 183, .int .u64 a, .int .u64 b] w (Pq w (fitV (numP 183 a b))) := by
  obtain ⟨o, ho⟩ : ∃ o : Nat, o = 183 := ⟨_, rfl⟩
  obtain ⟨r1, hs⟩ : ∃ r1, numSig o = (1, 127, r1) := ⟨_, by rw [ho]; rfl⟩
  have hsg := fun w => numSig_pq 183 (by decide) w
  rw [← ho, hs, ho] at hsg
  unfold enc3 at hsg
  dsimp only at hsg
  obtain ⟨CU, HCU⟩ : ∃ CU : Nat → Nat, CU = fun v => v % 4294967296 := ⟨_, rfl⟩
  have hC : ∀ v : Nat, v < 18446744073709551616 → ∀ w, Calls Tryz.prog 46 #[.int .u8 127, .int .u64 v] w (Pq w (.int .u64 ((CU v : Nat) : Int))) := fun v hv w => by
    have h := cut_calls2 w 127 (by decide) (v : Int) (by omega)
    have e : cutB 127 (v : Int) = ((CU v : Nat) : Int) := by
      rw [HCU]
      unfold cutB
      rw [if_pos (by decide)]
      dsimp only; omega
    rw [e] at h
    exact h
  have hCl : ∀ v : Nat, v < 18446744073709551616 → CU v < 4294967296 := fun v hv => by rw [HCU]; dsimp only; omega
  have hcA : cut32 o a = CU a := by unfold cut32; rw [hs, HCU]; rw [if_pos (by simp)]
  have hcB : cut32 o b = CU b := by unfold cut32; rw [hs, HCU]; rw [if_pos (by simp)]
  clear HCU
  rw [ho] at hcA
  unfold numP
  rw [hcA, if_neg (by decide), if_neg (by decide), if_neg (by decide), if_neg (by decide), if_neg (by decide), if_neg (by decide), if_neg (by decide), if_neg (by decide), if_neg (by decide), if_neg (by decide), if_neg (by decide), if_neg (by decide), if_neg (by decide)]
  have hk := fun w => convert_183 (CU a) (hCl a ha) w
  generalize convM 183 (CU a) = X at hk ⊢
  obtain ⟨x1, x2⟩ := X
  unfold fitV at hk ⊢
  dsimp only at hk ⊢
  clear hs hcA hcB hCl ho
  go_enter Tryz.func278, Tryz.ntmps278
  go_wp2_with (first | (go_at_call 208; refine (hsg _).mono ?_; rintro en w2 ⟨rfl, rfl⟩) | (go_at_call 46; refine (hC _ (by assumption) _).mono ?_; rintro en w2 ⟨rfl, rfl⟩) | (go_at_call 291; refine (hk _).mono ?_; rintro en w2 ⟨rfl, rfl⟩))
  refine bodyPost_ret (v := .tuple #[.int .u64 (x1 : Int), .int .i64 (x2 : Int)]) (by simp [results, Tryz.results278, go_sem]) rfl ?_
  exact ⟨rfl, rfl⟩
set_option maxHeartbeats 4000000 in
theorem applyM_184 (a b : Nat) (ha : a < 18446744073709551616) (hb : b < 18446744073709551616) (w : World) : Calls Tryz.prog 278 #[.int .i64 184, .int .u64 a, .int .u64 b] w (Pq w (fitV (numP 184 a b))) := by
  obtain ⟨o, ho⟩ : ∃ o : Nat, o = 184 := ⟨_, rfl⟩
  obtain ⟨r1, hs⟩ : ∃ r1, numSig o = (1, 127, r1) := ⟨_, by rw [ho]; rfl⟩
  have hsg := fun w => numSig_pq 184 (by decide) w
  rw [← ho, hs, ho] at hsg
  unfold enc3 at hsg
  dsimp only at hsg
  obtain ⟨CU, HCU⟩ : ∃ CU : Nat → Nat, CU = fun v => v % 4294967296 := ⟨_, rfl⟩
  have hC : ∀ v : Nat, v < 18446744073709551616 → ∀ w, Calls Tryz.prog 46 #[.int .u8 127, .int .u64 v] w (Pq w (.int .u64 ((CU v : Nat) : Int))) := fun v hv w => by
    have h := cut_calls2 w 127 (by decide) (v : Int) (by omega)
    have e : cutB 127 (v : Int) = ((CU v : Nat) : Int) := by
      rw [HCU]
      unfold cutB
      rw [if_pos (by decide)]
      dsimp only; omega
    rw [e] at h
    exact h
  have hCl : ∀ v : Nat, v < 18446744073709551616 → CU v < 4294967296 := fun v hv => by rw [HCU]; dsimp only; omega
  have hcA : cut32 o a = CU a := by unfold cut32; rw [hs, HCU]; rw [if_pos (by simp)]
  have hcB : cut32 o b = CU b := by unfold cut32; rw [hs, HCU]; rw [if_pos (by simp)]
  clear HCU
  rw [ho] at hcA
  unfold numP
  rw [hcA, if_neg (by decide), if_neg (by decide), if_neg (by decide), if_neg (by decide), if_neg (by decide), if_neg (by decide), if_neg (by decide), if_neg (by decide), if_neg (by decide), if_neg (by decide), if_neg (by decide), if_neg (by decide), if_neg (by decide)]
  have hk := fun w => convert_184 (CU a) (hCl a ha) w
  generalize convM 184 (CU a) = X at hk ⊢
  obtain ⟨x1, x2⟩ := X
  unfold fitV at hk ⊢
  dsimp only at hk ⊢
  clear hs hcA hcB hCl ho
  go_enter Tryz.func278, Tryz.ntmps278
  go_wp2_with (first | (go_at_call 208; refine (hsg _).mono ?_; rintro en w2 ⟨rfl, rfl⟩) | (go_at_call 46; refine (hC _ (by assumption) _).mono ?_; rintro en w2 ⟨rfl, rfl⟩) | (go_at_call 291; refine (hk _).mono ?_; rintro en w2 ⟨rfl, rfl⟩))
  refine bodyPost_ret (v := .tuple #[.int .u64 (x1 : Int), .int .i64 (x2 : Int)]) (by simp [results, Tryz.results278, go_sem]) rfl ?_
  exact ⟨rfl, rfl⟩
set_option maxHeartbeats 4000000 in
theorem applyM_185 (a b : Nat) (ha : a < 18446744073709551616) (hb : b < 18446744073709551616) (w : World) : Calls Tryz.prog 278 #[.int .i64 185, .int .u64 a, .int .u64 b] w (Pq w (fitV (numP 185 a b))) := by
  obtain ⟨o, ho⟩ : ∃ o : Nat, o = 185 := ⟨_, rfl⟩
  obtain ⟨r1, hs⟩ : ∃ r1, numSig o = (1, 126, r1) := ⟨_, by rw [ho]; rfl⟩
  have hsg := fun w => numSig_pq 185 (by decide) w
  rw [← ho, hs, ho] at hsg
  unfold enc3 at hsg
  dsimp only at hsg
  obtain ⟨CU, HCU⟩ : ∃ CU : Nat → Nat, CU = fun v => v := ⟨_, rfl⟩
  have hC : ∀ v : Nat, v < 18446744073709551616 → ∀ w, Calls Tryz.prog 46 #[.int .u8 126, .int .u64 v] w (Pq w (.int .u64 ((CU v : Nat) : Int))) := fun v hv w => by
    have h := cut_calls2 w 126 (by decide) (v : Int) (by omega)
    have e : cutB 126 (v : Int) = ((CU v : Nat) : Int) := by
      rw [HCU]
      unfold cutB
      rw [if_neg (by decide)]
      
    rw [e] at h
    exact h
  have hCl : ∀ v : Nat, v < 18446744073709551616 → CU v < 18446744073709551616 := fun v hv => by rw [HCU]; dsimp only; omega
  have hcA : cut32 o a = CU a := by unfold cut32; rw [hs, HCU]; rw [if_neg (by simp)]
  have hcB : cut32 o b = CU b := by unfold cut32; rw [hs, HCU]; rw [if_neg (by simp)]
  clear HCU
  rw [ho] at hcA
  unfold numP
  rw [hcA, if_neg (by decide), if_neg (by decide), if_neg (by decide), if_neg (by decide), if_neg (by decide), if_neg (by decide), if_neg (by decide), if_neg (by decide), if_neg (by decide), if_neg (by decide), if_neg (by decide), if_neg (by decide), if_neg (by decide)]
  have hk := fun w => convert_185 (CU a) (hCl a ha) w
  generalize convM 185 (CU a) = X at hk ⊢
  obtain ⟨x1, x2⟩ := X
  unfold fitV at hk ⊢
  dsimp only at hk ⊢
  clear hs hcA hcB hCl ho
  go_enter Tryz.func278, Tryz.ntmps278
  go_wp2_with (first | (go_at_call 208; refine (hsg _).mono ?_; rintro en w2 ⟨rfl, rfl⟩) | (go_at_call 46; refine (hC _ (by assumption) _).mono ?_; rintro en w2 ⟨rfl, rfl⟩) | (go_at_call 291; refine (hk _).mono ?_; rintro en w2 ⟨rfl, rfl⟩))
  refine bodyPost_ret (v := .tuple #[.int .u64 (x1 : Int), .int .i64 (x2 : Int)]) (by simp [results, Tryz.results278, go_sem]) rfl ?_
  exact ⟨rfl, rfl⟩
set_option maxHeartbeats 4000000 in
theorem applyM_186 (a b : Nat) (ha : a < 18446744073709551616) (hb : b < 18446744073709551616) (w : World) : Calls Tryz.prog 278 #[.int .i64 186, .int .u64 a, .int .u64 b] w (Pq w (fitV (numP 186 a b))) := by
  obtain ⟨o, ho⟩ : ∃ o : Nat, o = 186 := ⟨_, rfl⟩
  obtain ⟨r1, hs⟩ : ∃ r1, numSig o = (1, 126, r1) := ⟨_, by rw [ho]; rfl⟩
  have hsg := fun w => numSig_pq 186 (by decide) w
  rw [← ho, hs, ho] at hsg
  unfold enc3 at hsg
  dsimp only at hsg
  obtain ⟨CU, HCU⟩ : ∃ CU : Nat → Nat, CU = fun v => v := ⟨_, rfl⟩
  have hC : ∀ v : Nat, v < 18446744073709551616 → ∀ w, Calls Tryz.prog 46 #[.int .u8 126, .int .u64 v] w (Pq w (.int .u64 ((CU v : Nat) : Int))) := fun v hv w => by
    have h := cut_calls2 w 126 (by decide) (v : Int) (by omega)
    have e : cutB 126 (v : Int) = ((CU v : Nat) : Int) := by
      rw [HCU]
      unfold cutB
      rw [if_neg (by decide)]
      
    rw [e] at h
    exact h
  have hCl : ∀ v : Nat, v < 18446744073709551616 → CU v < 18446744073709551616 := fun v hv => by rw [HCU]; dsimp only; omega
  have hcA : cut32 o a = CU a := by unfold cut32; rw [hs, HCU]; rw [if_neg (by simp)]
  have hcB : cut32 o b = CU b := by unfold cut32; rw [hs, HCU]; rw [if_neg (by simp)]
  clear HCU
  rw [ho] at hcA
  unfold numP
  rw [hcA, if_neg (by decide), if_neg (by decide), if_neg (by decide), if_neg (by decide), if_neg (by decide), if_neg (by decide), if_neg (by decide), if_neg (by decide), if_neg (by decide), if_neg (by decide), if_neg (by decide), if_neg (by decide), if_neg (by decide)]
  have hk := fun w => convert_186 (CU a) (hCl a ha) w
  generalize convM 186 (CU a) = X at hk ⊢
  obtain ⟨x1, x2⟩ := X
  unfold fitV at hk ⊢
  dsimp only at hk ⊢
  clear hs hcA hcB hCl ho
  go_enter Tryz.func278, Tryz.ntmps278
  go_wp2_with (first | (go_at_call 208; refine (hsg _).mono ?_; rintro en w2 ⟨rfl, rfl⟩) | (go_at_call 46; refine (hC _ (by assumption) _).mono ?_; rintro en w2 ⟨rfl, rfl⟩) | (go_at_call 291; refine (hk _).mono ?_; rintro en w2 ⟨rfl, rfl⟩))
  refine bodyPost_ret (v := .tuple #[.int .u64 (x1 : Int), .int .i64 (x2 : Int)]) (by simp [results, Tryz.results278, go_sem]) rfl ?_
  exact ⟨rfl, rfl⟩
set_option maxHeartbeats 4000000 in
theorem applyM_187 (a b : Nat) (ha : a < 18446744073709551616) (hb : b < 18446744073709551616) (w : World) : Calls Tryz.prog 278 #[.int .i64 187, .int .u64 a, .int .u64 b] w (Pq w (fitV (numP 187 a b))) := by
  obtain ⟨o, ho⟩ : ∃ o : Nat, o = 187 := ⟨_, rfl⟩
  obtain ⟨r1, hs⟩ : ∃ r1, numSig o = (1, 125, r1) := ⟨_, by rw [ho]; rfl⟩
  have hsg := fun w => numSig_pq 187 (by decide) w
  rw [← ho, hs, ho] at hsg
  unfold enc3 at hsg
  dsimp only at hsg
  obtain ⟨CU, HCU⟩ : ∃ CU : Nat → Nat, CU = fun v => v % 4294967296 := ⟨_, rfl⟩
  have hC : ∀ v : Nat, v < 18446744073709551616 → ∀ w, Calls Tryz.prog 46 #[.int .u8 125, .int .u64 v] w (Pq w (.int .u64 ((CU v : Nat) : Int))) := fun v hv w => by
    have h := cut_calls2 w 125 (by decide) (v : Int) (by omega)
    have e : cutB 125 (v : Int) = ((CU v : Nat) : Int) := by
      rw [HCU]
      unfold cutB
      rw [if_pos (by decide)]
      dsimp only; omega
    rw [e] at h
    exact h
  have hCl : ∀ v : Nat, v < 18446744073709551616 → CU v < 4294967296 := fun v hv => by rw [HCU]; dsimp only; omega
  have hcA : cut32 o a = CU a := by unfold cut32; rw [hs, HCU]; rw [if_pos (by simp)]
  have hcB : cut32 o b = CU b := by unfold cut32; rw [hs, HCU]; rw [if_pos (by simp)]
  clear HCU
  rw [ho] at hcA
  unfold numP
  rw [hcA, if_neg (by decide), if_neg (by decide), if_neg (by decide), if_neg (by decide), if_neg (by decide), if_neg (by decide), if_neg (by decide), if_neg (by decide), if_neg (by decide), if_neg (by decide), if_neg (by decide), if_neg (by decide), if_neg (by decide)]
  have hk := fun w => convert_187 (CU a) (hCl a ha) w
  generalize convM 187 (CU a) = X at hk ⊢
  obtain ⟨x1, x2⟩ := X
  unfold fitV at hk ⊢
  dsimp only at hk ⊢
  clear hs hcA hcB hCl ho
  go_enter Tryz.func278, Tryz.ntmps278
  go_wp2_with (first | (go_at_call 208; refine (hsg _).mono ?_; rintro en w2 ⟨rfl, rfl⟩) | (go_at_call 46; refine (hC _ (by assumption) _).mono ?_; rintro en w2 ⟨rfl, rfl⟩) | (go_at_call 291; refine (hk _).mono ?_; rintro en w2 ⟨rfl, rfl⟩))
  refine bodyPost_ret (v := .tuple #[.int .u64 (x1 : Int), .int .i64 (x2 : Int)]) (by simp [results, Tryz.results278, go_sem]) rfl ?_
  exact ⟨rfl, rfl⟩
set_option maxHeartbeats 4000000 in
theorem applyM_188 (a b : Nat) (ha : a < 18446744073709551616) (hb : b < 18446744073709551616) (w : World) : Calls Tryz.prog 278 #[.int .i64 188, .int .u64 a, .int .u64 b] w (Pq w (fitV (numP 188 a b))) := by
  obtain ⟨o, ho⟩ : ∃ o : Nat, o = 188 := ⟨_, rfl⟩
  obtain ⟨r1, hs⟩ : ∃ r1, numSig o = (1, 125, r1) := ⟨_, by rw [ho]; rfl⟩
  have hsg := fun w => numSig_pq 188 (by decide) w
  rw [← ho, hs, ho] at hsg
  unfold enc3 at hsg
  dsimp only at hsg
  obtain ⟨CU, HCU⟩ : ∃ CU : Nat → Nat, CU = fun v => v % 4294967296 := ⟨_, rfl⟩
  have hC : ∀ v : Nat, v < 18446744073709551616 → ∀ w, Calls Tryz.prog 46 #[.int .u8 125, .int .u64 v] w (Pq w (.int .u64 ((CU v : Nat) : Int))) := fun v hv w => by
    have h := cut_calls2 w 125 (by decide) (v : Int) (by omega)
    have e : cutB 125 (v : Int) = ((CU v : Nat) : Int) := by
      rw [HCU]
      unfold cutB
      rw [if_pos (by decide)]
      dsimp only; omega
    rw [e] at h
    exact h
  have hCl : ∀ v : Nat, v < 18446744073709551616 → CU v < 4294967296 := fun v hv => by rw [HCU]; dsimp only; omega
  have hcA : cut32 o a = CU a := by unfold cut32; rw [hs, HCU]; rw [if_pos (by simp)]
  have hcB : cut32 o b = CU b := by unfold cut32; rw [hs, HCU]; rw [if_pos (by simp)]
  clear HCU
  rw [ho] at hcA
  unfold numP
  rw [hcA, if_neg (by decide), if_neg (by decide), if_neg (by decide), if_neg (by decide), if_neg (by decide), if_neg (by decide), if_neg (by decide), if_neg (by decide), if_neg (by decide), if_neg (by decide), if_neg (by decide), if_neg (by decide), if_neg (by decide)]
  have hk := fun w => convert_188 (CU a) (hCl a ha) w
  generalize convM 188 (CU a) = X at hk ⊢
  obtain ⟨x1, x2⟩ := X
  unfold fitV at hk ⊢
  dsimp only at hk ⊢
  clear hs hcA hcB hCl ho
  go_enter Tryz.func278, Tryz.ntmps278
  go_wp2_with (first | (go_at_call 208; refine (hsg _).mono ?_; rintro en w2 ⟨rfl, rfl⟩) | (go_at_call 46; refine (hC _ (by assumption) _).mono ?_; rintro en w2 ⟨rfl, rfl⟩) | (go_at_call 291; refine (hk _).mono ?_; rintro en w2 ⟨rfl, rfl⟩))
  refine bodyPost_ret (v := .tuple #[.int .u64 (x1 : Int), .int .i64 (x2 : Int)]) (by simp [results, Tryz.results278, go_sem]) rfl ?_
  exact ⟨rfl, rfl⟩
set_option maxHeartbeats 4000000 in
theorem applyM_189 (a b : Nat) (ha : a < 18446744073709551616) (hb : b < 18446744073709551616) (w : World) : Calls Tryz.prog 278 #[.int .i64 189, .int .u64 a, .int .u64 b] w (Pq w (fitV (numP 189 a b))) := by
  obtain ⟨o, ho⟩ : ∃ o : Nat, o = 189 := ⟨_, rfl⟩
  obtain ⟨r1, hs⟩ : ∃ r1, numSig o = (1, 124, r1) := ⟨_, by rw [ho]; rfl⟩
  have hsg := fun w => numSig_pq 189 (by decide) w
  rw [← ho, hs, ho] at hsg
  unfold enc3 at hsg
  dsimp only at hsg
  obtain ⟨CU, HCU⟩ : ∃ CU : Nat → Nat, CU = fun v => v := ⟨_, rfl⟩
  have hC : ∀ v : Nat, v < 18446744073709551616 → ∀ w, Calls Tryz.prog 46 #[.int .u8 124, .int .u64 v] w (Pq w (.int .u64 ((CU v : Nat) : Int))) := fun v hv w => by
    have h := cut_calls2 w 124 (by decide) (v : Int) (by omega)
    have e : cutB 124 (v : Int) = ((CU v : Nat) : Int) := by
      rw [HCU]
      unfold cutB
      rw [if_neg (by decide)]
      
    rw [e] at h
    exact h
  have hCl : ∀ v : Nat, v < 18446744073709551616 → CU v < 18446744073709551616 := fun v hv => by rw [HCU]; dsimp only; omega
  have hcA : cut32 o a = CU a := by unfold cut32; rw [hs, HCU]; rw [if_neg (by simp)]
  have hcB : cut32 o b = CU b := by unfold cut32; rw [hs, HCU]; rw [if_neg (by simp)]
  clear HCU
  rw [ho] at hcA
  unfold numP
  rw [hcA, if_neg (by decide), if_neg (by decide), if_neg (by decide), if_neg (by decide), if_neg (by decide), if_neg (by decide), if_neg (by decide), if_neg (by decide), if_neg (by decide), if_neg (by decide), if_neg (by decide), if_neg (by decide), if_neg (by decide)]
  have hk := fun w => convert_189 (CU a) (hCl a ha) w
  generalize convM 189 (CU a) = X at hk ⊢
  obtain ⟨x1, x2⟩ := X
  unfold fitV at hk ⊢
  dsimp only at hk ⊢
  clear hs hcA hcB hCl ho
  go_enter Tryz.func278, Tryz.ntmps278
  go_wp2_with (first | (go_at_call 208; refine (hsg _).mono ?_; rintro en w2 ⟨rfl, rfl⟩) | (go_at_call 46; refine (hC _ (by assumption) _).mono ?_; rintro en w2 ⟨rfl, rfl⟩) | (go_at_call 291; refine (hk _).mono ?_; rintro en w2 ⟨rfl, rfl⟩))
  refine bodyPost_ret (v := .tuple #[.int .u64 (x1 : Int), .int .i64 (x2 : Int)]) (by simp [results, Tryz.results278, go_sem]) rfl ?_
  exact ⟨rfl, rfl⟩
set_option maxHeartbeats 4000000 in
theorem applyM_190 (a b : Nat) (ha : a < 18446744073709551616) (hb : b < 18446744073709551616) (w : World) : Calls Tryz.prog 278 #[.int .i64 190, .int .u64 a, .int .u64 b] w (Pq w (fitV (numP 190 a b))) := by
  obtain ⟨o, ho⟩ : ∃ o : Nat, o = 190 := ⟨_, rfl⟩
  obtain ⟨r1, hs⟩ : ∃ r1, numSig o = (1, 127, r1) := ⟨_, by rw [ho]; rfl⟩
  have hsg := fun w => numSig_pq 190 (by decide) w
  rw [← ho, hs, ho] at hsg
  unfold enc3 at hsg
  dsimp only at hsg
  obtain ⟨CU, HCU⟩ : ∃ CU : Nat → Nat, CU = fun v => v % 4294967296 := ⟨_, rfl⟩
  have hC : ∀ v : Nat, v < 18446744073709551616 → ∀ w, Calls Tryz.prog 46 #[.int .u8 127, .int .u64 v] w (Pq w (.int .u64 ((CU v : Nat) : Int))) := fun v hv w => by
    have h := cut_calls2 w 127 (by decide) (v : Int) (by omega)
    have e : cutB 127 (v : Int) = ((CU v : Nat) : Int) := by
      rw [HCU]
      unfold cutB
      rw [if_pos (by decide)]
      dsimp only; omega
    rw [e] at h
    exact h
  have hCl : ∀ v : Nat, v < 18446744073709551616 → CU v < 4294967296 := fun v hv => by rw [HCU]; dsimp only; omega
  have hcA : cut32 o a = CU a := by unfold cut32; rw [hs, HCU]; rw [if_pos (by simp)]
  have hcB : cut32 o b = CU b := by unfold cut32; rw [hs, HCU]; rw [if_pos (by simp)]
  clear HCU
  rw [ho] at hcA
  unfold numP
  rw [hcA, if_neg (by decide), if_neg (by decide), if_neg (by decide), if_neg (by decide), if_neg (by decide), if_neg (by decide), if_neg (by decide), if_neg (by decide), if_neg (by decide), if_neg (by decide), if_neg (by decide), if_neg (by decide), if_neg (by decide)]
  have hk := fun w => convert_190 (CU a) (hCl a ha) w
  generalize convM 190 (CU a) = X at hk ⊢
  obtain ⟨x1, x2⟩ := X
  unfold fitV at hk ⊢
  dsimp only at hk ⊢
  clear hs hcA hcB hCl ho
  go_enter Tryz.func278, Tryz.ntmps278
  go_wp2_with (first | (go_at_call 208; refine (hsg _).mono ?_; rintro en w2 ⟨rfl, rfl⟩) | (go_at_call 46; refine (hC _ (by assumption) _).mono ?_; rintro en w2 ⟨rfl, rfl⟩) | (go_at_call 291; refine (hk _).mono ?_; rintro en w2 ⟨rfl, rfl⟩))
  refine bodyPost_ret (v := .tuple #[.int .u64 (x1 : Int), .int .i64 (x2 : Int)]) (by simp [results, Tryz.results278, go_sem]) rfl ?_
  exact ⟨rfl, rfl⟩
set_option maxHeartbeats 4000000 in
theorem applyM_191 (a b : Nat) (ha : a < 18446744073709551616) (hb : b < 18446744073709551616) (w : World) : Calls Tryz.prog 278 #[.int .i64 191, .int .u64 a, .int .u64 b] w (Pq w (fitV (numP 191 a b))) := by
  obtain ⟨o, ho⟩ : ∃ o : Nat, o = 191 := ⟨_, rfl⟩
  obtain ⟨r1, hs⟩ : ∃ r1, numSig o = (1, 126, r1) := ⟨_, by rw [ho]; rfl⟩
  have hsg := fun w => numSig_pq 191 (by decide) w
  rw [← ho, hs, ho] at hsg
  unfold enc3 at hsg
  dsimp only at hsg
  obtain ⟨CU, HCU⟩ : ∃ CU : Nat → Nat, CU = fun v => v := ⟨_, rfl⟩
  have hC : ∀ v : Nat, v < 18446744073709551616 → ∀ w, Calls Tryz.prog 46 #[.int .u8 126, .int .u64 v] w (Pq w (.int .u64 ((CU v : Nat) : Int))) := fun v hv w => by
    have h := cut_calls2 w 126 (by decide) (v : Int) (by omega)
    have e : cutB 126 (v : Int) = ((CU v : Nat) : Int) := by
      rw [HCU]
      unfold cutB
      rw [if_neg (by decide)]
      
    rw [e] at h
    exact h
  have hCl : ∀ v : Nat, v < 18446744073709551616 → CU v < 18446744073709551616 := fun v hv => by rw [HCU]; dsimp only; omega
  have hcA : cut32 o a = CU a := by unfold cut32; rw [hs, HCU]; rw [if_neg (by simp)]
  have hcB : cut32 o b = CU b := by unfold cut32; rw [hs, HCU]; rw [if_neg (by simp)]
  clear HCU
  rw [ho] at hcA
  unfold numP
  rw [hcA, if_neg (by decide), if_neg (by decide), if_neg (by decide), if_neg (by decide), if_neg (by decide), if_neg (by decide), if_neg (by decide), if_neg (by decide), if_neg (by decide), if_neg (by decide), if_neg (by decide), if_neg (by decide), if_neg (by decide)]
  have hk := fun w => convert_191 (CU a) (hCl a ha) w
  generalize convM 191 (CU a) = X at hk ⊢
  obtain ⟨x1, x2⟩ := X
  unfold fitV at hk ⊢
  dsimp only at hk ⊢
  clear hs hcA hcB hCl ho
  go_enter Tryz.func278, Tryz.ntmps278
  go_wp2_with (first | (go_at_call 208; refine (hsg _).mono ?_; rintro en w2 ⟨rfl, rfl⟩) | (go_at_call 46; refine (hC _ (by assumption) _).mono ?_; rintro en w2 ⟨rfl, rfl⟩) | (go_at_call 291; refine (hk _).mono ?_; rintro en w2 ⟨rfl, rfl⟩))
  refine bodyPost_ret (v := .tuple #[.int .u64 (x1 : Int), .int .i64 (x2 : Int)]) (by simp [results, Tryz.results278, go_sem]) rfl ?_
  exact ⟨rfl, rfl⟩
end Go.Proofs.Qxb6500275aGreatDoor
