import Derived.Test.Qxb6500275aGreatDoorNqF
set_option maxRecDepth 100000
set_option linter.unusedVariables false
set_option linter.unusedSimpArgs false
namespace Go.Proofs.Qxb6500275aGreatDoor
open Go Go.RowKit
set_option maxHeartbeats 4000000 in
theorem applyM_167 (a b : Nat) (ha : a < 18446744073709551616) (hb : b < 18446744073709551616) (w : World) : Calls Tryz.prog 278 #[.int .i64 167, .int .u64 a, .int .u64 b] w (Pq w (fitV (numP 167 a b))) := by
  obtain ⟨o, ho⟩ : ∃ o : Nat, o = 167 := ⟨_, rfl⟩
  obtain ⟨r1, hs⟩ : ∃ r1, numSig o = (1, 126, r1) := ⟨_, by rw [ho]; rfl⟩
  have hsg := fun w => numSig_pq 167 (by decide) w
  rw [← ho, hs, ho] at hsg
  unfold enc3 at hsg
  dsimp only at hsg
  obtain ⟨CU, HCU⟩ : ∃ CU : Nat → Nat, CU = fun v => v := ⟨_, rfl⟩
  have hC : ∀ v : Nat, v < 18446744073709551616 → ∀ w, Calls Tryz.prog 46 #[.int .u8 126, .int .u64 v] w (Pq w (.int .u64 ((CU v : Nat) : Int))) := fun v hv w => by
    have h := cut_calls2 w 126 (by decide) (v : Int) (by omega)
    have e : cutB 126 (v : Int) = ((CU v : Nat) : Int) := by
      rw [HCU]
      unfold cutB
      rw [if_neg (by decide)]
      
    rw [e] at h
    exact h
  have hCl : ∀ v : Nat, v < 18446744073709551616 → CU v < 18446744073709551616 := fun v hv => by rw [HCU]; dsimp only; omega
  have hcA : cut32 o a = CU a := by unfold cut32; rw [hs, HCU]; rw [if_neg (by simp)]
  have hcB : cut32 o b = CU b := by unfold cut32; rw [hs, HCU]; rw [if_neg (by simp)]
  clear HCU
  rw [ho] at hcA
  unfold numP
  rw [hcA, if_neg (by decide), if_neg (by decide), if_neg (by decide), if_neg (by decide), if_neg (by decide), if_neg (by decide), if_neg (by decide), if_neg (by decide), if_neg (by decide), if_neg (by decide), if_neg (by decide), if_neg (by decide), if_neg (by decide)]
  have hk := fun w => convert_167 (CU a) (hCl a ha) w
  generalize convM 167 (CU a) = X at hk ⊢
  obtain ⟨x1, x2⟩ := X
  unfold fitV at hk ⊢
  dsimp only at hk ⊢
  clear hs hcA hcB hCl ho
  go_enter Tryz.func278, Tryz.ntmps278
  go_wp2_with (first | (go_at_call 208; refine (hsg _).mono ?_; rintro en w2 ⟨rfl, rfl⟩) | (go_at_call 46; refine (hC _ (by assumption) _).mono ?_; rintro en w2 ⟨rfl, rfl⟩) | (go_at_call 291; refine (hk _).mono ?_; rintro en w2 ⟨rfl, rfl⟩))
  refine bodyPost_ret (v := .tuple #[.int .u64 (x1 : Int), .int .i64 (x2 : Int)]) (by simp [results, Tryz.results278, go_sem]) rfl ?_
  exact ⟨rfl, rfl⟩
set_option maxHeartbeats 4000000 in
theorem applyM_168 (a b : Nat) (ha : a < 18446744073709551616) (hb : b < 18446744073709551616) (w : World) : Calls Tryz.prog 278 #[.int .i64 168, .int .u64 a, .int .u64 b] w (Pq w (fitV (numP 168 a b))) := by
  obtain ⟨o, ho⟩ : ∃ o : Nat, o = 168 := ⟨_, rfl⟩
  obtain ⟨r1, hs⟩ : ∃ r1, numSig o = (1, 125, r1) := ⟨_, by rw [ho]; rfl⟩
  have hsg := fun w => numSig_pq 168 (by decide) w
  rw [← ho, hs, ho] at hsg
  unfold enc3 at hsg
  dsimp only at hsg
  obtain ⟨CU, HCU⟩ : ∃ CU : Nat → Nat, CU = fun v => v % 4294967296 := ⟨_, rfl⟩
  have hC : ∀ v : Nat, v < 18446744073709551616 → ∀ w, Calls Tryz.prog 46 #[.int .u8 125, .int .u64 v] w (Pq w (.int .u64 ((CU v : Nat) : Int))) := fun v hv w => by
    have h := cut_calls2 w 125 (by decide) (v : Int) (by omega)
    have e : cutB 125 (v : Int) = ((CU v : Nat) : Int) := by
      rw [HCU]
      unfold cutB
      rw [if_pos (by decide)]
      dsimp only; omega
    rw [e] at h
    exact h
  have hCl : ∀ v : Nat, v < 18446744073709551616 → CU v < 4294967296 := fun v hv => by rw [HCU]; dsimp only; omega
  have hcA : cut32 o a = CU a := by unfold cut32; rw [hs, HCU]; rw [if_pos (by simp)]
  have hcB : cut32 o b = CU b := by unfold cut32; rw [hs, HCU]; rw [if_pos (by simp)]
  clear HCU
  rw [ho] at hcA
  unfold numP
  rw [hcA, if_neg (by decide), if_neg (by decide), if_neg (by decide), if_neg (by decide), if_neg (by decide), if_neg (by decide), if_neg (by decide), if_neg (by decide), if_neg (by decide), if_neg (by decide), if_neg (by decide), if_neg (by decide), if_neg (by decide)]
  have hk := fun w => convert_168 (CU a) (hCl a ha) w
  generalize convM 168 (CU a) = X at hk ⊢
  obtain ⟨x1, x2⟩ := X
  unfold fitV at hk ⊢
  dsimp only at hk ⊢
  clear hs hcA hcB hCl ho
  go_enter Tryz.func278, Tryz.ntmps278
  go_wp2_with (first | (go_at_call 208; refine (hsg _).mono ?_; rintro en w2 ⟨rfl, rfl⟩) | (go_at_call 46; refine (hC _ (by assumption) _).mono ?_; rintro en w2 ⟨rfl, rfl⟩) | (go_at_call 291; refine (hk _).mono ?_; rintro en w2 ⟨rfl, rfl⟩))
  refine bodyPost_ret (v := .tuple #[.int .u64 (x1 : Int), .int .i64 (x2 : Int)]) (by simp [results, Tryz.results278, go_sem]) rfl ?_
  exact ⟨rfl, rfl⟩
set_option maxHeartbeats 4000000 in
theorem applyM_169 (a b : Nat) (ha : a < 18446744073709551616) (hb : b < 18446744073709551616) (w : World) : Calls Tryz.prog 278 #[.int .i64 169, .int .u64 a, .int .u64 b] w (Pq w (fitV (numP 169 a b))) := by
  obtain ⟨o, ho⟩ : ∃ o : Nat, o = 169 := ⟨_, rfl⟩
  obtain ⟨r1, hs⟩ : ∃ r1, numSig o = (1, 125, r1) := ⟨_, by rw [ho]; rfl⟩
  have hsg := fun w => numSig_pq 169 (by decide) w
  rw [← ho, hs, ho] at hsg
  unfold enc3 at hsg
  dsimp only at hsg
  obtain ⟨CU, HCU⟩ : ∃ CU : Nat → Nat, CU = fun v => v % 4294967296 := ⟨_, rfl⟩
  have hC : ∀ v : Nat, v < 18446744073709551616 → ∀ w, Calls Tryz.prog 46 #[.int .u8 125, .int .u64 v] w (Pq w (.int .u64 ((CU v : Nat) : Int))) := fun v hv w => by
    have h := cut_calls2 w 125 (by decide) (v : Int) (by omega)
    have e : cutB 125 (v : Int) = ((CU v : Nat) : Int) := by
      rw [HCU]
      unfold cutB
      rw [if_pos (by decide)]
      dsimp only; omega
    rw [e] at h
    exact h
  have hCl : ∀ v : Nat, v < 18446744073709551616 → CU v < 4294967296 := fun v hv => by rw [HCU]; dsimp only; omega
  have hcA : cut32 o a = CU a := by unfold cut32; rw [hs, HCU]; rw [if_pos (by simp)]
  have hcB : cut32 o b = CU b := by unfold cut32; rw [hs, HCU]; rw [if_pos (by simp)]
  clear HCU
  rw [ho] at hcA
  unfold numP
  rw [hcA, if_neg (by decide), if_neg (by decide), if_neg (by decide), if_neg (by decide), if_neg (by decide), if_neg (by decide), if_neg (by decide), if_neg (by decide), if_neg (by decide), if_neg (by decide), if_neg (by decide), if_neg (by decide), if_neg (by decide)]
  have hk := fun w => convert_169 (CU a) (hCl a ha) w
  generalize convM 169 (CU a) = X at hk ⊢
  obtain ⟨x1, x2⟩ := X
  unfold fitV at hk ⊢
  dsimp only at hk ⊢
  clear hs hcA hcB hCl ho
  go_enter Tryz.func278, Tryz.ntmps278
  go_wp2_with (first | (go_at_call 208; refine (hsg _).mono ?_; rintro en w2 ⟨rfl, rfl⟩) | (go_at_call 46; refine (hC _ (by assumption) _).mono ?_; rintro en w2 ⟨rfl, rfl⟩) | (go_at_call 291; refine (hk _).mono ?_; rintro en w2 ⟨rfl, rfl⟩))
  refine bodyPost_ret (v := .tuple #[.int .u64 (x1 : Int), .int .i64 (x2 : Int)]) (by simp [results, Tryz.results278, go_sem]) rfl ?_
  exact ⟨rfl, rfl⟩
set_option maxHeartbeats 4000000 in
theorem applyM_170 (a b : Nat) (ha : a < 18446744073709551616) (hb : b < 18446744073709551616) (w : World) : Calls Tryz.prog 278 #[.int .i64 170, .int .u64 a, .int .u64 b] w (Pq w (fitV (numP 170 a b))) := by
  obtain ⟨o, ho⟩ : ∃ o : Nat, o = 170 := ⟨_, rfl⟩
  obtain ⟨r1, hs⟩ : ∃ r1, numSig o = (1, 124, r1) := ⟨_, by rw [ho]; rfl⟩
  have hsg := fun w => numSig_pq 170 (by decide) w
  rw [← ho, hs, ho] at hsg
  unfold enc3 at hsg
  dsimp only at hsg
  obtain ⟨CU, HCU⟩ : ∃ CU : Nat → Nat, CU = fun v => v := ⟨_, rfl⟩
  have hC : ∀ v : Nat, v < 18446744073709551616 → ∀ w, Calls Tryz.prog 46 #[.int .u8 124, .int .u64 v] w (Pq w (.int .u64 ((CU v : Nat) : Int))) := fun v hv w => by
    have h := cut_calls2 w 124 (by decide) (v : Int) (by omega)
    have e : cutB 124 (v : Int) = ((CU v : Nat) : Int) := by
      rw [HCU]
      unfold cutB
      rw [if_neg (by decide)]
      
    rw [e] at h
    exact h
  have hCl : ∀ v : Nat, v < 18446744073709551616 → CU v < 18446744073709551616 := fun v hv => by rw [HCU]; dsimp only; omega
  have hcA : cut32 o a = CU a := by unfold cut32; rw [hs, HCU]; rw [if_neg (by simp)]
  have hcB : cut32 o b = CU b := by unfold cut32; rw [hs, HCU]; rw [if_neg (by simp)]
  clear HCU
  rw [ho] at hcA
  unfold numP
  rw [hcA, if_neg (by decide), if_neg (by decide), if_neg (by decide), if_neg (by decide), if_neg (by decide), if_neg (by decide), if_neg (by decide), if_neg (by decide), if_neg (by decide), if_neg (by decide), if_neg (by decide), if_neg (by decide), if_neg (by decide)]
  have hk := fun w => convert_170 (CU a) (hCl a ha) w
  generalize convM 170 (CU a) = X at hk ⊢
  obtain ⟨x1, x2⟩ := X
  unfold fitV at hk ⊢
  dsimp only at hk ⊢
  clear hs hcA hcB hCl ho
  go_enter Tryz.func278, Tryz.ntmps278
  go_wp2_with (first | (go_at_call 208; refine (hsg _).mono ?_; rintro en w2 ⟨rfl, rfl⟩) | (go_at_call 46; refine (hC _ (by assumption) _).mono ?_; rintro en w2 ⟨rfl, rfl⟩) | (go_at_call 291; refine (hk _).mono ?_; rintro en w2 ⟨rfl, rfl⟩))
  refine bodyPost_ret (v := .tuple #[.int .u64 (x1 : Int), .int .i64 (x2 : Int)]) (by simp [results, Tryz.results278, go_sem]) rfl ?_
  exact ⟨rfl, rfl⟩
set_option maxHeartbeats 4000000 in
theorem applyM_171 (a b : Nat) (ha : a < 18446744073709551616) (hb : b < 18446744073709551616) (w : World) : Calls Tryz.prog 278 #[.int .i64 171, .int .u64 a, .int .u64 b] w (Pq w (fitV (numP 171 a b))) := by
  obtain ⟨o, ho⟩ : ∃ o : Nat, o = 171 := ⟨_, rfl⟩
  obtain ⟨r1, hs⟩ : ∃ r1, numSig o = (1, 124, r1) := ⟨_, by rw [ho]; rfl⟩
  have hsg := fun w => numSig_pq 171 (by decide) w
  rw [← ho, hs, ho] at hsg
  unfold enc3 at hsg
  dsimp only at hsg
  obtain ⟨CU, HCU⟩ : ∃ CU : Nat → Nat, CU = fun v => v := ⟨_, rfl⟩
  have hC : ∀ v : Nat, v < 18446744073709551616 → ∀ w, Calls Tryz.prog 46 #[.int .u8 124, .int .u64 v] w (Pq w (.int .u64 ((CU v : Nat) : Int))) := fun v hv w => by
    have h := cut_calls2 w 124 (by decide) (v : Int) (by omega)
    have e : cutB 124 (v : Int) = ((CU v : Nat) : Int) := by
      rw [HCU]
      unfold cutB
      rw [if_neg (by decide)]
      
    rw [e] at h
    exact h
  have hCl : ∀ v : Nat, v < 18446744073709551616 → CU v < 18446744073709551616 := fun v hv => by rw [HCU]; dsimp only; omega
  have hcA : cut32 o a = CU a := by unfold cut32; rw [hs, HCU]; rw [if_neg (by simp)]
  have hcB : cut32 o b = CU b := by unfold cut32; rw [hs, HCU]; rw [if_neg (by simp)]
  clear HCU
  rw [ho] at hcA
  unfold numP
  rw [hcA, if_neg (by decide), if_neg (by decide), if_neg (by decide), if_neg (by decide), if_neg (by decide), if_neg (by decide), if_neg (by decide), if_neg (by decide), if_neg (by decide), if_neg (by decide), if_neg (by decide), if_neg (by decide), if_neg (by decide)]
  have hk := fun w => convert_171 (CU a) (hCl a ha) w
  generalize convM 171 (CU a) = X at hk ⊢
  obtain ⟨x1, x2⟩ := X
  unfold fitV at hk ⊢
  dsimp only at hk ⊢
  clear hs hcA hcB hCl ho
  go_enter Tryz.func278, Tryz.ntmps278
  go_wp2_with (first | (go_at_call 208; refine (hsg _).mono ?_; rintro en w2 ⟨rfl, rfl⟩) | (go_at_call 46; refine (hC _ (by assumption) _).mono ?_; rintro en w2 ⟨rfl, rfl⟩) | (go_at_call 291; refine (hk _).mono ?_; rintro en w2 ⟨rfl, rfl⟩))
  refine bodyPost_ret (v := .tuple #[.int .u64 (x1 : Int), .int .i64 (x2 : Int)]) (by simp [results, Tryz.results278, go_sem]) rfl ?_
  exact ⟨rfl, rfl⟩
set_option maxHeartbeats 4000000 in
theorem applyM_172 (a b : Nat) (ha : a < 18446744073709551616) (hb : b < 18446744073709551616) (w : World) : Calls Tryz.prog 278 #[.int .i64 172, .int .u64 a, .int .u64 b] w (Pq w (fitV (numP 172 a b))) := by
  obtain ⟨o, ho⟩ : ∃ o : Nat, o = 172 := ⟨_, rfl⟩
  obtain ⟨r1, hs⟩ : ∃ r1, numSig o = (1, 127, r1) := ⟨_, by rw [ho]; rfl⟩
  have hsg := fun w => numSig_pq 172 (by decide) w
  rw [← ho, hs, ho] at hsg
  unfold enc3 at hsg
  dsimp only at hsg
  obtain ⟨CU, HCU⟩ : ∃ CU : Nat → Nat, CU = fun v => v % 4294967296 := ⟨_, rfl⟩
  have hC : ∀ v : Nat, v < 18446744073709551616 → ∀ w, Calls Tryz.prog 46 #[.int .u8 127, .int .u64 v] w (Pq w (.int .u64 ((CU v : Nat) : Int))) := fun v hv w => by
    have h := cut_calls2 w 127 (by decide) (v : Int) (by omega)
    have e : cutB 127 (v : Int) = ((CU v : Nat) : Int) := by
      rw [HCU]
      unfold cutB
      rw [if_pos (by decide)]
      dsimp only; omega
    rw [e] at h
    exact h
  have hCl : ∀ v : Nat, v < 18446744073709551616 → CU v < 4294967296 := fun v hv => by rw [HCU]; dsimp only; omega
  have hcA : cut32 o a = CU a := by unfold cut32; rw [hs, HCU]; rw [if_pos (by simp)]
  have hcB : cut32 o b = CU b := by unfold cut32; rw [hs, HCU]; rw [if_pos (by simp)]
  clear HCU
  rw [ho] at hcA
  unfold numP
  rw [hcA, if_neg (by decide), if_neg (by decide), if_neg (by decide), if_neg (by decide), if_neg (by decide), if_neg (by decide), if_neg (by decide), if_neg (by decide), if_neg (by decide), if_neg (by decide), if_neg (by decide), if_neg (by decide), if_neg (by decide)]
  have hk := fun w => convert_172 (CU a) (hCl a ha) w
  generalize convM 172 (CU a) = X at hk ⊢
  obtain ⟨x1, x2⟩ := X
  unfold fitV at hk ⊢
  dsimp only at hk ⊢
  clear hs hcA hcB hCl ho
  go_enter Tryz.func278, Tryz.ntmps278
  go_wp2_with (first | (go_at_call 208; refine (hsg _).mono ?_; rintro en w2 ⟨rfl, rfl⟩) | (go_at_call 46; refine (hC _ (by assumption) _).mono ?_; rintro en w2 ⟨rfl, rfl⟩) | (go_at_call 291; refine (hk _).mono ?_; rintro en w2 ⟨rfl, rfl⟩))
  refine bodyPost_ret (v := .tuple #[.int .u64 (x1 : Int), .int .i64 (x2 : Int)]) (by simp [results, Tryz.results278, go_sem]) rfl ?_
  exact ⟨rfl, rfl⟩
set_option maxHeartbeats 4000000 in
theorem applyM_173 (a b : Nat) (ha : a < 18446744073709551616) (hb : b < 18446744073709551616) (w : World) : Calls Tryz.prog 278 #[.int .i64 173, .int .u64 a, .int .u64 b] w (Pq w (fitV (numP 173 a b))) := by
  obtain ⟨o, ho⟩ : ∃ o : Nat, o = 173 := ⟨_, rfl⟩
  obtain ⟨r1, hs⟩ : ∃ r1, numSig o = (1, 127, r1) := ⟨_, by rw [ho]; rfl⟩
  have hsg := fun w => numSig_pq 173 (by decide) w
  rw [← ho, hs, ho] at hsg
  unfold enc3 at hsg
  dsimp only at hsg
  obtain ⟨CU, HCU⟩ : ∃ CU : Nat → Nat, CU = fun v => v % 4294967296 := ⟨_, rfl⟩
  have hC : ∀ v : Nat, v < 18446744073709551616 → ∀ w, Calls Tryz.prog 46 #[.int .u8 127, .int .u64 v] w (Pq w (.int .u64 ((CU v : Nat) : Int))) := fun v hv w => by
    have h := cut_calls2 w 127 (by decide) (v : Int) (by omega)
    have e : cutB 127 (v : Int) = ((CU v : Nat) : Int) := by
      rw [HCU]
      unfold cutB
      rw [if_pos (by decide)]
      dsimp only; omega
    rw [e] at h
    exact h
  have hCl : ∀ v : Nat, v < 18446744073709551616 → CU v < 4294967296 := fun v hv => by rw [HCU]; dsimp only; omega
  have hcA : cut32 o a = CU a := by unfold cut32; rw [hs, HCU]; rw [if_pos (by simp)]
  have hcB : cut32 o b = CU b := by unfold cut32; rw [hs, HCU]; rw [if_pos (by simp)]
  clear HCU
  rw [ho] at hcA
  unfold numP
  rw [hcA, if_neg (by decide), if_neg (by decide), if_neg (by decide), if_neg (by decide), if_neg (by decide), if_neg (by decide), if_neg (by decide), if_neg (by decide), if_neg (by decide), if_neg (by decide), if_neg (by decide), if_neg (by decide), if_neg (by decide)]
  have hk := fun w => convert_173 (CU a) (hCl a ha) w
  generalize convM 173 (CU a) = X at hk ⊢
  obtain ⟨x1, x2⟩ := X
  unfold fitV at hk ⊢
  dsimp only at hk ⊢
  clear hs hcA hcB hCl ho
  go_enter Tryz.func278, Tryz.ntmps278
  go_wp2_with (first | (go_at_call 208; refine (hsg _).mono ?_; rintro en w2 ⟨rfl, rfl⟩) | (go_at_call 46; refine (hC _ (by assumption) _).mono ?_; rintro en w2 ⟨rfl, rfl⟩) | (go_at_call 291; refine (hk _).mono ?_; rintro en w2 ⟨rfl, rfl⟩))
  refine bodyPost_ret (v := .tuple #[.int .u64 (x1 : Int), .int .i64 (x2 : Int)]) (by simp [results, Tryz.results278, go_sem]) rfl ?_
  exact ⟨rfl, rfl⟩
set_option maxHeartbeats 4000000 in
theorem applyM_174 (a b : Nat) (ha : a < 18446744073709551616) (hb : b < 18446744073709551616) (w : World) : Calls Tryz.prog 278 #[.int .i64 174, .int .u64 a, .int .u64 b] w (Pq w (fitV (numP 174 a b))) := by
  obtain ⟨o, ho⟩ : ∃ o : Nat, o = 174 := ⟨_, rfl⟩
  obtain ⟨r1, hs⟩ : ∃ r1, numSig o = (1, 125, r1) := ⟨_, by rw [ho]; rfl⟩
  have hsg := fun w => numSig_pq 174 (by decide) w
  rw [← ho, hs, ho] at hsg
  unfold enc3 at hsg
  dsimp only at hsg
  obtain ⟨CU, HCU⟩ : ∃ CU : Nat → Nat, CU = fun v => v % 4294967296 := ⟨_, rfl⟩
  have hC : ∀ v : Nat, v < 18446744073709551616 → ∀ w, Calls Tryz.prog 46 #[.int .u8 125, .int .u64 v] w (Pq w (.int .u64 ((CU v : Nat) : Int))) := fun v hv w => by
    have h := cut_calls2 w 125 (by decide) (v : Int) (by omega)
    have e : cutB 125 (v : Int) = ((CU v : Nat) : Int) := by
      rw [HCU]
      unfold cutB
      rw [if_pos (by decide)]
      dsimp only; omega
    rw [e] at h
    exact h
  have hCl : ∀ v : Nat, v < 18446744073709551616 → CU v < 4294967296 := fun v hv => by rw [HCU]; dsimp only; omega
  have hcA : cut32 o a = CU a := by unfold cut32; rw [hs, HCU]; rw [if_pos (by simp)]
  have hcB : cut32 o b = CU b := by unfold cut32; rw [hs, HCU]; rw [if_pos (by simp)]
  clear HCU
  rw [ho] at hcA
  unfold numP
  rw [hcA, if_neg (by decide), if_neg (by decide), if_neg (by decide), if_neg (by decide), if_neg (by decide), if_neg (by decide), if_neg (by decide), if_neg (by decide), if_neg (by decide), if_neg (by decide), if_neg (by decide), if_neg (by decide), if_neg (by decide)]
  have hk := fun w => convert_174 (CU a) (hCl a ha) w
  generalize convM 174 (CU a) = X at hk ⊢
  obtain ⟨x1, x2⟩ := X
  unfold fitV at hk ⊢
  dsimp only at hk ⊢
  clear hs hcA hcB hCl ho
  go_enter Tryz.func278, Tryz.ntmps278
  go_wp2_with (first | (go_at_call 208; refine (hsg _).mono ?_; rintro en w2 ⟨rfl, rfl⟩) | (go_at_call 46; refine (hC _ (by assumption) _).mono ?_; rintro en w2 ⟨rfl, rfl⟩) | (go_at_call 291; refine (hk _).mono ?_; rintro en w2 ⟨rfl, rfl⟩))
  refine bodyPost_ret (v := .tuple #[.int .u64 (x1 : Int), .int .i64 (x2 : Int)]) (by simp [results, Tryz.results278, go_sem]) rfl ?_
  exact ⟨rfl, rfl⟩
set_option maxHeartbeats 4000000 in
theorem applyM_175 (a b : Nat) (ha : a < 18446744073709551616) (hb : b < 18446744073709551616) (w : World) : Calls Tryz.prog 278 #[.int .i64 175, .int .u64 a, .int .u64 b] w (Pq w (fitV (numP 175 a b))) := by
  obtain ⟨o, ho⟩ : ∃ o : Nat, o = 175 := ⟨_, rfl⟩
  obtain ⟨r1, hs⟩ : ∃ r1, numSig o = (1, 125, r1) := ⟨_, by rw [ho]; rfl⟩
  have hsg := fun w => numSig_pq 175 (by decide) w
  rw [← ho, hs, ho] at hsg
  unfold enc3 at hsg
  dsimp only at hsg
  obtain ⟨CU, HCU⟩ : ∃ CU : Nat → Nat, CU = fun v => v % 4294967296 := ⟨_, rfl⟩
  have hC : ∀ v : Nat, v < 18446744073709551616 → ∀ w, Calls Tryz.prog 46 #[.int .u8 125, .int .u64 v] w (Pq w (.int .u64 ((CU v : Nat) : Int))) := fun v hv w => by
    have h := cut_calls2 w 125 (by decide) (v : Int) (by omega)
    have e : cutB 125 (v : Int) = ((CU v : Nat) : Int) := by
      rw [HCU]
      unfold cutB
      rw [if_pos (by decide)]
      dsimp only; omega
    rw [e] at h
    exact h
  have hCl : ∀ v : Nat, v < 18446744073709551616 → CU v < 4294967296 := fun v hv => by rw [HCU]; dsimp only; omega
  have hcA : cut32 o a = CU a := by unfold cut32; rw [hs, HCU]; rw [if_pos (by simp)]
  have hcB : cut32 o b = CU b := by unfold cut32; rw [hs, HCU]; rw [if_pos (by simp)]
  clear HCU
  rw [ho] at hcA
  unfold numP
  rw [hcA, if_neg (by decide), if_neg (by decide), if_neg (by decide), if_neg (by decide), if_neg (by decide), if_neg (by decide), if_neg (by decide), if_neg (by decide), if_neg (by decide), if_neg (by decide), if_neg (by decide), if_neg (by decide), if_neg (by decide)]
  have hk := fun w => convert_175 (CU a) (hCl a ha) w
  generalize convM 175 (CU a) = X at hk ⊢
  obtain ⟨x1, x2⟩ := X
  unfold fitV at hk ⊢
  dsimp only at hk ⊢
  clear hs hcA hcB hCl ho
  go_enter Tryz.func278, Tryz.ntmps278
  go_wp2_with (first | (go_at_call 208; refine (hsg _).mono ?_; rintro en w2 ⟨rfl, rfl⟩) | (go_at_call 46; refine (hC _ (by assumption) _).mono ?_; rintro en w2 ⟨rfl, rfl⟩) | (go_at_call 291; refine (hk _).mono ?_; rintro en w2 ⟨rfl, rfl⟩))
  refine bodyPost_ret (v := .tuple #[.int .u64 (x1 : Int), .int .i64 (x2 : Int)]) (by simp [results, Tryz.results278, go_sem]) rfl ?_
  exact ⟨rfl, rfl⟩
set_option maxHeartbeats 4000000 in
theorem applyM_176 (a b : Nat) (ha : a < 18446744073709551616) (hb : b < 18446744073709551616) (w : World) : Calls Tryz.prog 278 #[.int .i64 176, .int .u64 a, .int .u64 b] w (Pq w (fitV (numP 176 a b))) := by
  obtain ⟨o, ho⟩ : ∃ o : Nat, o = 176 := ⟨_, rfl⟩
  obtain ⟨r1, hs⟩ : ∃ r1, numSig o = (1, 124, r1) := ⟨_, by rw [ho]; rfl⟩
  have hsg := fun w => numSig_pq 176 (by decide) w
  rw [← ho, hs, ho] at hsg
  unfold enc3 at hsg
  dsimp only at hsg
  obtain ⟨CU, HCU⟩ : ∃ CU : Nat → Nat, CU = fun v => v := ⟨_, rfl⟩
  have hC : ∀ v : Nat, v < 18446744073709551616 → ∀ w, Calls Tryz.prog 46 #[.int .u8 124, .int .u64 v] w (Pq w (.int .u64 ((CU v : Nat) : Int))) := fun v hv w => by
    have h := cut_calls2 w 124 (by decide) (v : Int) (by omega)
    have e : cutB 124 (v : Int) = ((CU v : Nat) : Int) := by
      rw [HCU]
      unfold cutB
      rw [if_neg (by decide)]
      
    rw [e] at h
    exact h
  have hCl : ∀ v : Nat, v < 18446744073709551616 → CU v < 18446744073709551616 := fun v hv => by rw [HCU]; dsimp only; omega
  have hcA : cut32 o a = CU a := by unfold cut32; rw [hs, HCU]; rw [if_neg (by simp)]
  have hcB : cut32 o b = CU b := by unfold cut32; rw [hs, HCU]; rw [if_neg (by simp)]
  clear HCU
  rw [ho] at hcA
  unfold numP
  rw [hcA, if_neg (by decide), if_neg (by decide), if_neg (by decide), if_neg (by decide), if_neg (by decide), if_neg (by decide), if_neg (by decide), if_neg (by decide), if_neg (by decide), if_neg (by decide), if_neg (by decide), if_neg (by decide), if_neg (by decide)]
  have hk := fun w => convert_176 (CU a) (hCl a ha) w
  generalize convM 176 (CU a) = X at hk ⊢
  obtain ⟨x1, x2⟩ := X
  unfold fitV at hk ⊢
  dsimp only at hk ⊢
  clear hs hcA hcB hCl ho
  go_enter Tryz.func278, Tryz.ntmps278
  go_wp2_with (first | (go_at_call 208; refine (hsg _).mono ?_; rintro en w2 ⟨rfl, rfl⟩) | (go_at_call 46; refine (hC _ (by assumption) _).mono ?_; rintro en w2 ⟨rfl, rfl⟩) | (go_at_call 291; refine (hk _).mono ?_; rintro en w2 ⟨rfl, rfl⟩))
  refine bodyPost_ret (v := .tuple #[.int .u64 (x1 : Int), .int .i64 (x2 : Int)]) (by simp [results, Tryz.results278, go_sem]) rfl ?_
  exact ⟨rfl, rfl⟩
set_option maxHeartbeats 4000000 in
theorem applyM_177 (a b : Nat) (ha : a < 18446744073709551616) (hb : b < 18446744073709551616) (w : World) : Calls Tryz.prog 278 #[.int .i64 177, .int .u64 a, .int .u64 b] w (Pq w (fitV (numP 177 a b))) := by
  obtain ⟨o, ho⟩ : ∃ o : Nat, o = 177 := ⟨_, rfl⟩
  obtain ⟨r1, hs⟩ : ∃ r1, numSig o = (1, 124, r1) := ⟨_, by rw [ho]; rfl⟩
  have hsg := fun w => numSig_pq 177 (by decide) w
  rw [← ho, hs, ho] at hsg
  unfold enc3 at hsg
  dsimp only at hsg
  obtain ⟨CU, HCU⟩ : ∃ CU : Nat → Nat, CU = fun v => v := ⟨_, rfl⟩
  have hC : ∀ v : Nat, v < 18446744073709551616 → ∀ w, Calls Tryz.prog 46 #[.int .u8 124, .int .u64 v] w (Pq w (.int .u64 ((CU v : Nat) : Int))) := fun v hv w => by
    have h := cut_calls2 w 124 (by decide) (v : Int) (by omega)
    have e : cutB 124 (v : Int) = ((CU v : Nat) : Int) := by
      rw [HCU]
      unfold cutB
      rw [if_neg (by decide)]
      
    rw [e] at h
    exact h
  have hCl : ∀ v : Nat, v < 18446744073709551616 → CU v < 18446744073709551616 := fun v hv => by rw [HCU]; dsimp only; omega
  have hcA : cut32 o a = CU a := by unfold cut32; rw [hs, HCU]; rw [if_neg (by simp)]
  have hcB : cut32 o b = CU b := by unfold cut32; rw [hs, HCU]; rw [if_neg (by simp)]
  clear HCU
  rw [ho] at hcA
  unfold numP
  rw [hcA, if_neg (by decide), if_neg (by decide), if_neg (by decide), if_neg (by decide), if_neg (by decide), if_neg (by decide), if_neg (by decide), if_neg (by decide), if_neg (by decide), if_neg (by decide), if_neg (by decide), if_neg (by decide), if_neg (by decide)]
  have hk := fun w => convert_177 (CU a) (hCl a ha) w
  generalize convM 177 (CU a) = X at hk ⊢
  obtain ⟨x1, x2⟩ := X
  unfold fitV at hk ⊢
  dsimp only at hk ⊢
  clear hs hcA hcB hCl ho
  go_enter Tryz.func278, Tryz.ntmps278
  go_wp2_with (first | (go_at_call 208; refine (hsg _).mono ?_; rintro en w2 ⟨rfl, rfl⟩) | (go_at_call 46; refine (hC _ (by assumption) _).mono ?_; rintro en w2 ⟨rfl, rfl⟩) | (go_at_call 291; refine (hk _).mono ?_; rintro en w2 ⟨rfl, rfl⟩))
  refine bodyPost_ret (v := .tuple #[.int .u64 (x1 : Int), .int .i64 (x2 : Int)]) (by simp [results, Tryz.results278, go_sem]) rfl ?_
  exact ⟨rfl, rfl⟩
set_option maxHeartbeats 4000000 in
theorem applyM_178 (a b : Nat) (ha : a < 18446744073709551616) (hb : b < 18446744073709551616) (w : World) : Calls Tryz.prog 278 #[.int .i64 178, .int .u64 a, .int .u64 b] w (Pq w (fitV (numP 178 a b))) := by
  obtain ⟨o, ho⟩ : ∃ o : Nat, o = 178 := ⟨_, rfl⟩
  obtain ⟨r1, hs⟩ : ∃ r1, numSig o = (1, 127, r1) := ⟨_, by rw [ho]; rfl⟩
  have hsg := fun w => numSig_pq 178 (by decide) w
  rw [← ho, hs, ho] at hsg
  unfold enc3 at hsg
  dsimp only at hsg
  obtain ⟨CU, HCU⟩ : ∃ CU : Nat → Nat, CU = fun v => v % 4294967296 := ⟨_, rfl⟩
  have hC : ∀ v : Nat, v < 18446744073709551616 → ∀ w, Calls Tryz.prog 46 #[.int .u8 127, .int .u64 v] w (Pq w (.int .u64 ((CU v : Nat) : Int))) := fun v hv w => by
    have h := cut_calls2 w 127 (by decide) (v : Int) (by omega)
    have e : cutB 127 (v : Int) = ((CU v : Nat) : Int) := by
      rw [HCU]
      unfold cutB
      rw [if_pos (by decide)]
      dsimp only; omega
    rw [e] at h
    exact h
  have hCl : ∀ v : Nat, v < 18446744073709551616 → CU v < 4294967296 := fun v hv => by rw [HCU]; dsimp only; omega
  have hcA : cut32 o a = CU a := by unfold cut32; rw [hs, HCU]; rw [if_pos (by simp)]
  have hcB : cut32 o b = CU b := by unfold cut32; rw [hs, HCU]; rw [if_pos (by simp)]
  clear HCU
  rw [ho] at hcA
  unfold numP
  rw [hcA, if_neg (by decide), if_neg (by decide), if_neg (by decide), if_neg (by decide), if_neg (by decide), if_neg (by decide), if_neg (by decide), if_neg (by decide), if_neg (by decide), if_neg (by decide), if_neg (by decide), if_neg (by decide), if_neg (by decide)]
  have hk := fun w => convert_178 (CU a) (hCl a ha) w
  generalize convM 178 (CU a) = X at hk ⊢
  obtain ⟨x1, x2⟩ := X
  unfold fitV at hk ⊢
  dsimp only at hk ⊢
  clear hs hcA hcB hCl ho
  go_enter Tryz.func278, Tryz.ntmps278
  go_wp2_with (first | (go_at_call 208; refine (hsg _).mono ?_; rintro en w2 ⟨rfl, rfl⟩) | (go_at_call 46; refine (hC _ (by assumption) _).mono ?_; rintro en w2 ⟨rfl, rfl⟩) | (go_at_call 291; refine (hk _).mono ?_; rintro en w2 ⟨rfl, rfl⟩))
  refine bodyPost_ret (v := .tuple #[.int .u64 (x1 : Int), .int .i64 (x2 : Int)]) (by simp [results, Tryz.results278, go_sem]) rfl ?_
  exact ⟨rfl, rfl⟩
set_option maxHeartbeats 4000000 in
theorem applyM_179 (a b : Nat) (ha : a < 18446744073709551616) (hb : b < 18446744073709551616) (w : World) : Calls Tryz.prog 278 #[.int .i64 179, .int .u64 a, .int .u64 b] w (Pq w (fitV (numP 179 a b))) := by
  obtain ⟨o, ho⟩ : ∃ o : Nat, o = 179 := ⟨_, rfl⟩
  obtain ⟨r1, hs⟩ : ∃ r1, numSig o = (1, 127, r1) := ⟨_, by rw [ho]; rfl⟩
  have hsg := fun w => numSig_pq 179 (by decide) w
  rw [← ho, hs, ho] at hsg
  unfold enc3 at hsg
  dsimp only at hsg
  obtain ⟨CU, HCU⟩ : ∃ CU : Nat → Nat, CU = fun v => v % 4294967296 := ⟨_, rfl⟩
  have hC : ∀ v : Nat, v < 18446744073709551616 → ∀ w, Calls Tryz.prog 46 #[.int .u8 127, .int .u64 v] w (Pq w (.int .u64 ((CU v : Nat) : Int))) := fun v hv w => by
    have h := cut_calls2 w 127 (by decide) (v : Int) (by omega)
    have e : cutB 127 (v : Int) = ((CU v : Nat) : Int) := by
      rw [HCU]
      unfold cutB
      rw [if_pos (by decide)]
      dsimp only; omega
    rw [e] at h
    exact h
  have hCl : ∀ v : Nat, v < 18446744073709551616 → CU v < 4294967296 := fun v hv => by rw [HCU]; dsimp only; omega
  have hcA : cut32 o a = CU a := by unfold cut32; rw [hs, HCU]; rw [if_pos (by simp)]
  have hcB : cut32 o b = CU b := by unfold cut32; rw [hs, HCU]; rw [if_pos (by simp)]
  clear HCU
  rw [ho] at hcA
  unfold numP
  rw [hcA, if_neg (by decide), if_neg (by decide), if_neg (by decide), if_neg (by decide), if_neg (by decide), if_neg (by decide), if_neg (by decide), if_neg (by decide), if_neg (by decide), if_neg (by decide), if_neg (by decide), if_neg (by decide), if_neg (by decide)]
  have hk := fun w => convert_179 (CU a) (hCl a ha) w
  generalize convM 179 (CU a) = X at hk ⊢
  obtain ⟨x1, x2⟩ := X
  unfold fitV at hk ⊢
  dsimp only at hk ⊢
  clear hs hcA hcB hCl ho
  go_enter Tryz.func278, Tryz.ntmps278
  go_wp2_with (first | (go_at_call 208; refine (hsg _).mono ?_; rintro en w2 ⟨rfl, rfl⟩) | (go_at_call 46; refine (hC _ (by assumption) _).mono ?_; rintro en w2 ⟨rfl, rfl⟩) | (go_at_call 291; refine (hk _).mono ?_; rintro en w2 ⟨rfl, rfl⟩))
  refine bodyPost_ret (v := .tuple #[.int .u64 (x1 : Int), .int .i64 (x2 : Int)]) (by simp [results, Tryz.results278, go_sem]) rfl ?_
  exact ⟨rfl, rfl⟩
end Go.Proofs.Qxb6500275aGreatDoor
