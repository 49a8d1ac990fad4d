import Derived.Test.Qxb6500275aGreatDoorNqF
set_option maxRecDepth 100000
set_option linter.unusedVariables false
set_option linter.unusedSimpArgs false
namespace Go.Proofs.Qxb6500275aGreatDoor
open Go Go.RowKit
set_option maxHeartbeats 4000000 in
theorem applyM_69 (a b : Nat) (ha : a < 18446744073709551616) (hb : b < 18446744073709551616) (w : World) : Calls Tryz.prog 278 #[.int .i64 69, .int .u64 a, .int .u64 b] w (Pq w (fitV (numP 69 a b))) := by
  obtain ⟨o, ho⟩ : ∃ o : Nat, o = 69 := ⟨_, rfl⟩
  have hs : numSig o = (1, 127, 127) := by rw [ho]; rfl
  have hsg := fun w => numSig_pq 69 (by decide) w
  rw [← ho, hs, ho] at hsg
  unfold enc3 at hsg
  dsimp only at hsg
  obtain ⟨CU, HCU⟩ : ∃ CU : Nat → Nat, CU = fun v => v % 4294967296 := ⟨_, rfl⟩
  have hC : ∀ v : Nat, v < 18446744073709551616 → ∀ w, Calls Tryz.prog 46 #[.int .u8 127, .int .u64 v] w (Pq w (.int .u64 ((CU v : Nat) : Int))) := fun v hv w => by
    have h := cut_calls2 w 127 (by decide) (v : Int) (by omega)
    have e : cutB 127 (v : Int) = ((CU v : Nat) : Int) := by
      rw [HCU]
      unfold cutB
      rw [if_pos (by decide)]
      dsimp only; omega
    rw [e] at h
    exact h
  have hCl : ∀ v : Nat, v < 18446744073709551616 → CU v < 4294967296 := fun v hv => by rw [HCU]; dsimp only; omega
  have hcA : cut32 o a = CU a := by unfold cut32; rw [hs, HCU]; rw [if_pos (by simp)]
  have hcB : cut32 o b = CU b := by unfold cut32; rw [hs, HCU]; rw [if_pos (by simp)]
  clear HCU
  rw [ho] at hcA
  unfold numP
  rw [hcA, if_pos (by decide)]
  unfold fitV
  dsimp only
  have e : decide (CU a = 0) = (((CU a : Nat) : Int) == 0) := by
    by_cases hc : CU a = 0
    · rw [hc]; rfl
    · rw [decide_eq_false hc]; symm; rw [beq_eq_false_iff_ne]; omega
  rw [e]
  clear hs hcA hcB hCl e ho
  go_enter Tryz.func278, Tryz.ntmps278
  go_wp2_with (first | (go_at_call 208; refine (hsg _).mono ?_; rintro en w2 ⟨rfl, rfl⟩) | (go_at_call 46; refine (hC _ (by assumption) _).mono ?_; rintro en w2 ⟨rfl, rfl⟩) | (go_at_call 284; refine (flag_n _ _).mono ?_; rintro en w2 ⟨rfl, rfl⟩))
  refine bodyPost_ret (v := .tuple #[.int .u64 ((flagN (((CU a : Nat) : Int) == 0) : Nat) : Int), .int .i64 0]) (by simp [results, Tryz.results278, go_sem]) rfl ?_
  exact ⟨rfl, rfl⟩
set_option maxHeartbeats 4000000 in
theorem applyM_80 (a b : Nat) (ha : a < 18446744073709551616) (hb : b < 18446744073709551616) (w : World) : Calls Tryz.prog 278 #[.int .i64 80, .int .u64 a, .int .u64 b] w (Pq w (fitV (numP 80 a b))) := by
  obtain ⟨o, ho⟩ : ∃ o : Nat, o = 80 := ⟨_, rfl⟩
  have hs : numSig o = (1, 126, 127) := by rw [ho]; rfl
  have hsg := fun w => numSig_pq 80 (by decide) w
  rw [← ho, hs, ho] at hsg
  unfold enc3 at hsg
  dsimp only at hsg
  obtain ⟨CU, HCU⟩ : ∃ CU : Nat → Nat, CU = fun v => v := ⟨_, rfl⟩
  have hC : ∀ v : Nat, v < 18446744073709551616 → ∀ w, Calls Tryz.prog 46 #[.int .u8 126, .int .u64 v] w (Pq w (.int .u64 ((CU v : Nat) : Int))) := fun v hv w => by
    have h := cut_calls2 w 126 (by decide) (v : Int) (by omega)
    have e : cutB 126 (v : Int) = ((CU v : Nat) : Int) := by
      rw [HCU]
      unfold cutB
      rw [if_neg (by decide)]
      
    rw [e] at h
    exact h
  have hCl : ∀ v : Nat, v < 18446744073709551616 → CU v < 18446744073709551616 := fun v hv => by rw [HCU]; dsimp only; omega
  have hcA : cut32 o a = CU a := by unfold cut32; rw [hs, HCU]; rw [if_neg (by simp)]
  have hcB : cut32 o b = CU b := by unfold cut32; rw [hs, HCU]; rw [if_neg (by simp)]
  clear HCU
  rw [ho] at hcA
  unfold numP
  rw [hcA, if_pos (by decide)]
  unfold fitV
  dsimp only
  have e : decide (CU a = 0) = (((CU a : Nat) : Int) == 0) := by
    by_cases hc : CU a = 0
    · rw [hc]; rfl
    · rw [decide_eq_false hc]; symm; rw [beq_eq_false_iff_ne]; omega
  rw [e]
  clear hs hcA hcB hCl e ho
  go_enter Tryz.func278, Tryz.ntmps278
  go_wp2_with (first | (go_at_call 208; refine (hsg _).mono ?_; rintro en w2 ⟨rfl, rfl⟩) | (go_at_call 46; refine (hC _ (by assumption) _).mono ?_; rintro en w2 ⟨rfl, rfl⟩) | (go_at_call 284; refine (flag_n _ _).mono ?_; rintro en w2 ⟨rfl, rfl⟩))
  refine bodyPost_ret (v := .tuple #[.int .u64 ((flagN (((CU a : Nat) : Int) == 0) : Nat) : Int), .int .i64 0]) (by simp [results, Tryz.results278, go_sem]) rfl ?_
  exact ⟨rfl, rfl⟩
end Go.Proofs.Qxb6500275aGreatDoor
