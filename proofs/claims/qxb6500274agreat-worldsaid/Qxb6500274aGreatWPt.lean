import Derived.Test.Qxb6500274aGreatWPs
import Derived.Test.Qxb6500274aGreatWEnvPr
import Derived.Recover
set_option linter.unusedVariables false
set_option linter.unusedSimpArgs false
set_option maxRecDepth 20000
namespace Go.Proofs.Qxb6500274aGreat
open Go Go.RowKit Go.Sx
section
variable {n0 : Base} {w0 : World}
set_option maxHeartbeats 1000000 in
theorem const_out (n : Int) (h : n < 65 ∨ 68 < n) (w : World) : Calls Tryz.prog 99 #[.int .u8 n] w fun e w' => e = .returned (.int .u8 0) ∧ w' = w := by
  rcases h with h | h
  · go_enter Tryz.func99, Tryz.ntmps99
    go_wp2
    go_ret
    exact ⟨rfl, rfl⟩
  · have h' : ¬ n < 65 := by omega
    go_enter Tryz.func99, Tryz.ntmps99
    go_wp2
    go_ret
    exact ⟨rfl, rfl⟩
set_option maxHeartbeats 1000000 in
theorem const_in (n : Int) (h : 65 ≤ n ∧ n ≤ 68) (w : World) : Calls Tryz.prog 99 #[.int .u8 n] w fun e w' => e = .returned (.int .u8 (IntKind.u8.wrap (127 - IntKind.u8.wrap (n - 65)))) ∧ w' = w := by
  have : n = 65 ∨ n = 66 ∨ n = 67 ∨ n = 68 := by omega
  rcases this with rfl | rfl | rfl | rfl
  all_goals
    go_enter Tryz.func99, Tryz.ntmps99
    go_wp2
    go_ret
    exact ⟨rfl, rfl⟩
theorem const_run {args cargs : List Value} {s : St} {L : List (Value × St)} {K : Kx} (w : World) (h : primConst args s = some L) (ha : All2 (RV K) args cargs) : ∃ v, L = [(v, s)] ∧ Calls Tryz.prog 99 cargs.toArray w (fun e w' => ∃ c, e = .returned c ∧ RV K v c ∧ w' = w) := by
  unfold primConst at h
  split at h
  · rename_i s n
    match cargs, ha with
    | [c], ⟨h1, _⟩ =>
      rw [RV_int] at h1
      subst h1
      split at h
      · rename_i hb
        simp at hb
        refine ⟨_, one_eq h, (const_out n hb w).mono ?_⟩
        rintro e w' ⟨rfl, rfl⟩
        exact ⟨_, rfl, by rw [RV_int], rfl⟩
      · rename_i hb
        simp at hb
        refine ⟨_, one_eq h, (const_in n hb w).mono ?_⟩
        rintro e w' ⟨rfl, rfl⟩
        exact ⟨_, rfl, by rw [RV_int], rfl⟩
  · simp at h
theorem primConst_shape {args : List Value} {s : St} {L : List (Value × St)} (h : primConst args s = some L) : ∃ v, L = [(v, s)] ∧ ∃ n, args = [.int .u8 n] := by
  unfold primConst at h
  split at h
  · rename_i s n
    split at h
    · exact ⟨_, one_eq h, n, rfl⟩
    · exact ⟨_, one_eq h, n, rfl⟩
  · simp at h
theorem const_sound : CallSound Tryz.prog n0 w0 (fun h args s => if h = 99 then primConst args s else none) := by
  refine prim_sound Tryz.func99 (of_decide_eq_true (by kernel_rfl)) (by kernel_rfl) ?_
  intro args s L h K w cargs hR ha
  obtain ⟨v, rfl, hc⟩ := const_run w h ha
  refine hc.mono ?_
  rintro e w' ⟨c, rfl, hv, rfl⟩
  exact ⟨c, rfl, v, s, K, List.mem_singleton.2 rfl, Kx.le_refl K, hv, hR⟩
theorem const_quiet {E : Env} : QuietSound Tryz.prog E (fun h args s => if h = 99 then primConst args s else none) := by
  intro g args s L hq h
  dsimp only at h
  split at h
  · rename_i e
    subst e
    obtain ⟨v, rfl, _⟩ := primConst_shape h
    obtain ⟨c, hb⟩ := Option.isSome_iff_exists.1 (show Tryz.f99.body.isSome = true by kernel_rfl)
    refine ⟨v, rfl, callFunc_run Tryz.func99 (of_decide_eq_true (by kernel_rfl)) hb, fun K w cargs ha => ?_⟩
    obtain ⟨v', e, hc⟩ := const_run w h ha
    simp at e
    subst e
    exact hc
  · simp at h

end
end Go.Proofs.Qxb6500274aGreat
