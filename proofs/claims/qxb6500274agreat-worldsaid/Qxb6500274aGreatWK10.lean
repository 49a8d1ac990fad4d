import Derived.Test.Qxb6500274aGreatWKs
set_option maxRecDepth 100000
namespace Go.Proofs.Qxb6500274aGreat
open Go Go.Sx
theorem wstill_5_1_38 (E : Env) (h : IsEnv E) : StillOK E 5 1 38 := by
  unfold IsEnv at h; subst h; unfold StillOK; kernel_rfl
theorem wstill_6_0_0 (E : Env) (h : IsEnv E) : StillOK E 6 0 0 := by
  unfold IsEnv at h; subst h; unfold StillOK; kernel_rfl
theorem wstill_6_0_4 (E : Env) (h : IsEnv E) : StillOK E 6 0 4 := by
  unfold IsEnv at h; subst h; unfold StillOK; kernel_rfl
theorem wstill_6_0_38 (E : Env) (h : IsEnv E) : StillOK E 6 0 38 := by
  unfold IsEnv at h; subst h; unfold StillOK; kernel_rfl
theorem wmove_0_0 (E : Env) (h : IsEnv E) : MoveOK E 0 0 := by
  unfold IsEnv at h; subst h; unfold MoveOK; kernel_rfl
theorem wmove_0_1 (E : Env) (h : IsEnv E) : MoveOK E 0 1 := by
  unfold IsEnv at h; subst h; unfold MoveOK; kernel_rfl
theorem wmove_0_2 (E : Env) (h : IsEnv E) : MoveOK E 0 2 := by
  unfold IsEnv at h; subst h; unfold MoveOK; kernel_rfl
theorem wmove_0_3 (E : Env) (h : IsEnv E) : MoveOK E 0 3 := by
  unfold IsEnv at h; subst h; unfold MoveOK; kernel_rfl
theorem wmove_0_4 (E : Env) (h : IsEnv E) : MoveOK E 0 4 := by
  unfold IsEnv at h; subst h; unfold MoveOK; kernel_rfl
end Go.Proofs.Qxb6500274aGreat
