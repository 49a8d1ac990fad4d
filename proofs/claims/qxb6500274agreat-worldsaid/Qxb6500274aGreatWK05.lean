import Derived.Test.Qxb6500274aGreatWKs
set_option maxRecDepth 100000
namespace Go.Proofs.Qxb6500274aGreat
open Go Go.Sx
theorem wstill_0_6_38 (E : Env) (h : IsEnv E) : StillOK E 0 6 38 := by
  unfold IsEnv at h; subst h; unfold StillOK; kernel_rfl
theorem wstill_1_0_0 (E : Env) (h : IsEnv E) : StillOK E 1 0 0 := by
  unfold IsEnv at h; subst h; unfold StillOK; kernel_rfl
theorem wstill_1_0_4 (E : Env) (h : IsEnv E) : StillOK E 1 0 4 := by
  unfold IsEnv at h; subst h; unfold StillOK; kernel_rfl
theorem wstill_1_0_38 (E : Env) (h : IsEnv E) : StillOK E 1 0 38 := by
  unfold IsEnv at h; subst h; unfold StillOK; kernel_rfl
theorem wstill_1_1_0 (E : Env) (h : IsEnv E) : StillOK E 1 1 0 := by
  unfold IsEnv at h; subst h; unfold StillOK; kernel_rfl
theorem wstill_1_1_4 (E : Env) (h : IsEnv E) : StillOK E 1 1 4 := by
  unfold IsEnv at h; subst h; unfold StillOK; kernel_rfl
theorem wstill_1_1_38 (E : Env) (h : IsEnv E) : StillOK E 1 1 38 := by
  unfold IsEnv at h; subst h; unfold StillOK; kernel_rfl
theorem wstill_1_2_0 (E : Env) (h : IsEnv E) : StillOK E 1 2 0 := by
  unfold IsEnv at h; subst h; unfold StillOK; kernel_rfl
theorem wstill_1_2_4 (E : Env) (h : IsEnv E) : StillOK E 1 2 4 := by
  unfold IsEnv at h; subst h; unfold StillOK; kernel_rfl
theorem wstill_1_2_38 (E : Env) (h : IsEnv E) : StillOK E 1 2 38 := by
  unfold IsEnv at h; subst h; unfold StillOK; kernel_rfl
theorem wstill_1_3_0 (E : Env) (h : IsEnv E) : StillOK E 1 3 0 := by
  unfold IsEnv at h; subst h; unfold StillOK; kernel_rfl
theorem wstill_1_3_4 (E : Env) (h : IsEnv E) : StillOK E 1 3 4 := by
  unfold IsEnv at h; subst h; unfold StillOK; kernel_rfl
end Go.Proofs.Qxb6500274aGreat
