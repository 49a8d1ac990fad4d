import Derived.Test.Qxb6500274aGreatWKs
set_option maxRecDepth 100000
namespace Go.Proofs.Qxb6500274aGreat
open Go Go.Sx
theorem wstill_1_3_38 (E : Env) (h : IsEnv E) : StillOK E 1 3 38 := by
  unfold IsEnv at h; subst h; unfold StillOK; kernel_rfl
theorem wstill_1_4_0 (E : Env) (h : IsEnv E) : StillOK E 1 4 0 := by
  unfold IsEnv at h; subst h; unfold StillOK; kernel_rfl
theorem wstill_1_4_4 (E : Env) (h : IsEnv E) : StillOK E 1 4 4 := by
  unfold IsEnv at h; subst h; unfold StillOK; kernel_rfl
theorem wstill_1_4_38 (E : Env) (h : IsEnv E) : StillOK E 1 4 38 := by
  unfold IsEnv at h; subst h; unfold StillOK; kernel_rfl
theorem wstill_1_5_0 (E : Env) (h : IsEnv E) : StillOK E 1 5 0 := by
  unfold IsEnv at h; subst h; unfold StillOK; kernel_rfl
theorem wstill_1_5_4 (E : Env) (h : IsEnv E) : StillOK E 1 5 4 := by
  unfold IsEnv at h; subst h; unfold StillOK; kernel_rfl
theorem wstill_1_5_38 (E : Env) (h : IsEnv E) : StillOK E 1 5 38 := by
  unfold IsEnv at h; subst h; unfold StillOK; kernel_rfl
theorem wstill_2_0_0 (E : Env) (h : IsEnv E) : StillOK E 2 0 0 := by
  unfold IsEnv at h; subst h; unfold StillOK; kernel_rfl
theorem wstill_2_0_4 (E : Env) (h : IsEnv E) : StillOK E 2 0 4 := by
  unfold IsEnv at h; subst h; unfold StillOK; kernel_rfl
theorem wstill_2_0_38 (E : Env) (h : IsEnv E) : StillOK E 2 0 38 := by
  unfold IsEnv at h; subst h; unfold StillOK; kernel_rfl
theorem wstill_2_1_0 (E : Env) (h : IsEnv E) : StillOK E 2 1 0 := by
  unfold IsEnv at h; subst h; unfold StillOK; kernel_rfl
theorem wstill_2_1_4 (E : Env) (h : IsEnv E) : StillOK E 2 1 4 := by
  unfold IsEnv at h; subst h; unfold StillOK; kernel_rfl
end Go.Proofs.Qxb6500274aGreat
