import Derived.Test.Qxb6500274aGreatWKs
set_option maxRecDepth 100000
namespace Go.Proofs.Qxb6500274aGreat
open Go Go.Sx
theorem wstill_4_0_38 (E : Env) (h : IsEnv E) : StillOK E 4 0 38 := by
  unfold IsEnv at h; subst h; unfold StillOK; kernel_rfl
theorem wstill_4_1_0 (E : Env) (h : IsEnv E) : StillOK E 4 1 0 := by
  unfold IsEnv at h; subst h; unfold StillOK; kernel_rfl
theorem wstill_4_1_4 (E : Env) (h : IsEnv E) : StillOK E 4 1 4 := by
  unfold IsEnv at h; subst h; unfold StillOK; kernel_rfl
theorem wstill_4_1_38 (E : Env) (h : IsEnv E) : StillOK E 4 1 38 := by
  unfold IsEnv at h; subst h; unfold StillOK; kernel_rfl
theorem wstill_4_2_0 (E : Env) (h : IsEnv E) : StillOK E 4 2 0 := by
  unfold IsEnv at h; subst h; unfold StillOK; kernel_rfl
theorem wstill_4_2_4 (E : Env) (h : IsEnv E) : StillOK E 4 2 4 := by
  unfold IsEnv at h; subst h; unfold StillOK; kernel_rfl
theorem wstill_4_2_38 (E : Env) (h : IsEnv E) : StillOK E 4 2 38 := by
  unfold IsEnv at h; subst h; unfold StillOK; kernel_rfl
theorem wstill_5_0_0 (E : Env) (h : IsEnv E) : StillOK E 5 0 0 := by
  unfold IsEnv at h; subst h; unfold StillOK; kernel_rfl
theorem wstill_5_0_4 (E : Env) (h : IsEnv E) : StillOK E 5 0 4 := by
  unfold IsEnv at h; subst h; unfold StillOK; kernel_rfl
theorem wstill_5_0_38 (E : Env) (h : IsEnv E) : StillOK E 5 0 38 := by
  unfold IsEnv at h; subst h; unfold StillOK; kernel_rfl
theorem wstill_5_1_0 (E : Env) (h : IsEnv E) : StillOK E 5 1 0 := by
  unfold IsEnv at h; subst h; unfold StillOK; kernel_rfl
theorem wstill_5_1_4 (E : Env) (h : IsEnv E) : StillOK E 5 1 4 := by
  unfold IsEnv at h; subst h; unfold StillOK; kernel_rfl
end Go.Proofs.Qxb6500274aGreat
