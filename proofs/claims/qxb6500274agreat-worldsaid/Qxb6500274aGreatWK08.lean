import Derived.Test.Qxb6500274aGreatWKs
set_option maxRecDepth 100000
namespace Go.Proofs.Qxb6500274aGreat
open Go Go.Sx
theorem wstill_3_0_38 (E : Env) (h : IsEnv E) : StillOK E 3 0 38 := by
  unfold IsEnv at h; subst h; unfold StillOK; kernel_rfl
theorem wstill_3_1_0 (E : Env) (h : IsEnv E) : StillOK E 3 1 0 := by
  unfold IsEnv at h; subst h; unfold StillOK; kernel_rfl
theorem wstill_3_1_4 (E : Env) (h : IsEnv E) : StillOK E 3 1 4 := by
  unfold IsEnv at h; subst h; unfold StillOK; kernel_rfl
theorem wstill_3_1_38 (E : Env) (h : IsEnv E) : StillOK E 3 1 38 := by
  unfold IsEnv at h; subst h; unfold StillOK; kernel_rfl
theorem wstill_3_2_0 (E : Env) (h : IsEnv E) : StillOK E 3 2 0 := by
  unfold IsEnv at h; subst h; unfold StillOK; kernel_rfl
theorem wstill_3_2_4 (E : Env) (h : IsEnv E) : StillOK E 3 2 4 := by
  unfold IsEnv at h; subst h; unfold StillOK; kernel_rfl
theorem wstill_3_2_38 (E : Env) (h : IsEnv E) : StillOK E 3 2 38 := by
  unfold IsEnv at h; subst h; unfold StillOK; kernel_rfl
theorem wstill_3_3_0 (E : Env) (h : IsEnv E) : StillOK E 3 3 0 := by
  unfold IsEnv at h; subst h; unfold StillOK; kernel_rfl
theorem wstill_3_3_4 (E : Env) (h : IsEnv E) : StillOK E 3 3 4 := by
  unfold IsEnv at h; subst h; unfold StillOK; kernel_rfl
theorem wstill_3_3_38 (E : Env) (h : IsEnv E) : StillOK E 3 3 38 := by
  unfold IsEnv at h; subst h; unfold StillOK; kernel_rfl
theorem wstill_4_0_0 (E : Env) (h : IsEnv E) : StillOK E 4 0 0 := by
  unfold IsEnv at h; subst h; unfold StillOK; kernel_rfl
theorem wstill_4_0_4 (E : Env) (h : IsEnv E) : StillOK E 4 0 4 := by
  unfold IsEnv at h; subst h; unfold StillOK; kernel_rfl
end Go.Proofs.Qxb6500274aGreat
