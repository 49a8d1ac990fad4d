import Derived.Test.Qxb6500274aGreatWKs
set_option maxRecDepth 100000
namespace Go.Proofs.Qxb6500274aGreat
open Go Go.Sx
theorem wstill_2_1_38 (E : Env) (h : IsEnv E) : StillOK E 2 1 38 := by
  unfold IsEnv at h; subst h; unfold StillOK; kernel_rfl
theorem wstill_2_2_0 (E : Env) (h : IsEnv E) : StillOK E 2 2 0 := by
  unfold IsEnv at h; subst h; unfold StillOK; kernel_rfl
theorem wstill_2_2_4 (E : Env) (h : IsEnv E) : StillOK E 2 2 4 := by
  unfold IsEnv at h; subst h; unfold StillOK; kernel_rfl
theorem wstill_2_2_38 (E : Env) (h : IsEnv E) : StillOK E 2 2 38 := by
  unfold IsEnv at h; subst h; unfold StillOK; kernel_rfl
theorem wstill_2_3_0 (E : Env) (h : IsEnv E) : StillOK E 2 3 0 := by
  unfold IsEnv at h; subst h; unfold StillOK; kernel_rfl
theorem wstill_2_3_4 (E : Env) (h : IsEnv E) : StillOK E 2 3 4 := by
  unfold IsEnv at h; subst h; unfold StillOK; kernel_rfl
theorem wstill_2_3_38 (E : Env) (h : IsEnv E) : StillOK E 2 3 38 := by
  unfold IsEnv at h; subst h; unfold StillOK; kernel_rfl
theorem wstill_2_4_0 (E : Env) (h : IsEnv E) : StillOK E 2 4 0 := by
  unfold IsEnv at h; subst h; unfold StillOK; kernel_rfl
theorem wstill_2_4_4 (E : Env) (h : IsEnv E) : StillOK E 2 4 4 := by
  unfold IsEnv at h; subst h; unfold StillOK; kernel_rfl
theorem wstill_2_4_38 (E : Env) (h : IsEnv E) : StillOK E 2 4 38 := by
  unfold IsEnv at h; subst h; unfold StillOK; kernel_rfl
theorem wstill_3_0_0 (E : Env) (h : IsEnv E) : StillOK E 3 0 0 := by
  unfold IsEnv at h; subst h; unfold StillOK; kernel_rfl
theorem wstill_3_0_4 (E : Env) (h : IsEnv E) : StillOK E 3 0 4 := by
  unfold IsEnv at h; subst h; unfold StillOK; kernel_rfl
end Go.Proofs.Qxb6500274aGreat
