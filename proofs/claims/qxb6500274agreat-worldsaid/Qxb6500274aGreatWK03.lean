import Derived.Test.Qxb6500274aGreatWKs
set_option maxRecDepth 100000
namespace Go.Proofs.Qxb6500274aGreat
open Go Go.Sx
theorem wshow_5_0_0 (E : Env) (h : IsEnv E) : ShowOK E 5 0 0 := by
  unfold IsEnv at h; subst h; unfold ShowOK; kernel_rfl
theorem wshow_5_0_4 (E : Env) (h : IsEnv E) : ShowOK E 5 0 4 := by
  unfold IsEnv at h; subst h; unfold ShowOK; kernel_rfl
theorem wshow_5_0_38 (E : Env) (h : IsEnv E) : ShowOK E 5 0 38 := by
  unfold IsEnv at h; subst h; unfold ShowOK; kernel_rfl
theorem wshow_5_1_0 (E : Env) (h : IsEnv E) : ShowOK E 5 1 0 := by
  unfold IsEnv at h; subst h; unfold ShowOK; kernel_rfl
theorem wshow_5_1_4 (E : Env) (h : IsEnv E) : ShowOK E 5 1 4 := by
  unfold IsEnv at h; subst h; unfold ShowOK; kernel_rfl
theorem wshow_5_1_38 (E : Env) (h : IsEnv E) : ShowOK E 5 1 38 := by
  unfold IsEnv at h; subst h; unfold ShowOK; kernel_rfl
theorem wshow_6_0_0 (E : Env) (h : IsEnv E) : ShowOK E 6 0 0 := by
  unfold IsEnv at h; subst h; unfold ShowOK; kernel_rfl
theorem wshow_6_0_4 (E : Env) (h : IsEnv E) : ShowOK E 6 0 4 := by
  unfold IsEnv at h; subst h; unfold ShowOK; kernel_rfl
theorem wshow_6_0_38 (E : Env) (h : IsEnv E) : ShowOK E 6 0 38 := by
  unfold IsEnv at h; subst h; unfold ShowOK; kernel_rfl
theorem wstill_0_0_0 (E : Env) (h : IsEnv E) : StillOK E 0 0 0 := by
  unfold IsEnv at h; subst h; unfold StillOK; kernel_rfl
theorem wstill_0_0_4 (E : Env) (h : IsEnv E) : StillOK E 0 0 4 := by
  unfold IsEnv at h; subst h; unfold StillOK; kernel_rfl
theorem wstill_0_0_38 (E : Env) (h : IsEnv E) : StillOK E 0 0 38 := by
  unfold IsEnv at h; subst h; unfold StillOK; kernel_rfl
theorem wstill_0_1_0 (E : Env) (h : IsEnv E) : StillOK E 0 1 0 := by
  unfold IsEnv at h; subst h; unfold StillOK; kernel_rfl
theorem wstill_0_1_4 (E : Env) (h : IsEnv E) : StillOK E 0 1 4 := by
  unfold IsEnv at h; subst h; unfold StillOK; kernel_rfl
theorem wstill_0_1_38 (E : Env) (h : IsEnv E) : StillOK E 0 1 38 := by
  unfold IsEnv at h; subst h; unfold StillOK; kernel_rfl
theorem wstill_0_2_0 (E : Env) (h : IsEnv E) : StillOK E 0 2 0 := by
  unfold IsEnv at h; subst h; unfold StillOK; kernel_rfl
theorem wstill_0_2_4 (E : Env) (h : IsEnv E) : StillOK E 0 2 4 := by
  unfold IsEnv at h; subst h; unfold StillOK; kernel_rfl
end Go.Proofs.Qxb6500274aGreat
