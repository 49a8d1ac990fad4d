import Derived.Test.Qxb6500274aGreatWKs
set_option maxRecDepth 100000
namespace Go.Proofs.Qxb6500274aGreat
open Go Go.Sx
theorem wshow_0_0_0 (E : Env) (h : IsEnv E) : ShowOK E 0 0 0 := by
  unfold IsEnv at h; subst h; unfold ShowOK; kernel_rfl
theorem wshow_0_0_4 (E : Env) (h : IsEnv E) : ShowOK E 0 0 4 := by
  unfold IsEnv at h; subst h; unfold ShowOK; kernel_rfl
theorem wshow_0_0_38 (E : Env) (h : IsEnv E) : ShowOK E 0 0 38 := by
  unfold IsEnv at h; subst h; unfold ShowOK; kernel_rfl
theorem wshow_0_1_0 (E : Env) (h : IsEnv E) : ShowOK E 0 1 0 := by
  unfold IsEnv at h; subst h; unfold ShowOK; kernel_rfl
theorem wshow_0_1_4 (E : Env) (h : IsEnv E) : ShowOK E 0 1 4 := by
  unfold IsEnv at h; subst h; unfold ShowOK; kernel_rfl
theorem wshow_0_1_38 (E : Env) (h : IsEnv E) : ShowOK E 0 1 38 := by
  unfold IsEnv at h; subst h; unfold ShowOK; kernel_rfl
theorem wshow_0_2_0 (E : Env) (h : IsEnv E) : ShowOK E 0 2 0 := by
  unfold IsEnv at h; subst h; unfold ShowOK; kernel_rfl
theorem wshow_0_2_4 (E : Env) (h : IsEnv E) : ShowOK E 0 2 4 := by
  unfold IsEnv at h; subst h; unfold ShowOK; kernel_rfl
theorem wshow_0_2_38 (E : Env) (h : IsEnv E) : ShowOK E 0 2 38 := by
  unfold IsEnv at h; subst h; unfold ShowOK; kernel_rfl
theorem wshow_0_3_0 (E : Env) (h : IsEnv E) : ShowOK E 0 3 0 := by
  unfold IsEnv at h; subst h; unfold ShowOK; kernel_rfl
theorem wshow_0_3_4 (E : Env) (h : IsEnv E) : ShowOK E 0 3 4 := by
  unfold IsEnv at h; subst h; unfold ShowOK; kernel_rfl
theorem wshow_0_3_38 (E : Env) (h : IsEnv E) : ShowOK E 0 3 38 := by
  unfold IsEnv at h; subst h; unfold ShowOK; kernel_rfl
theorem wshow_0_4_0 (E : Env) (h : IsEnv E) : ShowOK E 0 4 0 := by
  unfold IsEnv at h; subst h; unfold ShowOK; kernel_rfl
theorem wshow_0_4_4 (E : Env) (h : IsEnv E) : ShowOK E 0 4 4 := by
  unfold IsEnv at h; subst h; unfold ShowOK; kernel_rfl
theorem wshow_0_4_38 (E : Env) (h : IsEnv E) : ShowOK E 0 4 38 := by
  unfold IsEnv at h; subst h; unfold ShowOK; kernel_rfl
theorem wshow_0_5_0 (E : Env) (h : IsEnv E) : ShowOK E 0 5 0 := by
  unfold IsEnv at h; subst h; unfold ShowOK; kernel_rfl
theorem wshow_0_5_4 (E : Env) (h : IsEnv E) : ShowOK E 0 5 4 := by
  unfold IsEnv at h; subst h; unfold ShowOK; kernel_rfl
theorem wshow_0_5_38 (E : Env) (h : IsEnv E) : ShowOK E 0 5 38 := by
  unfold IsEnv at h; subst h; unfold ShowOK; kernel_rfl
theorem wshow_0_6_0 (E : Env) (h : IsEnv E) : ShowOK E 0 6 0 := by
  unfold IsEnv at h; subst h; unfold ShowOK; kernel_rfl
theorem wshow_0_6_4 (E : Env) (h : IsEnv E) : ShowOK E 0 6 4 := by
  unfold IsEnv at h; subst h; unfold ShowOK; kernel_rfl
theorem wshow_0_6_38 (E : Env) (h : IsEnv E) : ShowOK E 0 6 38 := by
  unfold IsEnv at h; subst h; unfold ShowOK; kernel_rfl
theorem wshow_1_0_0 (E : Env) (h : IsEnv E) : ShowOK E 1 0 0 := by
  unfold IsEnv at h; subst h; unfold ShowOK; kernel_rfl
theorem wshow_1_0_4 (E : Env) (h : IsEnv E) : ShowOK E 1 0 4 := by
  unfold IsEnv at h; subst h; unfold ShowOK; kernel_rfl
theorem wshow_1_0_38 (E : Env) (h : IsEnv E) : ShowOK E 1 0 38 := by
  unfold IsEnv at h; subst h; unfold ShowOK; kernel_rfl
theorem wshow_1_1_0 (E : Env) (h : IsEnv E) : ShowOK E 1 1 0 := by
  unfold IsEnv at h; subst h; unfold ShowOK; kernel_rfl
end Go.Proofs.Qxb6500274aGreat
