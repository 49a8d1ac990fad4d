import Derived.Test.Qxb6500274aGreatWKs
set_option maxRecDepth 100000
namespace Go.Proofs.Qxb6500274aGreat
open Go Go.Sx
theorem wshow_1_1_4 (E : Env) (h : IsEnv E) : ShowOK E 1 1 4 := by
  unfold IsEnv at h; subst h; unfold ShowOK; kernel_rfl
theorem wshow_1_1_38 (E : Env) (h : IsEnv E) : ShowOK E 1 1 38 := by
  unfold IsEnv at h; subst h; unfold ShowOK; kernel_rfl
theorem wshow_1_2_0 (E : Env) (h : IsEnv E) : ShowOK E 1 2 0 := by
  unfold IsEnv at h; subst h; unfold ShowOK; kernel_rfl
theorem wshow_1_2_4 (E : Env) (h : IsEnv E) : ShowOK E 1 2 4 := by
  unfold IsEnv at h; subst h; unfold ShowOK; kernel_rfl
theorem wshow_1_2_38 (E : Env) (h : IsEnv E) : ShowOK E 1 2 38 := by
  unfold IsEnv at h; subst h; unfold ShowOK; kernel_rfl
theorem wshow_1_3_0 (E : Env) (h : IsEnv E) : ShowOK E 1 3 0 := by
  unfold IsEnv at h; subst h; unfold ShowOK; kernel_rfl
theorem wshow_1_3_4 (E : Env) (h : IsEnv E) : ShowOK E 1 3 4 := by
  unfold IsEnv at h; subst h; unfold ShowOK; kernel_rfl
theorem wshow_1_3_38 (E : Env) (h : IsEnv E) : ShowOK E 1 3 38 := by
  unfold IsEnv at h; subst h; unfold ShowOK; kernel_rfl
theorem wshow_1_4_0 (E : Env) (h : IsEnv E) : ShowOK E 1 4 0 := by
  unfold IsEnv at h; subst h; unfold ShowOK; kernel_rfl
theorem wshow_1_4_4 (E : Env) (h : IsEnv E) : ShowOK E 1 4 4 := by
  unfold IsEnv at h; subst h; unfold ShowOK; kernel_rfl
theorem wshow_1_4_38 (E : Env) (h : IsEnv E) : ShowOK E 1 4 38 := by
  unfold IsEnv at h; subst h; unfold ShowOK; kernel_rfl
theorem wshow_1_5_0 (E : Env) (h : IsEnv E) : ShowOK E 1 5 0 := by
  unfold IsEnv at h; subst h; unfold ShowOK; kernel_rfl
theorem wshow_1_5_4 (E : Env) (h : IsEnv E) : ShowOK E 1 5 4 := by
  unfold IsEnv at h; subst h; unfold ShowOK; kernel_rfl
theorem wshow_1_5_38 (E : Env) (h : IsEnv E) : ShowOK E 1 5 38 := by
  unfold IsEnv at h; subst h; unfold ShowOK; kernel_rfl
theorem wshow_2_0_0 (E : Env) (h : IsEnv E) : ShowOK E 2 0 0 := by
  unfold IsEnv at h; subst h; unfold ShowOK; kernel_rfl
theorem wshow_2_0_4 (E : Env) (h : IsEnv E) : ShowOK E 2 0 4 := by
  unfold IsEnv at h; subst h; unfold ShowOK; kernel_rfl
theorem wshow_2_0_38 (E : Env) (h : IsEnv E) : ShowOK E 2 0 38 := by
  unfold IsEnv at h; subst h; unfold ShowOK; kernel_rfl
theorem wshow_2_1_0 (E : Env) (h : IsEnv E) : ShowOK E 2 1 0 := by
  unfold IsEnv at h; subst h; unfold ShowOK; kernel_rfl
theorem wshow_2_1_4 (E : Env) (h : IsEnv E) : ShowOK E 2 1 4 := by
  unfold IsEnv at h; subst h; unfold ShowOK; kernel_rfl
theorem wshow_2_1_38 (E : Env) (h : IsEnv E) : ShowOK E 2 1 38 := by
  unfold IsEnv at h; subst h; unfold ShowOK; kernel_rfl
theorem wshow_2_2_0 (E : Env) (h : IsEnv E) : ShowOK E 2 2 0 := by
  unfold IsEnv at h; subst h; unfold ShowOK; kernel_rfl
theorem wshow_2_2_4 (E : Env) (h : IsEnv E) : ShowOK E 2 2 4 := by
  unfold IsEnv at h; subst h; unfold ShowOK; kernel_rfl
theorem wshow_2_2_38 (E : Env) (h : IsEnv E) : ShowOK E 2 2 38 := by
  unfold IsEnv at h; subst h; unfold ShowOK; kernel_rfl
theorem wshow_2_3_0 (E : Env) (h : IsEnv E) : ShowOK E 2 3 0 := by
  unfold IsEnv at h; subst h; unfold ShowOK; kernel_rfl
theorem wshow_2_3_4 (E : Env) (h : IsEnv E) : ShowOK E 2 3 4 := by
  unfold IsEnv at h; subst h; unfold ShowOK; kernel_rfl
end Go.Proofs.Qxb6500274aGreat
