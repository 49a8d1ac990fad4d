import Derived.Test.Qxb6500274aGreatWKs
set_option maxRecDepth 100000
namespace Go.Proofs.Qxb6500274aGreat
open Go Go.Sx
theorem wshow_2_3_38 (E : Env) (h : IsEnv E) : ShowOK E 2 3 38 := by
  unfold IsEnv at h; subst h; unfold ShowOK; kernel_rfl
theorem wshow_2_4_0 (E : Env) (h : IsEnv E) : ShowOK E 2 4 0 := by
  unfold IsEnv at h; subst h; unfold ShowOK; kernel_rfl
theorem wshow_2_4_4 (E : Env) (h : IsEnv E) : ShowOK E 2 4 4 := by
  unfold IsEnv at h; subst h; unfold ShowOK; kernel_rfl
theorem wshow_2_4_38 (E : Env) (h : IsEnv E) : ShowOK E 2 4 38 := by
  unfold IsEnv at h; subst h; unfold ShowOK; kernel_rfl
theorem wshow_3_0_0 (E : Env) (h : IsEnv E) : ShowOK E 3 0 0 := by
  unfold IsEnv at h; subst h; unfold ShowOK; kernel_rfl
theorem wshow_3_0_4 (E : Env) (h : IsEnv E) : ShowOK E 3 0 4 := by
  unfold IsEnv at h; subst h; unfold ShowOK; kernel_rfl
theorem wshow_3_0_38 (E : Env) (h : IsEnv E) : ShowOK E 3 0 38 := by
  unfold IsEnv at h; subst h; unfold ShowOK; kernel_rfl
theorem wshow_3_1_0 (E : Env) (h : IsEnv E) : ShowOK E 3 1 0 := by
  unfold IsEnv at h; subst h; unfold ShowOK; kernel_rfl
theorem wshow_3_1_4 (E : Env) (h : IsEnv E) : ShowOK E 3 1 4 := by
  unfold IsEnv at h; subst h; unfold ShowOK; kernel_rfl
theorem wshow_3_1_38 (E : Env) (h : IsEnv E) : ShowOK E 3 1 38 := by
  unfold IsEnv at h; subst h; unfold ShowOK; kernel_rfl
theorem wshow_3_2_0 (E : Env) (h : IsEnv E) : ShowOK E 3 2 0 := by
  unfold IsEnv at h; subst h; unfold ShowOK; kernel_rfl
theorem wshow_3_2_4 (E : Env) (h : IsEnv E) : ShowOK E 3 2 4 := by
  unfold IsEnv at h; subst h; unfold ShowOK; kernel_rfl
theorem wshow_3_2_38 (E : Env) (h : IsEnv E) : ShowOK E 3 2 38 := by
  unfold IsEnv at h; subst h; unfold ShowOK; kernel_rfl
theorem wshow_3_3_0 (E : Env) (h : IsEnv E) : ShowOK E 3 3 0 := by
  unfold IsEnv at h; subst h; unfold ShowOK; kernel_rfl
theorem wshow_3_3_4 (E : Env) (h : IsEnv E) : ShowOK E 3 3 4 := by
  unfold IsEnv at h; subst h; unfold ShowOK; kernel_rfl
theorem wshow_3_3_38 (E : Env) (h : IsEnv E) : ShowOK E 3 3 38 := by
  unfold IsEnv at h; subst h; unfold ShowOK; kernel_rfl
theorem wshow_4_0_0 (E : Env) (h : IsEnv E) : ShowOK E 4 0 0 := by
  unfold IsEnv at h; subst h; unfold ShowOK; kernel_rfl
theorem wshow_4_0_4 (E : Env) (h : IsEnv E) : ShowOK E 4 0 4 := by
  unfold IsEnv at h; subst h; unfold ShowOK; kernel_rfl
theorem wshow_4_0_38 (E : Env) (h : IsEnv E) : ShowOK E 4 0 38 := by
  unfold IsEnv at h; subst h; unfold ShowOK; kernel_rfl
theorem wshow_4_1_0 (E : Env) (h : IsEnv E) : ShowOK E 4 1 0 := by
  unfold IsEnv at h; subst h; unfold ShowOK; kernel_rfl
theorem wshow_4_1_4 (E : Env) (h : IsEnv E) : ShowOK E 4 1 4 := by
  unfold IsEnv at h; subst h; unfold ShowOK; kernel_rfl
theorem wshow_4_1_38 (E : Env) (h : IsEnv E) : ShowOK E 4 1 38 := by
  unfold IsEnv at h; subst h; unfold ShowOK; kernel_rfl
theorem wshow_4_2_0 (E : Env) (h : IsEnv E) : ShowOK E 4 2 0 := by
  unfold IsEnv at h; subst h; unfold ShowOK; kernel_rfl
theorem wshow_4_2_4 (E : Env) (h : IsEnv E) : ShowOK E 4 2 4 := by
  unfold IsEnv at h; subst h; unfold ShowOK; kernel_rfl
theorem wshow_4_2_38 (E : Env) (h : IsEnv E) : ShowOK E 4 2 38 := by
  unfold IsEnv at h; subst h; unfold ShowOK; kernel_rfl
end Go.Proofs.Qxb6500274aGreat
