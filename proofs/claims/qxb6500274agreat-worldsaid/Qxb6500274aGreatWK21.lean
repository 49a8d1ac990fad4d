import Derived.Test.Qxb6500274aGreatWKs
set_option maxRecDepth 100000
namespace Go.Proofs.Qxb6500274aGreat
open Go Go.Sx
theorem wload_6_0 (E : Env) (h : IsEnv E) : LoadOK E 6 0 := by
  unfold IsEnv at h; subst h; unfold LoadOK; kernel_rfl
theorem wtape_0_0 (E : Env) (h : IsEnv E) : TapeOK E 0 0 := by
  unfold IsEnv at h; subst h; unfold TapeOK; kernel_rfl
theorem wtape_0_1 (E : Env) (h : IsEnv E) : TapeOK E 0 1 := by
  unfold IsEnv at h; subst h; unfold TapeOK; kernel_rfl
theorem wtape_0_2 (E : Env) (h : IsEnv E) : TapeOK E 0 2 := by
  unfold IsEnv at h; subst h; unfold TapeOK; kernel_rfl
theorem wtape_0_3 (E : Env) (h : IsEnv E) : TapeOK E 0 3 := by
  unfold IsEnv at h; subst h; unfold TapeOK; kernel_rfl
theorem wtape_0_4 (E : Env) (h : IsEnv E) : TapeOK E 0 4 := by
  unfold IsEnv at h; subst h; unfold TapeOK; kernel_rfl
theorem wtape_0_5 (E : Env) (h : IsEnv E) : TapeOK E 0 5 := by
  unfold IsEnv at h; subst h; unfold TapeOK; kernel_rfl
theorem wtape_0_6 (E : Env) (h : IsEnv E) : TapeOK E 0 6 := by
  unfold IsEnv at h; subst h; unfold TapeOK; kernel_rfl
theorem wtape_4_0 (E : Env) (h : IsEnv E) : TapeOK E 4 0 := by
  unfold IsEnv at h; subst h; unfold TapeOK; kernel_rfl
theorem wtape_4_1 (E : Env) (h : IsEnv E) : TapeOK E 4 1 := by
  unfold IsEnv at h; subst h; unfold TapeOK; kernel_rfl
theorem wtape_4_2 (E : Env) (h : IsEnv E) : TapeOK E 4 2 := by
  unfold IsEnv at h; subst h; unfold TapeOK; kernel_rfl
theorem wtape_4_3 (E : Env) (h : IsEnv E) : TapeOK E 4 3 := by
  unfold IsEnv at h; subst h; unfold TapeOK; kernel_rfl
theorem wtape_4_4 (E : Env) (h : IsEnv E) : TapeOK E 4 4 := by
  unfold IsEnv at h; subst h; unfold TapeOK; kernel_rfl
theorem wtape_4_5 (E : Env) (h : IsEnv E) : TapeOK E 4 5 := by
  unfold IsEnv at h; subst h; unfold TapeOK; kernel_rfl
theorem wtape_4_6 (E : Env) (h : IsEnv E) : TapeOK E 4 6 := by
  unfold IsEnv at h; subst h; unfold TapeOK; kernel_rfl
theorem wtape_38_0 (E : Env) (h : IsEnv E) : TapeOK E 38 0 := by
  unfold IsEnv at h; subst h; unfold TapeOK; kernel_rfl
theorem wtape_38_1 (E : Env) (h : IsEnv E) : TapeOK E 38 1 := by
  unfold IsEnv at h; subst h; unfold TapeOK; kernel_rfl
theorem wtape_38_2 (E : Env) (h : IsEnv E) : TapeOK E 38 2 := by
  unfold IsEnv at h; subst h; unfold TapeOK; kernel_rfl
theorem wtape_38_3 (E : Env) (h : IsEnv E) : TapeOK E 38 3 := by
  unfold IsEnv at h; subst h; unfold TapeOK; kernel_rfl
theorem wtape_38_4 (E : Env) (h : IsEnv E) : TapeOK E 38 4 := by
  unfold IsEnv at h; subst h; unfold TapeOK; kernel_rfl
theorem wtape_38_5 (E : Env) (h : IsEnv E) : TapeOK E 38 5 := by
  unfold IsEnv at h; subst h; unfold TapeOK; kernel_rfl
theorem wtape_38_6 (E : Env) (h : IsEnv E) : TapeOK E 38 6 := by
  unfold IsEnv at h; subst h; unfold TapeOK; kernel_rfl
end Go.Proofs.Qxb6500274aGreat
