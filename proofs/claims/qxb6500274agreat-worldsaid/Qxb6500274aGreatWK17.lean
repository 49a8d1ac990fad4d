import Derived.Test.Qxb6500274aGreatWKs
set_option maxRecDepth 100000
namespace Go.Proofs.Qxb6500274aGreat
open Go Go.Sx
theorem wload_1_4 (E : Env) (h : IsEnv E) : LoadOK E 1 4 := by
  unfold IsEnv at h; subst h; unfold LoadOK; kernel_rfl
theorem wload_1_5 (E : Env) (h : IsEnv E) : LoadOK E 1 5 := by
  unfold IsEnv at h; subst h; unfold LoadOK; kernel_rfl
theorem wload_2_0 (E : Env) (h : IsEnv E) : LoadOK E 2 0 := by
  unfold IsEnv at h; subst h; unfold LoadOK; kernel_rfl
theorem wload_2_1 (E : Env) (h : IsEnv E) : LoadOK E 2 1 := by
  unfold IsEnv at h; subst h; unfold LoadOK; kernel_rfl
end Go.Proofs.Qxb6500274aGreat
