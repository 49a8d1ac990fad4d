import Derived.Test.Qxb6500274aGreatWKs
set_option maxRecDepth 100000
namespace Go.Proofs.Qxb6500274aGreat
open Go Go.Sx
theorem wload_1_0 (E : Env) (h : IsEnv E) : LoadOK E 1 0 := by
  unfold IsEnv at h; subst h; unfold LoadOK; kernel_rfl
theorem wload_1_1 (E : Env) (h : IsEnv E) : LoadOK E 1 1 := by
  unfold IsEnv at h; subst h; unfold LoadOK; kernel_rfl
theorem wload_1_2 (E : Env) (h : IsEnv E) : LoadOK E 1 2 := by
  unfold IsEnv at h; subst h; unfold LoadOK; kernel_rfl
theorem wload_1_3 (E : Env) (h : IsEnv E) : LoadOK E 1 3 := by
  unfold IsEnv at h; subst h; unfold LoadOK; kernel_rfl
end Go.Proofs.Qxb6500274aGreat
