import Derived.Test.Qxb6500274aGreatWKs
set_option maxRecDepth 100000
namespace Go.Proofs.Qxb6500274aGreat
open Go Go.Sx
theorem wload_2_2 (E : Env) (h : IsEnv E) : LoadOK E 2 2 := by
  unfold IsEnv at h; subst h; unfold LoadOK; kernel_rfl
theorem wload_2_3 (E : Env) (h : IsEnv E) : LoadOK E 2 3 := by
  unfold IsEnv at h; subst h; unfold LoadOK; kernel_rfl
theorem wload_2_4 (E : Env) (h : IsEnv E) : LoadOK E 2 4 := by
  unfold IsEnv at h; subst h; unfold LoadOK; kernel_rfl
theorem wload_3_0 (E : Env) (h : IsEnv E) : LoadOK E 3 0 := by
  unfold IsEnv at h; subst h; unfold LoadOK; kernel_rfl
end Go.Proofs.Qxb6500274aGreat
