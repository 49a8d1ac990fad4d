import Derived.Test.Qxb6500274aGreatWKs
set_option maxRecDepth 100000
namespace Go.Proofs.Qxb6500274aGreat
open Go Go.Sx
theorem wload_4_1 (E : Env) (h : IsEnv E) : LoadOK E 4 1 := by
  unfold IsEnv at h; subst h; unfold LoadOK; kernel_rfl
theorem wload_4_2 (E : Env) (h : IsEnv E) : LoadOK E 4 2 := by
  unfold IsEnv at h; subst h; unfold LoadOK; kernel_rfl
theorem wload_5_0 (E : Env) (h : IsEnv E) : LoadOK E 5 0 := by
  unfold IsEnv at h; subst h; unfold LoadOK; kernel_rfl
theorem wload_5_1 (E : Env) (h : IsEnv E) : LoadOK E 5 1 := by
  unfold IsEnv at h; subst h; unfold LoadOK; kernel_rfl
end Go.Proofs.Qxb6500274aGreat
