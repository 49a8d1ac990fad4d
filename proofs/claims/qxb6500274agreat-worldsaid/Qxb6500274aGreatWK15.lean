import Derived.Test.Qxb6500274aGreatWKs
set_option maxRecDepth 100000
namespace Go.Proofs.Qxb6500274aGreat
open Go Go.Sx
theorem wload_0_3 (E : Env) (h : IsEnv E) : LoadOK E 0 3 := by
  unfold IsEnv at h; subst h; unfold LoadOK; kernel_rfl
theorem wload_0_4 (E : Env) (h : IsEnv E) : LoadOK E 0 4 := by
  unfold IsEnv at h; subst h; unfold LoadOK; kernel_rfl
theorem wload_0_5 (E : Env) (h : IsEnv E) : LoadOK E 0 5 := by
  unfold IsEnv at h; subst h; unfold LoadOK; kernel_rfl
theorem wload_0_6 (E : Env) (h : IsEnv E) : LoadOK E 0 6 := by
  unfold IsEnv at h; subst h; unfold LoadOK; kernel_rfl
end Go.Proofs.Qxb6500274aGreat
