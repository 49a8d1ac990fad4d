import Derived.Test.Qxb6500274aGreatWKs
set_option maxRecDepth 100000
namespace Go.Proofs.Qxb6500274aGreat
open Go Go.Sx
theorem wmove_5_1 (E : Env) (h : IsEnv E) : MoveOK E 5 1 := by
  unfold IsEnv at h; subst h; unfold MoveOK; kernel_rfl
theorem wmove_6_0 (E : Env) (h : IsEnv E) : MoveOK E 6 0 := by
  unfold IsEnv at h; subst h; unfold MoveOK; kernel_rfl
theorem wload_0_0 (E : Env) (h : IsEnv E) : LoadOK E 0 0 := by
  unfold IsEnv at h; subst h; unfold LoadOK; kernel_rfl
theorem wload_0_1 (E : Env) (h : IsEnv E) : LoadOK E 0 1 := by
  unfold IsEnv at h; subst h; unfold LoadOK; kernel_rfl
theorem wload_0_2 (E : Env) (h : IsEnv E) : LoadOK E 0 2 := by
  unfold IsEnv at h; subst h; unfold LoadOK; kernel_rfl
end Go.Proofs.Qxb6500274aGreat
