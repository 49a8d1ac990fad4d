import Derived.Test.Qxb6500274aGreatKs
set_option maxRecDepth 100000
namespace Go.Proofs.Qxb6500274aGreat
open Go Go.Sx
theorem ks2 (E : Env) (h : IsEnv E) : Step E backBoth zBoth (kI 1) (svI 1) [] [(pgB, uI 2)] bad2 := by
  unfold IsEnv at h; subst h; unfold Step; kernel_rfl
theorem ks3 (E : Env) (h : IsEnv E) : Step E backBoth zBoth (kI 1) (svI 1) [] [(pgB, uI 3)] bad3 := by
  unfold IsEnv at h; subst h; unfold Step; kernel_rfl
theorem ks4 (E : Env) (h : IsEnv E) : Step E backBoth zBoth (kI 1) (svI 1) [] [(pgB, uI 4)] bad4 := by
  unfold IsEnv at h; subst h; unfold Step; kernel_rfl
end Go.Proofs.Qxb6500274aGreat
