import Derived.Test.Qxb6500274aGreatKs
set_option maxRecDepth 100000
namespace Go.Proofs.Qxb6500274aGreat
open Go Go.Sx
theorem ks5 (E : Env) (h : IsEnv E) : Step E backBoth zBoth (kI 1) (svI 1) [] [(pgB, uI 5)] bad5 := by
  unfold IsEnv at h; subst h; unfold Step; kernel_rfl
theorem ks6 (E : Env) (h : IsEnv E) : Step E backBoth zBoth (kI 1) (svI 1) fSub6 [] [] := by
  unfold IsEnv at h; subst h; unfold Step; kernel_rfl
end Go.Proofs.Qxb6500274aGreat
