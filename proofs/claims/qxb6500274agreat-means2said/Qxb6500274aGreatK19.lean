import Derived.Test.Qxb6500274aGreatKs
set_option maxRecDepth 100000
namespace Go.Proofs.Qxb6500274aGreat
open Go Go.Sx
theorem km1_49 (E : Env) (h : IsEnv E) : Step E backOK zOne (kI 3) (svI 1) [] [(pgA, uI 49)] badM := by
  unfold IsEnv at h; subst h; unfold Step; kernel_rfl
theorem km1_50 (E : Env) (h : IsEnv E) : Step E backOK zOne (kI 3) (svI 1) [] [(pgA, uI 50)] badM := by
  unfold IsEnv at h; subst h; unfold Step; kernel_rfl
theorem km1_51 (E : Env) (h : IsEnv E) : Step E backOK zOne (kI 3) (svI 1) [] [(pgA, uI 51)] badM := by
  unfold IsEnv at h; subst h; unfold Step; kernel_rfl
theorem km1_52 (E : Env) (h : IsEnv E) : Step E backOK zOne (kI 3) (svI 1) [] [(pgA, uI 52)] badM := by
  unfold IsEnv at h; subst h; unfold Step; kernel_rfl
theorem km1_53 (E : Env) (h : IsEnv E) : Step E backOK zOne (kI 3) (svI 1) [] [(pgA, uI 53)] badM := by
  unfold IsEnv at h; subst h; unfold Step; kernel_rfl
theorem km1_54 (E : Env) (h : IsEnv E) : Step E backOK zOne (kI 3) (svI 1) [] [(pgA, uI 54)] badM := by
  unfold IsEnv at h; subst h; unfold Step; kernel_rfl
theorem km1_55 (E : Env) (h : IsEnv E) : Step E backOK zOne (kI 3) (svI 1) [] [(pgA, uI 55)] badM := by
  unfold IsEnv at h; subst h; unfold Step; kernel_rfl
theorem km1_56 (E : Env) (h : IsEnv E) : Step E backOK zOne (kI 3) (svI 1) [] [(pgA, uI 56)] badM := by
  unfold IsEnv at h; subst h; unfold Step; kernel_rfl
theorem km1X (E : Env) (h : IsEnv E) : Step E backOK zOne (kI 3) (svI 1) (fMemX 1) [] [] := by
  unfold IsEnv at h; subst h; unfold Step; kernel_rfl
theorem kg1_0 (E : Env) (h : IsEnv E) : Step E backOK zOne (kI 5) (svI 1) [] [(pgA, uI 0)] [] := by
  unfold IsEnv at h; subst h; unfold Step; kernel_rfl
theorem kg1_1 (E : Env) (h : IsEnv E) : Step E backOK zOne (kI 5) (svI 1) [] [(pgA, uI 1)] [] := by
  unfold IsEnv at h; subst h; unfold Step; kernel_rfl
theorem kg1X (E : Env) (h : IsEnv E) : Step E backOK zOne (kI 5) (svI 1) (fGrow 1) [] [] := by
  unfold IsEnv at h; subst h; unfold Step; kernel_rfl
theorem km2_0 (E : Env) (h : IsEnv E) : Step E backOK zTwo (kI 3) (svI 1) [] [(pgA, uI 0)] badM := by
  unfold IsEnv at h; subst h; unfold Step; kernel_rfl
theorem km2_1 (E : Env) (h : IsEnv E) : Step E backOK zTwo (kI 3) (svI 1) [] [(pgA, uI 1)] badM := by
  unfold IsEnv at h; subst h; unfold Step; kernel_rfl
theorem km2_2 (E : Env) (h : IsEnv E) : Step E backOK zTwo (kI 3) (svI 1) [] [(pgA, uI 2)] badM := by
  unfold IsEnv at h; subst h; unfold Step; kernel_rfl
theorem km2_3 (E : Env) (h : IsEnv E) : Step E backOK zTwo (kI 3) (svI 1) [] [(pgA, uI 3)] badM := by
  unfold IsEnv at h; subst h; unfold Step; kernel_rfl
theorem km2_4 (E : Env) (h : IsEnv E) : Step E backOK zTwo (kI 3) (svI 1) [] [(pgA, uI 4)] badM := by
  unfold IsEnv at h; subst h; unfold Step; kernel_rfl
end Go.Proofs.Qxb6500274aGreat
