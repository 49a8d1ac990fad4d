import Derived.Test.Qxb6500274aGreatKs
set_option maxRecDepth 100000
namespace Go.Proofs.Qxb6500274aGreat
open Go Go.Sx
theorem km2_113 (E : Env) (h : IsEnv E) : Step E backOK zTwo (kI 3) (svI 1) [] [(pgA, uI 113)] badM := by
  unfold IsEnv at h; subst h; unfold Step; kernel_rfl
theorem km2_114 (E : Env) (h : IsEnv E) : Step E backOK zTwo (kI 3) (svI 1) [] [(pgA, uI 114)] badM := by
  unfold IsEnv at h; subst h; unfold Step; kernel_rfl
theorem km2_115 (E : Env) (h : IsEnv E) : Step E backOK zTwo (kI 3) (svI 1) [] [(pgA, uI 115)] badM := by
  unfold IsEnv at h; subst h; unfold Step; kernel_rfl
theorem km2_116 (E : Env) (h : IsEnv E) : Step E backOK zTwo (kI 3) (svI 1) [] [(pgA, uI 116)] badM := by
  unfold IsEnv at h; subst h; unfold Step; kernel_rfl
theorem km2_117 (E : Env) (h : IsEnv E) : Step E backOK zTwo (kI 3) (svI 1) [] [(pgA, uI 117)] badM := by
  unfold IsEnv at h; subst h; unfold Step; kernel_rfl
theorem km2_118 (E : Env) (h : IsEnv E) : Step E backOK zTwo (kI 3) (svI 1) [] [(pgA, uI 118)] badM := by
  unfold IsEnv at h; subst h; unfold Step; kernel_rfl
theorem km2_119 (E : Env) (h : IsEnv E) : Step E backOK zTwo (kI 3) (svI 1) [] [(pgA, uI 119)] badM := by
  unfold IsEnv at h; subst h; unfold Step; kernel_rfl
theorem km2_120 (E : Env) (h : IsEnv E) : Step E backOK zTwo (kI 3) (svI 1) [] [(pgA, uI 120)] badM := by
  unfold IsEnv at h; subst h; unfold Step; kernel_rfl
theorem km2X (E : Env) (h : IsEnv E) : Step E backOK zTwo (kI 3) (svI 1) (fMemX 2) [] [] := by
  unfold IsEnv at h; subst h; unfold Step; kernel_rfl
theorem kg2_0 (E : Env) (h : IsEnv E) : Step E backOK zTwo (kI 5) (svI 1) [] [(pgA, uI 0)] [] := by
  unfold IsEnv at h; subst h; unfold Step; kernel_rfl
theorem kg2_1 (E : Env) (h : IsEnv E) : Step E backOK zTwo (kI 5) (svI 1) [] [(pgA, uI 1)] [] := by
  unfold IsEnv at h; subst h; unfold Step; kernel_rfl
theorem kg2X (E : Env) (h : IsEnv E) : Step E backOK zTwo (kI 5) (svI 1) (fGrow 2) [] [] := by
  unfold IsEnv at h; subst h; unfold Step; kernel_rfl
end Go.Proofs.Qxb6500274aGreat
