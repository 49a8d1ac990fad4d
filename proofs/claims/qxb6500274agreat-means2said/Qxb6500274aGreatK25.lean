import Derived.Test.Qxb6500274aGreatKs
set_option maxRecDepth 100000
namespace Go.Proofs.Qxb6500274aGreat
open Go Go.Sx
theorem km2_95 (E : Env) (h : IsEnv E) : Step E backOK zTwo (kI 3) (svI 1) [] [(pgA, uI 95)] badM := by
  unfold IsEnv at h; subst h; unfold Step; kernel_rfl
theorem km2_96 (E : Env) (h : IsEnv E) : Step E backOK zTwo (kI 3) (svI 1) [] [(pgA, uI 96)] badM := by
  unfold IsEnv at h; subst h; unfold Step; kernel_rfl
theorem km2_97 (E : Env) (h : IsEnv E) : Step E backOK zTwo (kI 3) (svI 1) [] [(pgA, uI 97)] badM := by
  unfold IsEnv at h; subst h; unfold Step; kernel_rfl
theorem km2_98 (E : Env) (h : IsEnv E) : Step E backOK zTwo (kI 3) (svI 1) [] [(pgA, uI 98)] badM := by
  unfold IsEnv at h; subst h; unfold Step; kernel_rfl
theorem km2_99 (E : Env) (h : IsEnv E) : Step E backOK zTwo (kI 3) (svI 1) [] [(pgA, uI 99)] badM := by
  unfold IsEnv at h; subst h; unfold Step; kernel_rfl
theorem km2_100 (E : Env) (h : IsEnv E) : Step E backOK zTwo (kI 3) (svI 1) [] [(pgA, uI 100)] badM := by
  unfold IsEnv at h; subst h; unfold Step; kernel_rfl
theorem km2_101 (E : Env) (h : IsEnv E) : Step E backOK zTwo (kI 3) (svI 1) [] [(pgA, uI 101)] badM := by
  unfold IsEnv at h; subst h; unfold Step; kernel_rfl
theorem km2_102 (E : Env) (h : IsEnv E) : Step E backOK zTwo (kI 3) (svI 1) [] [(pgA, uI 102)] badM := by
  unfold IsEnv at h; subst h; unfold Step; kernel_rfl
theorem km2_103 (E : Env) (h : IsEnv E) : Step E backOK zTwo (kI 3) (svI 1) [] [(pgA, uI 103)] badM := by
  unfold IsEnv at h; subst h; unfold Step; kernel_rfl
theorem km2_104 (E : Env) (h : IsEnv E) : Step E backOK zTwo (kI 3) (svI 1) [] [(pgA, uI 104)] badM := by
  unfold IsEnv at h; subst h; unfold Step; kernel_rfl
theorem km2_105 (E : Env) (h : IsEnv E) : Step E backOK zTwo (kI 3) (svI 1) [] [(pgA, uI 105)] badM := by
  unfold IsEnv at h; subst h; unfold Step; kernel_rfl
theorem km2_106 (E : Env) (h : IsEnv E) : Step E backOK zTwo (kI 3) (svI 1) [] [(pgA, uI 106)] badM := by
  unfold IsEnv at h; subst h; unfold Step; kernel_rfl
theorem km2_107 (E : Env) (h : IsEnv E) : Step E backOK zTwo (kI 3) (svI 1) [] [(pgA, uI 107)] badM := by
  unfold IsEnv at h; subst h; unfold Step; kernel_rfl
theorem km2_108 (E : Env) (h : IsEnv E) : Step E backOK zTwo (kI 3) (svI 1) [] [(pgA, uI 108)] badM := by
  unfold IsEnv at h; subst h; unfold Step; kernel_rfl
theorem km2_109 (E : Env) (h : IsEnv E) : Step E backOK zTwo (kI 3) (svI 1) [] [(pgA, uI 109)] badM := by
  unfold IsEnv at h; subst h; unfold Step; kernel_rfl
theorem km2_110 (E : Env) (h : IsEnv E) : Step E backOK zTwo (kI 3) (svI 1) [] [(pgA, uI 110)] badM := by
  unfold IsEnv at h; subst h; unfold Step; kernel_rfl
theorem km2_111 (E : Env) (h : IsEnv E) : Step E backOK zTwo (kI 3) (svI 1) [] [(pgA, uI 111)] badM := by
  unfold IsEnv at h; subst h; unfold Step; kernel_rfl
theorem km2_112 (E : Env) (h : IsEnv E) : Step E backOK zTwo (kI 3) (svI 1) [] [(pgA, uI 112)] badM := by
  unfold IsEnv at h; subst h; unfold Step; kernel_rfl
end Go.Proofs.Qxb6500274aGreat
