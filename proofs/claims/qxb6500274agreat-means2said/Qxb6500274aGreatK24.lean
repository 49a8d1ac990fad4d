import Derived.Test.Qxb6500274aGreatKs
set_option maxRecDepth 100000
namespace Go.Proofs.Qxb6500274aGreat
open Go Go.Sx
theorem km2_77 (E : Env) (h : IsEnv E) : Step E backOK zTwo (kI 3) (svI 1) [] [(pgA, uI 77)] badM := by
  unfold IsEnv at h; subst h; unfold Step; kernel_rfl
theorem km2_78 (E : Env) (h : IsEnv E) : Step E backOK zTwo (kI 3) (svI 1) [] [(pgA, uI 78)] badM := by
  unfold IsEnv at h; subst h; unfold Step; kernel_rfl
theorem km2_79 (E : Env) (h : IsEnv E) : Step E backOK zTwo (kI 3) (svI 1) [] [(pgA, uI 79)] badM := by
  unfold IsEnv at h; subst h; unfold Step; kernel_rfl
theorem km2_80 (E : Env) (h : IsEnv E) : Step E backOK zTwo (kI 3) (svI 1) [] [(pgA, uI 80)] badM := by
  unfold IsEnv at h; subst h; unfold Step; kernel_rfl
theorem km2_81 (E : Env) (h : IsEnv E) : Step E backOK zTwo (kI 3) (svI 1) [] [(pgA, uI 81)] badM := by
  unfold IsEnv at h; subst h; unfold Step; kernel_rfl
theorem km2_82 (E : Env) (h : IsEnv E) : Step E backOK zTwo (kI 3) (svI 1) [] [(pgA, uI 82)] badM := by
  unfold IsEnv at h; subst h; unfold Step; kernel_rfl
theorem km2_83 (E : Env) (h : IsEnv E) : Step E backOK zTwo (kI 3) (svI 1) [] [(pgA, uI 83)] badM := by
  unfold IsEnv at h; subst h; unfold Step; kernel_rfl
theorem km2_84 (E : Env) (h : IsEnv E) : Step E backOK zTwo (kI 3) (svI 1) [] [(pgA, uI 84)] badM := by
  unfold IsEnv at h; subst h; unfold Step; kernel_rfl
theorem km2_85 (E : Env) (h : IsEnv E) : Step E backOK zTwo (kI 3) (svI 1) [] [(pgA, uI 85)] badM := by
  unfold IsEnv at h; subst h; unfold Step; kernel_rfl
theorem km2_86 (E : Env) (h : IsEnv E) : Step E backOK zTwo (kI 3) (svI 1) [] [(pgA, uI 86)] badM := by
  unfold IsEnv at h; subst h; unfold Step; kernel_rfl
theorem km2_87 (E : Env) (h : IsEnv E) : Step E backOK zTwo (kI 3) (svI 1) [] [(pgA, uI 87)] badM := by
  unfold IsEnv at h; subst h; unfold Step; kernel_rfl
theorem km2_88 (E : Env) (h : IsEnv E) : Step E backOK zTwo (kI 3) (svI 1) [] [(pgA, uI 88)] badM := by
  unfold IsEnv at h; subst h; unfold Step; kernel_rfl
theorem km2_89 (E : Env) (h : IsEnv E) : Step E backOK zTwo (kI 3) (svI 1) [] [(pgA, uI 89)] badM := by
  unfold IsEnv at h; subst h; unfold Step; kernel_rfl
theorem km2_90 (E : Env) (h : IsEnv E) : Step E backOK zTwo (kI 3) (svI 1) [] [(pgA, uI 90)] badM := by
  unfold IsEnv at h; subst h; unfold Step; kernel_rfl
theorem km2_91 (E : Env) (h : IsEnv E) : Step E backOK zTwo (kI 3) (svI 1) [] [(pgA, uI 91)] badM := by
  unfold IsEnv at h; subst h; unfold Step; kernel_rfl
theorem km2_92 (E : Env) (h : IsEnv E) : Step E backOK zTwo (kI 3) (svI 1) [] [(pgA, uI 92)] badM := by
  unfold IsEnv at h; subst h; unfold Step; kernel_rfl
theorem km2_93 (E : Env) (h : IsEnv E) : Step E backOK zTwo (kI 3) (svI 1) [] [(pgA, uI 93)] badM := by
  unfold IsEnv at h; subst h; unfold Step; kernel_rfl
theorem km2_94 (E : Env) (h : IsEnv E) : Step E backOK zTwo (kI 3) (svI 1) [] [(pgA, uI 94)] badM := by
  unfold IsEnv at h; subst h; unfold Step; kernel_rfl
end Go.Proofs.Qxb6500274aGreat
