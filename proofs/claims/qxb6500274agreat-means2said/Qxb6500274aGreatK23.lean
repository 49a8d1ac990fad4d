import Derived.Test.Qxb6500274aGreatKs
set_option maxRecDepth 100000
namespace Go.Proofs.Qxb6500274aGreat
open Go Go.Sx
theorem km2_59 (E : Env) (h : IsEnv E) : Step E backOK zTwo (kI 3) (svI 1) [] [(pgA, uI 59)] badM := by
  unfold IsEnv at h; subst h; unfold Step; kernel_rfl
theorem km2_60 (E : Env) (h : IsEnv E) : Step E backOK zTwo (kI 3) (svI 1) [] [(pgA, uI 60)] badM := by
  unfold IsEnv at h; subst h; unfold Step; kernel_rfl
theorem km2_61 (E : Env) (h : IsEnv E) : Step E backOK zTwo (kI 3) (svI 1) [] [(pgA, uI 61)] badM := by
  unfold IsEnv at h; subst h; unfold Step; kernel_rfl
theorem km2_62 (E : Env) (h : IsEnv E) : Step E backOK zTwo (kI 3) (svI 1) [] [(pgA, uI 62)] badM := by
  unfold IsEnv at h; subst h; unfold Step; kernel_rfl
theorem km2_63 (E : Env) (h : IsEnv E) : Step E backOK zTwo (kI 3) (svI 1) [] [(pgA, uI 63)] badM := by
  unfold IsEnv at h; subst h; unfold Step; kernel_rfl
theorem km2_64 (E : Env) (h : IsEnv E) : Step E backOK zTwo (kI 3) (svI 1) [] [(pgA, uI 64)] badM := by
  unfold IsEnv at h; subst h; unfold Step; kernel_rfl
theorem km2_65 (E : Env) (h : IsEnv E) : Step E backOK zTwo (kI 3) (svI 1) [] [(pgA, uI 65)] badM := by
  unfold IsEnv at h; subst h; unfold Step; kernel_rfl
theorem km2_66 (E : Env) (h : IsEnv E) : Step E backOK zTwo (kI 3) (svI 1) [] [(pgA, uI 66)] badM := by
  unfold IsEnv at h; subst h; unfold Step; kernel_rfl
theorem km2_67 (E : Env) (h : IsEnv E) : Step E backOK zTwo (kI 3) (svI 1) [] [(pgA, uI 67)] badM := by
  unfold IsEnv at h; subst h; unfold Step; kernel_rfl
theorem km2_68 (E : Env) (h : IsEnv E) : Step E backOK zTwo (kI 3) (svI 1) [] [(pgA, uI 68)] badM := by
  unfold IsEnv at h; subst h; unfold Step; kernel_rfl
theorem km2_69 (E : Env) (h : IsEnv E) : Step E backOK zTwo (kI 3) (svI 1) [] [(pgA, uI 69)] badM := by
  unfold IsEnv at h; subst h; unfold Step; kernel_rfl
theorem km2_70 (E : Env) (h : IsEnv E) : Step E backOK zTwo (kI 3) (svI 1) [] [(pgA, uI 70)] badM := by
  unfold IsEnv at h; subst h; unfold Step; kernel_rfl
theorem km2_71 (E : Env) (h : IsEnv E) : Step E backOK zTwo (kI 3) (svI 1) [] [(pgA, uI 71)] badM := by
  unfold IsEnv at h; subst h; unfold Step; kernel_rfl
theorem km2_72 (E : Env) (h : IsEnv E) : Step E backOK zTwo (kI 3) (svI 1) [] [(pgA, uI 72)] badM := by
  unfold IsEnv at h; subst h; unfold Step; kernel_rfl
theorem km2_73 (E : Env) (h : IsEnv E) : Step E backOK zTwo (kI 3) (svI 1) [] [(pgA, uI 73)] badM := by
  unfold IsEnv at h; subst h; unfold Step; kernel_rfl
theorem km2_74 (E : Env) (h : IsEnv E) : Step E backOK zTwo (kI 3) (svI 1) [] [(pgA, uI 74)] badM := by
  unfold IsEnv at h; subst h; unfold Step; kernel_rfl
theorem km2_75 (E : Env) (h : IsEnv E) : Step E backOK zTwo (kI 3) (svI 1) [] [(pgA, uI 75)] badM := by
  unfold IsEnv at h; subst h; unfold Step; kernel_rfl
theorem km2_76 (E : Env) (h : IsEnv E) : Step E backOK zTwo (kI 3) (svI 1) [] [(pgA, uI 76)] badM := by
  unfold IsEnv at h; subst h; unfold Step; kernel_rfl
end Go.Proofs.Qxb6500274aGreat
