import Derived.Test.Qxb6500274aGreatKs
set_option maxRecDepth 100000
namespace Go.Proofs.Qxb6500274aGreat
open Go Go.Sx
theorem km2_23 (E : Env) (h : IsEnv E) : Step E backOK zTwo (kI 3) (svI 1) [] [(pgA, uI 23)] badM := by
  unfold IsEnv at h; subst h; unfold Step; kernel_rfl
theorem km2_24 (E : Env) (h : IsEnv E) : Step E backOK zTwo (kI 3) (svI 1) [] [(pgA, uI 24)] badM := by
  unfold IsEnv at h; subst h; unfold Step; kernel_rfl
theorem km2_25 (E : Env) (h : IsEnv E) : Step E backOK zTwo (kI 3) (svI 1) [] [(pgA, uI 25)] badM := by
  unfold IsEnv at h; subst h; unfold Step; kernel_rfl
theorem km2_26 (E : Env) (h : IsEnv E) : Step E backOK zTwo (kI 3) (svI 1) [] [(pgA, uI 26)] badM := by
  unfold IsEnv at h; subst h; unfold Step; kernel_rfl
theorem km2_27 (E : Env) (h : IsEnv E) : Step E backOK zTwo (kI 3) (svI 1) [] [(pgA, uI 27)] badM := by
  unfold IsEnv at h; subst h; unfold Step; kernel_rfl
theorem km2_28 (E : Env) (h : IsEnv E) : Step E backOK zTwo (kI 3) (svI 1) [] [(pgA, uI 28)] badM := by
  unfold IsEnv at h; subst h; unfold Step; kernel_rfl
theorem km2_29 (E : Env) (h : IsEnv E) : Step E backOK zTwo (kI 3) (svI 1) [] [(pgA, uI 29)] badM := by
  unfold IsEnv at h; subst h; unfold Step; kernel_rfl
theorem km2_30 (E : Env) (h : IsEnv E) : Step E backOK zTwo (kI 3) (svI 1) [] [(pgA, uI 30)] badM := by
  unfold IsEnv at h; subst h; unfold Step; kernel_rfl
theorem km2_31 (E : Env) (h : IsEnv E) : Step E backOK zTwo (kI 3) (svI 1) [] [(pgA, uI 31)] badM := by
  unfold IsEnv at h; subst h; unfold Step; kernel_rfl
theorem km2_32 (E : Env) (h : IsEnv E) : Step E backOK zTwo (kI 3) (svI 1) [] [(pgA, uI 32)] badM := by
  unfold IsEnv at h; subst h; unfold Step; kernel_rfl
theorem km2_33 (E : Env) (h : IsEnv E) : Step E backOK zTwo (kI 3) (svI 1) [] [(pgA, uI 33)] badM := by
  unfold IsEnv at h; subst h; unfold Step; kernel_rfl
theorem km2_34 (E : Env) (h : IsEnv E) : Step E backOK zTwo (kI 3) (svI 1) [] [(pgA, uI 34)] badM := by
  unfold IsEnv at h; subst h; unfold Step; kernel_rfl
theorem km2_35 (E : Env) (h : IsEnv E) : Step E backOK zTwo (kI 3) (svI 1) [] [(pgA, uI 35)] badM := by
  unfold IsEnv at h; subst h; unfold Step; kernel_rfl
theorem km2_36 (E : Env) (h : IsEnv E) : Step E backOK zTwo (kI 3) (svI 1) [] [(pgA, uI 36)] badM := by
  unfold IsEnv at h; subst h; unfold Step; kernel_rfl
theorem km2_37 (E : Env) (h : IsEnv E) : Step E backOK zTwo (kI 3) (svI 1) [] [(pgA, uI 37)] badM := by
  unfold IsEnv at h; subst h; unfold Step; kernel_rfl
theorem km2_38 (E : Env) (h : IsEnv E) : Step E backOK zTwo (kI 3) (svI 1) [] [(pgA, uI 38)] badM := by
  unfold IsEnv at h; subst h; unfold Step; kernel_rfl
theorem km2_39 (E : Env) (h : IsEnv E) : Step E backOK zTwo (kI 3) (svI 1) [] [(pgA, uI 39)] badM := by
  unfold IsEnv at h; subst h; unfold Step; kernel_rfl
theorem km2_40 (E : Env) (h : IsEnv E) : Step E backOK zTwo (kI 3) (svI 1) [] [(pgA, uI 40)] badM := by
  unfold IsEnv at h; subst h; unfold Step; kernel_rfl
end Go.Proofs.Qxb6500274aGreat
