import Derived.Test.Qxb6500274aGreatKs
set_option maxRecDepth 100000
namespace Go.Proofs.Qxb6500274aGreat
open Go Go.Sx
theorem km2_5 (E : Env) (h : IsEnv E) : Step E backOK zTwo (kI 3) (svI 1) [] [(pgA, uI 5)] badM := by
  unfold IsEnv at h; subst h; unfold Step; kernel_rfl
theorem km2_6 (E : Env) (h : IsEnv E) : Step E backOK zTwo (kI 3) (svI 1) [] [(pgA, uI 6)] badM := by
  unfold IsEnv at h; subst h; unfold Step; kernel_rfl
theorem km2_7 (E : Env) (h : IsEnv E) : Step E backOK zTwo (kI 3) (svI 1) [] [(pgA, uI 7)] badM := by
  unfold IsEnv at h; subst h; unfold Step; kernel_rfl
theorem km2_8 (E : Env) (h : IsEnv E) : Step E backOK zTwo (kI 3) (svI 1) [] [(pgA, uI 8)] badM := by
  unfold IsEnv at h; subst h; unfold Step; kernel_rfl
theorem km2_9 (E : Env) (h : IsEnv E) : Step E backOK zTwo (kI 3) (svI 1) [] [(pgA, uI 9)] badM := by
  unfold IsEnv at h; subst h; unfold Step; kernel_rfl
theorem km2_10 (E : Env) (h : IsEnv E) : Step E backOK zTwo (kI 3) (svI 1) [] [(pgA, uI 10)] badM := by
  unfold IsEnv at h; subst h; unfold Step; kernel_rfl
theorem km2_11 (E : Env) (h : IsEnv E) : Step E backOK zTwo (kI 3) (svI 1) [] [(pgA, uI 11)] badM := by
  unfold IsEnv at h; subst h; unfold Step; kernel_rfl
theorem km2_12 (E : Env) (h : IsEnv E) : Step E backOK zTwo (kI 3) (svI 1) [] [(pgA, uI 12)] badM := by
  unfold IsEnv at h; subst h; unfold Step; kernel_rfl
theorem km2_13 (E : Env) (h : IsEnv E) : Step E backOK zTwo (kI 3) (svI 1) [] [(pgA, uI 13)] badM := by
  unfold IsEnv at h; subst h; unfold Step; kernel_rfl
theorem km2_14 (E : Env) (h : IsEnv E) : Step E backOK zTwo (kI 3) (svI 1) [] [(pgA, uI 14)] badM := by
  unfold IsEnv at h; subst h; unfold Step; kernel_rfl
theorem km2_15 (E : Env) (h : IsEnv E) : Step E backOK zTwo (kI 3) (svI 1) [] [(pgA, uI 15)] badM := by
  unfold IsEnv at h; subst h; unfold Step; kernel_rfl
theorem km2_16 (E : Env) (h : IsEnv E) : Step E backOK zTwo (kI 3) (svI 1) [] [(pgA, uI 16)] badM := by
  unfold IsEnv at h; subst h; unfold Step; kernel_rfl
theorem km2_17 (E : Env) (h : IsEnv E) : Step E backOK zTwo (kI 3) (svI 1) [] [(pgA, uI 17)] badM := by
  unfold IsEnv at h; subst h; unfold Step; kernel_rfl
theorem km2_18 (E : Env) (h : IsEnv E) : Step E backOK zTwo (kI 3) (svI 1) [] [(pgA, uI 18)] badM := by
  unfold IsEnv at h; subst h; unfold Step; kernel_rfl
theorem km2_19 (E : Env) (h : IsEnv E) : Step E backOK zTwo (kI 3) (svI 1) [] [(pgA, uI 19)] badM := by
  unfold IsEnv at h; subst h; unfold Step; kernel_rfl
theorem km2_20 (E : Env) (h : IsEnv E) : Step E backOK zTwo (kI 3) (svI 1) [] [(pgA, uI 20)] badM := by
  unfold IsEnv at h; subst h; unfold Step; kernel_rfl
theorem km2_21 (E : Env) (h : IsEnv E) : Step E backOK zTwo (kI 3) (svI 1) [] [(pgA, uI 21)] badM := by
  unfold IsEnv at h; subst h; unfold Step; kernel_rfl
theorem km2_22 (E : Env) (h : IsEnv E) : Step E backOK zTwo (kI 3) (svI 1) [] [(pgA, uI 22)] badM := by
  unfold IsEnv at h; subst h; unfold Step; kernel_rfl
end Go.Proofs.Qxb6500274aGreat
