import Derived.Test.Qxb6500274aGreatKs
set_option maxRecDepth 100000
namespace Go.Proofs.Qxb6500274aGreat
open Go Go.Sx
theorem km1_13 (E : Env) (h : IsEnv E) : Step E backOK zOne (kI 3) (svI 1) [] [(pgA, uI 13)] badM := by
  unfold IsEnv at h; subst h; unfold Step; kernel_rfl
theorem km1_14 (E : Env) (h : IsEnv E) : Step E backOK zOne (kI 3) (svI 1) [] [(pgA, uI 14)] badM := by
  unfold IsEnv at h; subst h; unfold Step; kernel_rfl
theorem km1_15 (E : Env) (h : IsEnv E) : Step E backOK zOne (kI 3) (svI 1) [] [(pgA, uI 15)] badM := by
  unfold IsEnv at h; subst h; unfold Step; kernel_rfl
theorem km1_16 (E : Env) (h : IsEnv E) : Step E backOK zOne (kI 3) (svI 1) [] [(pgA, uI 16)] badM := by
  unfold IsEnv at h; subst h; unfold Step; kernel_rfl
theorem km1_17 (E : Env) (h : IsEnv E) : Step E backOK zOne (kI 3) (svI 1) [] [(pgA, uI 17)] badM := by
  unfold IsEnv at h; subst h; unfold Step; kernel_rfl
theorem km1_18 (E : Env) (h : IsEnv E) : Step E backOK zOne (kI 3) (svI 1) [] [(pgA, uI 18)] badM := by
  unfold IsEnv at h; subst h; unfold Step; kernel_rfl
theorem km1_19 (E : Env) (h : IsEnv E) : Step E backOK zOne (kI 3) (svI 1) [] [(pgA, uI 19)] badM := by
  unfold IsEnv at h; subst h; unfold Step; kernel_rfl
theorem km1_20 (E : Env) (h : IsEnv E) : Step E backOK zOne (kI 3) (svI 1) [] [(pgA, uI 20)] badM := by
  unfold IsEnv at h; subst h; unfold Step; kernel_rfl
theorem km1_21 (E : Env) (h : IsEnv E) : Step E backOK zOne (kI 3) (svI 1) [] [(pgA, uI 21)] badM := by
  unfold IsEnv at h; subst h; unfold Step; kernel_rfl
theorem km1_22 (E : Env) (h : IsEnv E) : Step E backOK zOne (kI 3) (svI 1) [] [(pgA, uI 22)] badM := by
  unfold IsEnv at h; subst h; unfold Step; kernel_rfl
theorem km1_23 (E : Env) (h : IsEnv E) : Step E backOK zOne (kI 3) (svI 1) [] [(pgA, uI 23)] badM := by
  unfold IsEnv at h; subst h; unfold Step; kernel_rfl
theorem km1_24 (E : Env) (h : IsEnv E) : Step E backOK zOne (kI 3) (svI 1) [] [(pgA, uI 24)] badM := by
  unfold IsEnv at h; subst h; unfold Step; kernel_rfl
theorem km1_25 (E : Env) (h : IsEnv E) : Step E backOK zOne (kI 3) (svI 1) [] [(pgA, uI 25)] badM := by
  unfold IsEnv at h; subst h; unfold Step; kernel_rfl
theorem km1_26 (E : Env) (h : IsEnv E) : Step E backOK zOne (kI 3) (svI 1) [] [(pgA, uI 26)] badM := by
  unfold IsEnv at h; subst h; unfold Step; kernel_rfl
theorem km1_27 (E : Env) (h : IsEnv E) : Step E backOK zOne (kI 3) (svI 1) [] [(pgA, uI 27)] badM := by
  unfold IsEnv at h; subst h; unfold Step; kernel_rfl
theorem km1_28 (E : Env) (h : IsEnv E) : Step E backOK zOne (kI 3) (svI 1) [] [(pgA, uI 28)] badM := by
  unfold IsEnv at h; subst h; unfold Step; kernel_rfl
theorem km1_29 (E : Env) (h : IsEnv E) : Step E backOK zOne (kI 3) (svI 1) [] [(pgA, uI 29)] badM := by
  unfold IsEnv at h; subst h; unfold Step; kernel_rfl
theorem km1_30 (E : Env) (h : IsEnv E) : Step E backOK zOne (kI 3) (svI 1) [] [(pgA, uI 30)] badM := by
  unfold IsEnv at h; subst h; unfold Step; kernel_rfl
end Go.Proofs.Qxb6500274aGreat
