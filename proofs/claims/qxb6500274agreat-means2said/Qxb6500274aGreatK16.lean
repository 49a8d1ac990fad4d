import Derived.Test.Qxb6500274aGreatKs
set_option maxRecDepth 100000
namespace Go.Proofs.Qxb6500274aGreat
open Go Go.Sx
theorem kpick (E : Env) (h : IsEnv E) : Step E backBoth zBoth (kI 2) (svI 1) [] [] [] := by
  unfold IsEnv at h; subst h; unfold Step; kernel_rfl
theorem kgadd (E : Env) (h : IsEnv E) : Step E backBoth zBoth (kI 4) (svI 1) [] [] [] := by
  unfold IsEnv at h; subst h; unfold Step; kernel_rfl
theorem khost (E : Env) (h : IsEnv E) : Step E backBoth zBoth (kI 6) (svI 1) [] [(pgLen, kI 8)] [] := by
  unfold IsEnv at h; subst h; unfold Step; kernel_rfl
theorem khostX (E : Env) (h : IsEnv E) : Step E backBoth zBoth (kI 6) (svI 1) fHostX [] [] := by
  unfold IsEnv at h; subst h; unfold Step; kernel_rfl
theorem klow (E : Env) (h : IsEnv E) : Step E backBoth zBoth (kI 7) (svI 1) fLow [] [] := by
  unfold IsEnv at h; subst h; unfold Step; kernel_rfl
theorem khigh (E : Env) (h : IsEnv E) : Step E backBoth zBoth (kI 7) (svI 1) fHigh [] [] := by
  unfold IsEnv at h; subst h; unfold Step; kernel_rfl
theorem knoLow (E : Env) (h : IsEnv E) : Step E backBoth zBoth (svI 50) (svI 1) fNoLow [] [] := by
  unfold IsEnv at h; subst h; unfold Step; kernel_rfl
theorem knoHigh (E : Env) (h : IsEnv E) : Step E backBoth zBoth (svI 50) (svI 1) fNoHigh [] [] := by
  unfold IsEnv at h; subst h; unfold Step; kernel_rfl
theorem km1_0 (E : Env) (h : IsEnv E) : Step E backOK zOne (kI 3) (svI 1) [] [(pgA, uI 0)] badM := by
  unfold IsEnv at h; subst h; unfold Step; kernel_rfl
theorem km1_1 (E : Env) (h : IsEnv E) : Step E backOK zOne (kI 3) (svI 1) [] [(pgA, uI 1)] badM := by
  unfold IsEnv at h; subst h; unfold Step; kernel_rfl
theorem km1_2 (E : Env) (h : IsEnv E) : Step E backOK zOne (kI 3) (svI 1) [] [(pgA, uI 2)] badM := by
  unfold IsEnv at h; subst h; unfold Step; kernel_rfl
theorem km1_3 (E : Env) (h : IsEnv E) : Step E backOK zOne (kI 3) (svI 1) [] [(pgA, uI 3)] badM := by
  unfold IsEnv at h; subst h; unfold Step; kernel_rfl
theorem km1_4 (E : Env) (h : IsEnv E) : Step E backOK zOne (kI 3) (svI 1) [] [(pgA, uI 4)] badM := by
  unfold IsEnv at h; subst h; unfold Step; kernel_rfl
theorem km1_5 (E : Env) (h : IsEnv E) : Step E backOK zOne (kI 3) (svI 1) [] [(pgA, uI 5)] badM := by
  unfold IsEnv at h; subst h; unfold Step; kernel_rfl
theorem km1_6 (E : Env) (h : IsEnv E) : Step E backOK zOne (kI 3) (svI 1) [] [(pgA, uI 6)] badM := by
  unfold IsEnv at h; subst h; unfold Step; kernel_rfl
theorem km1_7 (E : Env) (h : IsEnv E) : Step E backOK zOne (kI 3) (svI 1) [] [(pgA, uI 7)] badM := by
  unfold IsEnv at h; subst h; unfold Step; kernel_rfl
theorem km1_8 (E : Env) (h : IsEnv E) : Step E backOK zOne (kI 3) (svI 1) [] [(pgA, uI 8)] badM := by
  unfold IsEnv at h; subst h; unfold Step; kernel_rfl
theorem km1_9 (E : Env) (h : IsEnv E) : Step E backOK zOne (kI 3) (svI 1) [] [(pgA, uI 9)] badM := by
  unfold IsEnv at h; subst h; unfold Step; kernel_rfl
theorem km1_10 (E : Env) (h : IsEnv E) : Step E backOK zOne (kI 3) (svI 1) [] [(pgA, uI 10)] badM := by
  unfold IsEnv at h; subst h; unfold Step; kernel_rfl
theorem km1_11 (E : Env) (h : IsEnv E) : Step E backOK zOne (kI 3) (svI 1) [] [(pgA, uI 11)] badM := by
  unfold IsEnv at h; subst h; unfold Step; kernel_rfl
theorem km1_12 (E : Env) (h : IsEnv E) : Step E backOK zOne (kI 3) (svI 1) [] [(pgA, uI 12)] badM := by
  unfold IsEnv at h; subst h; unfold Step; kernel_rfl
end Go.Proofs.Qxb6500274aGreat
