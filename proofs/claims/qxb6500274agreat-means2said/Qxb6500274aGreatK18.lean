import Derived.Test.Qxb6500274aGreatKs
set_option maxRecDepth 100000
namespace Go.Proofs.Qxb6500274aGreat
open Go Go.Sx
theorem km1_31 (E : Env) (h : IsEnv E) : Step E backOK zOne (kI 3) (svI 1) [] [(pgA, uI 31)] badM := by
  unfold IsEnv at h; subst h; unfold Step; kernel_rfl
theorem km1_32 (E : Env) (h : IsEnv E) : Step E backOK zOne (kI 3) (svI 1) [] [(pgA, uI 32)] badM := by
  unfold IsEnv at h; subst h; unfold Step; kernel_rfl
theorem km1_33 (E : Env) (h : IsEnv E) : Step E backOK zOne (kI 3) (svI 1) [] [(pgA, uI 33)] badM := by
  unfold IsEnv at h; subst h; unfold Step; kernel_rfl
theorem km1_34 (E : Env) (h : IsEnv E) : Step E backOK zOne (kI 3) (svI 1) [] [(pgA, uI 34)] badM := by
  unfold IsEnv at h; subst h; unfold Step; kernel_rfl
theorem km1_35 (E : Env) (h : IsEnv E) : Step E backOK zOne (kI 3) (svI 1) [] [(pgA, uI 35)] badM := by
  unfold IsEnv at h; subst h; unfold Step; kernel_rfl
theorem km1_36 (E : Env) (h : IsEnv E) : Step E backOK zOne (kI 3) (svI 1) [] [(pgA, uI 36)] badM := by
  unfold IsEnv at h; subst h; unfold Step; kernel_rfl
theorem km1_37 (E : Env) (h : IsEnv E) : Step E backOK zOne (kI 3) (svI 1) [] [(pgA, uI 37)] badM := by
  unfold IsEnv at h; subst h; unfold Step; kernel_rfl
theorem km1_38 (E : Env) (h : IsEnv E) : Step E backOK zOne (kI 3) (svI 1) [] [(pgA, uI 38)] badM := by
  unfold IsEnv at h; subst h; unfold Step; kernel_rfl
theorem km1_39 (E : Env) (h : IsEnv E) : Step E backOK zOne (kI 3) (svI 1) [] [(pgA, uI 39)] badM := by
  unfold IsEnv at h; subst h; unfold Step; kernel_rfl
theorem km1_40 (E : Env) (h : IsEnv E) : Step E backOK zOne (kI 3) (svI 1) [] [(pgA, uI 40)] badM := by
  unfold IsEnv at h; subst h; unfold Step; kernel_rfl
theorem km1_41 (E : Env) (h : IsEnv E) : Step E backOK zOne (kI 3) (svI 1) [] [(pgA, uI 41)] badM := by
  unfold IsEnv at h; subst h; unfold Step; kernel_rfl
theorem km1_42 (E : Env) (h : IsEnv E) : Step E backOK zOne (kI 3) (svI 1) [] [(pgA, uI 42)] badM := by
  unfold IsEnv at h; subst h; unfold Step; kernel_rfl
theorem km1_43 (E : Env) (h : IsEnv E) : Step E backOK zOne (kI 3) (svI 1) [] [(pgA, uI 43)] badM := by
  unfold IsEnv at h; subst h; unfold Step; kernel_rfl
theorem km1_44 (E : Env) (h : IsEnv E) : Step E backOK zOne (kI 3) (svI 1) [] [(pgA, uI 44)] badM := by
  unfold IsEnv at h; subst h; unfold Step; kernel_rfl
theorem km1_45 (E : Env) (h : IsEnv E) : Step E backOK zOne (kI 3) (svI 1) [] [(pgA, uI 45)] badM := by
  unfold IsEnv at h; subst h; unfold Step; kernel_rfl
theorem km1_46 (E : Env) (h : IsEnv E) : Step E backOK zOne (kI 3) (svI 1) [] [(pgA, uI 46)] badM := by
  unfold IsEnv at h; subst h; unfold Step; kernel_rfl
theorem km1_47 (E : Env) (h : IsEnv E) : Step E backOK zOne (kI 3) (svI 1) [] [(pgA, uI 47)] badM := by
  unfold IsEnv at h; subst h; unfold Step; kernel_rfl
theorem km1_48 (E : Env) (h : IsEnv E) : Step E backOK zOne (kI 3) (svI 1) [] [(pgA, uI 48)] badM := by
  unfold IsEnv at h; subst h; unfold Step; kernel_rfl
end Go.Proofs.Qxb6500274aGreat
