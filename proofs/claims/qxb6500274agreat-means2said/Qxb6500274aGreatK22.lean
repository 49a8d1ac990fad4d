import Derived.Test.Qxb6500274aGreatKs
set_option maxRecDepth 100000
namespace Go.Proofs.Qxb6500274aGreat
open Go Go.Sx
theorem km2_41 (E : Env) (h : IsEnv E) : Step E backOK zTwo (kI 3) (svI 1) [] [(pgA, uI 41)] badM := by
  unfold IsEnv at h; subst h; unfold Step; kernel_rfl
theorem km2_42 (E : Env) (h : IsEnv E) : Step E backOK zTwo (kI 3) (svI 1) [] [(pgA, uI 42)] badM := by
  unfold IsEnv at h; subst h; unfold Step; kernel_rfl
theorem km2_43 (E : Env) (h : IsEnv E) : Step E backOK zTwo (kI 3) (svI 1) [] [(pgA, uI 43)] badM := by
  unfold IsEnv at h; subst h; unfold Step; kernel_rfl
theorem km2_44 (E : Env) (h : IsEnv E) : Step E backOK zTwo (kI 3) (svI 1) [] [(pgA, uI 44)] badM := by
  unfold IsEnv at h; subst h; unfold Step; kernel_rfl
theorem km2_45 (E : Env) (h : IsEnv E) : Step E backOK zTwo (kI 3) (svI 1) [] [(pgA, uI 45)] badM := by
  unfold IsEnv at h; subst h; unfold Step; kernel_rfl
theorem km2_46 (E : Env) (h : IsEnv E) : Step E backOK zTwo (kI 3) (svI 1) [] [(pgA, uI 46)] badM := by
  unfold IsEnv at h; subst h; unfold Step; kernel_rfl
theorem km2_47 (E : Env) (h : IsEnv E) : Step E backOK zTwo (kI 3) (svI 1) [] [(pgA, uI 47)] badM := by
  unfold IsEnv at h; subst h; unfold Step; kernel_rfl
theorem km2_48 (E : Env) (h : IsEnv E) : Step E backOK zTwo (kI 3) (svI 1) [] [(pgA, uI 48)] badM := by
  unfold IsEnv at h; subst h; unfold Step; kernel_rfl
theorem km2_49 (E : Env) (h : IsEnv E) : Step E backOK zTwo (kI 3) (svI 1) [] [(pgA, uI 49)] badM := by
  unfold IsEnv at h; subst h; unfold Step; kernel_rfl
theorem km2_50 (E : Env) (h : IsEnv E) : Step E backOK zTwo (kI 3) (svI 1) [] [(pgA, uI 50)] badM := by
  unfold IsEnv at h; subst h; unfold Step; kernel_rfl
theorem km2_51 (E : Env) (h : IsEnv E) : Step E backOK zTwo (kI 3) (svI 1) [] [(pgA, uI 51)] badM := by
  unfold IsEnv at h; subst h; unfold Step; kernel_rfl
theorem km2_52 (E : Env) (h : IsEnv E) : Step E backOK zTwo (kI 3) (svI 1) [] [(pgA, uI 52)] badM := by
  unfold IsEnv at h; subst h; unfold Step; kernel_rfl
theorem km2_53 (E : Env) (h : IsEnv E) : Step E backOK zTwo (kI 3) (svI 1) [] [(pgA, uI 53)] badM := by
  unfold IsEnv at h; subst h; unfold Step; kernel_rfl
theorem km2_54 (E : Env) (h : IsEnv E) : Step E backOK zTwo (kI 3) (svI 1) [] [(pgA, uI 54)] badM := by
  unfold IsEnv at h; subst h; unfold Step; kernel_rfl
theorem km2_55 (E : Env) (h : IsEnv E) : Step E backOK zTwo (kI 3) (svI 1) [] [(pgA, uI 55)] badM := by
  unfold IsEnv at h; subst h; unfold Step; kernel_rfl
theorem km2_56 (E : Env) (h : IsEnv E) : Step E backOK zTwo (kI 3) (svI 1) [] [(pgA, uI 56)] badM := by
  unfold IsEnv at h; subst h; unfold Step; kernel_rfl
theorem km2_57 (E : Env) (h : IsEnv E) : Step E backOK zTwo (kI 3) (svI 1) [] [(pgA, uI 57)] badM := by
  unfold IsEnv at h; subst h; unfold Step; kernel_rfl
theorem km2_58 (E : Env) (h : IsEnv E) : Step E backOK zTwo (kI 3) (svI 1) [] [(pgA, uI 58)] badM := by
  unfold IsEnv at h; subst h; unfold Step; kernel_rfl
end Go.Proofs.Qxb6500274aGreat
