import Derived.Test.Qxb6500274aGreatKs
set_option maxRecDepth 100000
namespace Go.Proofs.Qxb6500274aGreat
open Go Go.Sx
theorem ko114 (E : Env) (h : IsEnv E) : Step E backBoth zBoth (kI 7) (kI 114) [] [] [] := by
  unfold IsEnv at h; subst h; unfold Step; kernel_rfl
theorem ko115 (E : Env) (h : IsEnv E) : Step E backBoth zBoth (kI 7) (kI 115) [] [] [] := by
  unfold IsEnv at h; subst h; unfold Step; kernel_rfl
theorem ko116 (E : Env) (h : IsEnv E) : Step E backBoth zBoth (kI 7) (kI 116) [] [] [] := by
  unfold IsEnv at h; subst h; unfold Step; kernel_rfl
theorem ko117 (E : Env) (h : IsEnv E) : Step E backBoth zBoth (kI 7) (kI 117) [] [] [] := by
  unfold IsEnv at h; subst h; unfold Step; kernel_rfl
theorem ko118 (E : Env) (h : IsEnv E) : Step E backBoth zBoth (kI 7) (kI 118) [] [] [] := by
  unfold IsEnv at h; subst h; unfold Step; kernel_rfl
theorem ko119 (E : Env) (h : IsEnv E) : Step E backBoth zBoth (kI 7) (kI 119) [] [] [] := by
  unfold IsEnv at h; subst h; unfold Step; kernel_rfl
theorem ko120 (E : Env) (h : IsEnv E) : Step E backBoth zBoth (kI 7) (kI 120) [] [] [] := by
  unfold IsEnv at h; subst h; unfold Step; kernel_rfl
theorem ko121 (E : Env) (h : IsEnv E) : Step E backBoth zBoth (kI 7) (kI 121) [] [] [] := by
  unfold IsEnv at h; subst h; unfold Step; kernel_rfl
theorem ko122 (E : Env) (h : IsEnv E) : Step E backBoth zBoth (kI 7) (kI 122) [] [] [] := by
  unfold IsEnv at h; subst h; unfold Step; kernel_rfl
end Go.Proofs.Qxb6500274aGreat
