import Derived.Test.Qxb6500274aGreatKs
set_option maxRecDepth 100000
namespace Go.Proofs.Qxb6500274aGreat
open Go Go.Sx
theorem ko132 (E : Env) (h : IsEnv E) : Step E backBoth zBoth (kI 7) (kI 132) [] [] [] := by
  unfold IsEnv at h; subst h; unfold Step; kernel_rfl
theorem ko133 (E : Env) (h : IsEnv E) : Step E backBoth zBoth (kI 7) (kI 133) [] [] [] := by
  unfold IsEnv at h; subst h; unfold Step; kernel_rfl
theorem ko134 (E : Env) (h : IsEnv E) : Step E backBoth zBoth (kI 7) (kI 134) [] [] [] := by
  unfold IsEnv at h; subst h; unfold Step; kernel_rfl
theorem ko135 (E : Env) (h : IsEnv E) : Step E backBoth zBoth (kI 7) (kI 135) [] [] [] := by
  unfold IsEnv at h; subst h; unfold Step; kernel_rfl
theorem ko136 (E : Env) (h : IsEnv E) : Step E backBoth zBoth (kI 7) (kI 136) [] [] [] := by
  unfold IsEnv at h; subst h; unfold Step; kernel_rfl
theorem ko137 (E : Env) (h : IsEnv E) : Step E backBoth zBoth (kI 7) (kI 137) [] [] [] := by
  unfold IsEnv at h; subst h; unfold Step; kernel_rfl
theorem ko138 (E : Env) (h : IsEnv E) : Step E backBoth zBoth (kI 7) (kI 138) [] [] [] := by
  unfold IsEnv at h; subst h; unfold Step; kernel_rfl
theorem ko139 (E : Env) (h : IsEnv E) : Step E backBoth zBoth (kI 7) (kI 139) [] [] [] := by
  unfold IsEnv at h; subst h; unfold Step; kernel_rfl
theorem ko140 (E : Env) (h : IsEnv E) : Step E backBoth zBoth (kI 7) (kI 140) [] [] [] := by
  unfold IsEnv at h; subst h; unfold Step; kernel_rfl
end Go.Proofs.Qxb6500274aGreat
