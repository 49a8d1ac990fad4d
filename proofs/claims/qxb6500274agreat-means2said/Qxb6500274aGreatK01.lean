import Derived.Test.Qxb6500274aGreatKs
set_option maxRecDepth 100000
namespace Go.Proofs.Qxb6500274aGreat
open Go Go.Sx
theorem ko78 (E : Env) (h : IsEnv E) : Step E backBoth zBoth (kI 7) (kI 78) [] [] [] := by
  unfold IsEnv at h; subst h; unfold Step; kernel_rfl
theorem ko79 (E : Env) (h : IsEnv E) : Step E backBoth zBoth (kI 7) (kI 79) [] [] [] := by
  unfold IsEnv at h; subst h; unfold Step; kernel_rfl
theorem ko80 (E : Env) (h : IsEnv E) : Step E backBoth zBoth (kI 7) (kI 80) [] [] [] := by
  unfold IsEnv at h; subst h; unfold Step; kernel_rfl
theorem ko81 (E : Env) (h : IsEnv E) : Step E backBoth zBoth (kI 7) (kI 81) [] [] [] := by
  unfold IsEnv at h; subst h; unfold Step; kernel_rfl
theorem ko82 (E : Env) (h : IsEnv E) : Step E backBoth zBoth (kI 7) (kI 82) [] [] [] := by
  unfold IsEnv at h; subst h; unfold Step; kernel_rfl
theorem ko83 (E : Env) (h : IsEnv E) : Step E backBoth zBoth (kI 7) (kI 83) [] [] [] := by
  unfold IsEnv at h; subst h; unfold Step; kernel_rfl
theorem ko84 (E : Env) (h : IsEnv E) : Step E backBoth zBoth (kI 7) (kI 84) [] [] [] := by
  unfold IsEnv at h; subst h; unfold Step; kernel_rfl
theorem ko85 (E : Env) (h : IsEnv E) : Step E backBoth zBoth (kI 7) (kI 85) [] [] [] := by
  unfold IsEnv at h; subst h; unfold Step; kernel_rfl
theorem ko86 (E : Env) (h : IsEnv E) : Step E backBoth zBoth (kI 7) (kI 86) [] [] [] := by
  unfold IsEnv at h; subst h; unfold Step; kernel_rfl
end Go.Proofs.Qxb6500274aGreat
