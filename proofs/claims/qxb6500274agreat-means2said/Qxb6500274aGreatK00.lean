import Derived.Test.Qxb6500274aGreatKs
set_option maxRecDepth 100000
namespace Go.Proofs.Qxb6500274aGreat
open Go Go.Sx
theorem ko69 (E : Env) (h : IsEnv E) : Step E backBoth zBoth (kI 7) (kI 69) [] [] bad69 := by
  unfold IsEnv at h; subst h; unfold Step; kernel_rfl
theorem ko70 (E : Env) (h : IsEnv E) : Step E backBoth zBoth (kI 7) (kI 70) [] [] [] := by
  unfold IsEnv at h; subst h; unfold Step; kernel_rfl
theorem ko71 (E : Env) (h : IsEnv E) : Step E backBoth zBoth (kI 7) (kI 71) [] [] [] := by
  unfold IsEnv at h; subst h; unfold Step; kernel_rfl
theorem ko72 (E : Env) (h : IsEnv E) : Step E backBoth zBoth (kI 7) (kI 72) [] [] [] := by
  unfold IsEnv at h; subst h; unfold Step; kernel_rfl
theorem ko73 (E : Env) (h : IsEnv E) : Step E backBoth zBoth (kI 7) (kI 73) [] [] [] := by
  unfold IsEnv at h; subst h; unfold Step; kernel_rfl
theorem ko74 (E : Env) (h : IsEnv E) : Step E backBoth zBoth (kI 7) (kI 74) [] [] [] := by
  unfold IsEnv at h; subst h; unfold Step; kernel_rfl
theorem ko75 (E : Env) (h : IsEnv E) : Step E backBoth zBoth (kI 7) (kI 75) [] [] [] := by
  unfold IsEnv at h; subst h; unfold Step; kernel_rfl
theorem ko76 (E : Env) (h : IsEnv E) : Step E backBoth zBoth (kI 7) (kI 76) [] [] [] := by
  unfold IsEnv at h; subst h; unfold Step; kernel_rfl
theorem ko77 (E : Env) (h : IsEnv E) : Step E backBoth zBoth (kI 7) (kI 77) [] [] [] := by
  unfold IsEnv at h; subst h; unfold Step; kernel_rfl
end Go.Proofs.Qxb6500274aGreat
