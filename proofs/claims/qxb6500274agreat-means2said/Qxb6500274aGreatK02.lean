import Derived.Test.Qxb6500274aGreatKs
set_option maxRecDepth 100000
namespace Go.Proofs.Qxb6500274aGreat
open Go Go.Sx
theorem ko87 (E : Env) (h : IsEnv E) : Step E backBoth zBoth (kI 7) (kI 87) [] [] [] := by
  unfold IsEnv at h; subst h; unfold Step; kernel_rfl
theorem ko88 (E : Env) (h : IsEnv E) : Step E backBoth zBoth (kI 7) (kI 88) [] [] [] := by
  unfold IsEnv at h; subst h; unfold Step; kernel_rfl
theorem ko89 (E : Env) (h : IsEnv E) : Step E backBoth zBoth (kI 7) (kI 89) [] [] [] := by
  unfold IsEnv at h; subst h; unfold Step; kernel_rfl
theorem ko90 (E : Env) (h : IsEnv E) : Step E backBoth zBoth (kI 7) (kI 90) [] [] [] := by
  unfold IsEnv at h; subst h; unfold Step; kernel_rfl
theorem ko91 (E : Env) (h : IsEnv E) : Step E backBoth zBoth (kI 7) (kI 91) [] [] [] := by
  unfold IsEnv at h; subst h; unfold Step; kernel_rfl
theorem ko92 (E : Env) (h : IsEnv E) : Step E backBoth zBoth (kI 7) (kI 92) [] [] [] := by
  unfold IsEnv at h; subst h; unfold Step; kernel_rfl
theorem ko93 (E : Env) (h : IsEnv E) : Step E backBoth zBoth (kI 7) (kI 93) [] [] [] := by
  unfold IsEnv at h; subst h; unfold Step; kernel_rfl
theorem ko94 (E : Env) (h : IsEnv E) : Step E backBoth zBoth (kI 7) (kI 94) [] [] [] := by
  unfold IsEnv at h; subst h; unfold Step; kernel_rfl
theorem ko95 (E : Env) (h : IsEnv E) : Step E backBoth zBoth (kI 7) (kI 95) [] [] [] := by
  unfold IsEnv at h; subst h; unfold Step; kernel_rfl
end Go.Proofs.Qxb6500274aGreat
