import Derived.Test.Qxb6500274aGreatKs
set_option maxRecDepth 100000
namespace Go.Proofs.Qxb6500274aGreat
open Go Go.Sx
theorem ko123 (E : Env) (h : IsEnv E) : Step E backBoth zBoth (kI 7) (kI 123) [] [] [] := by
  unfold IsEnv at h; subst h; unfold Step; kernel_rfl
theorem ko124 (E : Env) (h : IsEnv E) : Step E backBoth zBoth (kI 7) (kI 124) [] [] [] := by
  unfold IsEnv at h; subst h; unfold Step; kernel_rfl
theorem ko125 (E : Env) (h : IsEnv E) : Step E backBoth zBoth (kI 7) (kI 125) [] [] [] := by
  unfold IsEnv at h; subst h; unfold Step; kernel_rfl
theorem ko126 (E : Env) (h : IsEnv E) : Step E backBoth zBoth (kI 7) (kI 126) [] [] [] := by
  unfold IsEnv at h; subst h; unfold Step; kernel_rfl
theorem ko127 (E : Env) (h : IsEnv E) : Step E backBoth zBoth (kI 7) (kI 127) [] [] [] := by
  unfold IsEnv at h; subst h; unfold Step; kernel_rfl
theorem ko128 (E : Env) (h : IsEnv E) : Step E backBoth zBoth (kI 7) (kI 128) [] [] [] := by
  unfold IsEnv at h; subst h; unfold Step; kernel_rfl
theorem ko129 (E : Env) (h : IsEnv E) : Step E backBoth zBoth (kI 7) (kI 129) [] [] [] := by
  unfold IsEnv at h; subst h; unfold Step; kernel_rfl
theorem ko130 (E : Env) (h : IsEnv E) : Step E backBoth zBoth (kI 7) (kI 130) [] [] [] := by
  unfold IsEnv at h; subst h; unfold Step; kernel_rfl
theorem ko131 (E : Env) (h : IsEnv E) : Step E backBoth zBoth (kI 7) (kI 131) [] [] [] := by
  unfold IsEnv at h; subst h; unfold Step; kernel_rfl
end Go.Proofs.Qxb6500274aGreat
