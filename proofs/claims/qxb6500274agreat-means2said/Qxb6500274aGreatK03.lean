import Derived.Test.Qxb6500274aGreatKs
set_option maxRecDepth 100000
namespace Go.Proofs.Qxb6500274aGreat
open Go Go.Sx
theorem ko96 (E : Env) (h : IsEnv E) : Step E backBoth zBoth (kI 7) (kI 96) [] [] [] := by
  unfold IsEnv at h; subst h; unfold Step; kernel_rfl
theorem ko97 (E : Env) (h : IsEnv E) : Step E backBoth zBoth (kI 7) (kI 97) [] [] [] := by
  unfold IsEnv at h; subst h; unfold Step; kernel_rfl
theorem ko98 (E : Env) (h : IsEnv E) : Step E backBoth zBoth (kI 7) (kI 98) [] [] [] := by
  unfold IsEnv at h; subst h; unfold Step; kernel_rfl
theorem ko99 (E : Env) (h : IsEnv E) : Step E backBoth zBoth (kI 7) (kI 99) [] [] [] := by
  unfold IsEnv at h; subst h; unfold Step; kernel_rfl
theorem ko100 (E : Env) (h : IsEnv E) : Step E backBoth zBoth (kI 7) (kI 100) [] [] [] := by
  unfold IsEnv at h; subst h; unfold Step; kernel_rfl
theorem ko101 (E : Env) (h : IsEnv E) : Step E backBoth zBoth (kI 7) (kI 101) [] [] [] := by
  unfold IsEnv at h; subst h; unfold Step; kernel_rfl
theorem ko102 (E : Env) (h : IsEnv E) : Step E backBoth zBoth (kI 7) (kI 102) [] [] [] := by
  unfold IsEnv at h; subst h; unfold Step; kernel_rfl
theorem ko103 (E : Env) (h : IsEnv E) : Step E backBoth zBoth (kI 7) (kI 103) [] [] [] := by
  unfold IsEnv at h; subst h; unfold Step; kernel_rfl
theorem ko104 (E : Env) (h : IsEnv E) : Step E backBoth zBoth (kI 7) (kI 104) [] [] [] := by
  unfold IsEnv at h; subst h; unfold Step; kernel_rfl
end Go.Proofs.Qxb6500274aGreat
