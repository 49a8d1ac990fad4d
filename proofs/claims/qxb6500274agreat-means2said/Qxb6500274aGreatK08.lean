import Derived.Test.Qxb6500274aGreatKs
set_option maxRecDepth 100000
namespace Go.Proofs.Qxb6500274aGreat
open Go Go.Sx
theorem ko141 (E : Env) (h : IsEnv E) : Step E backBoth zBoth (kI 7) (kI 141) [] [] [] := by
  unfold IsEnv at h; subst h; unfold Step; kernel_rfl
theorem ko142 (E : Env) (h : IsEnv E) : Step E backBoth zBoth (kI 7) (kI 142) [] [] [] := by
  unfold IsEnv at h; subst h; unfold Step; kernel_rfl
theorem ko143 (E : Env) (h : IsEnv E) : Step E backBoth zBoth (kI 7) (kI 143) [] [] [] := by
  unfold IsEnv at h; subst h; unfold Step; kernel_rfl
theorem ko144 (E : Env) (h : IsEnv E) : Step E backBoth zBoth (kI 7) (kI 144) [] [] [] := by
  unfold IsEnv at h; subst h; unfold Step; kernel_rfl
theorem ko145 (E : Env) (h : IsEnv E) : Step E backBoth zBoth (kI 7) (kI 145) [] [] [] := by
  unfold IsEnv at h; subst h; unfold Step; kernel_rfl
theorem ko146 (E : Env) (h : IsEnv E) : Step E backBoth zBoth (kI 7) (kI 146) [] [] [] := by
  unfold IsEnv at h; subst h; unfold Step; kernel_rfl
theorem ko147 (E : Env) (h : IsEnv E) : Step E backBoth zBoth (kI 7) (kI 147) [] [] [] := by
  unfold IsEnv at h; subst h; unfold Step; kernel_rfl
theorem ko148 (E : Env) (h : IsEnv E) : Step E backBoth zBoth (kI 7) (kI 148) [] [] [] := by
  unfold IsEnv at h; subst h; unfold Step; kernel_rfl
theorem ko149 (E : Env) (h : IsEnv E) : Step E backBoth zBoth (kI 7) (kI 149) [] [] [] := by
  unfold IsEnv at h; subst h; unfold Step; kernel_rfl
end Go.Proofs.Qxb6500274aGreat
