import Derived.Test.Qxb6500274aGreatKs
set_option maxRecDepth 100000
namespace Go.Proofs.Qxb6500274aGreat
open Go Go.Sx
theorem ko150 (E : Env) (h : IsEnv E) : Step E backBoth zBoth (kI 7) (kI 150) [] [] [] := by
  unfold IsEnv at h; subst h; unfold Step; kernel_rfl
theorem ko151 (E : Env) (h : IsEnv E) : Step E backBoth zBoth (kI 7) (kI 151) [] [] [] := by
  unfold IsEnv at h; subst h; unfold Step; kernel_rfl
theorem ko152 (E : Env) (h : IsEnv E) : Step E backBoth zBoth (kI 7) (kI 152) [] [] [] := by
  unfold IsEnv at h; subst h; unfold Step; kernel_rfl
theorem ko153 (E : Env) (h : IsEnv E) : Step E backBoth zBoth (kI 7) (kI 153) [] [] [] := by
  unfold IsEnv at h; subst h; unfold Step; kernel_rfl
theorem ko154 (E : Env) (h : IsEnv E) : Step E backBoth zBoth (kI 7) (kI 154) [] [] [] := by
  unfold IsEnv at h; subst h; unfold Step; kernel_rfl
theorem ko155 (E : Env) (h : IsEnv E) : Step E backBoth zBoth (kI 7) (kI 155) [] [] [] := by
  unfold IsEnv at h; subst h; unfold Step; kernel_rfl
theorem ko156 (E : Env) (h : IsEnv E) : Step E backBoth zBoth (kI 7) (kI 156) [] [] [] := by
  unfold IsEnv at h; subst h; unfold Step; kernel_rfl
theorem ko157 (E : Env) (h : IsEnv E) : Step E backBoth zBoth (kI 7) (kI 157) [] [] [] := by
  unfold IsEnv at h; subst h; unfold Step; kernel_rfl
theorem ko158 (E : Env) (h : IsEnv E) : Step E backBoth zBoth (kI 7) (kI 158) [] [] [] := by
  unfold IsEnv at h; subst h; unfold Step; kernel_rfl
end Go.Proofs.Qxb6500274aGreat
