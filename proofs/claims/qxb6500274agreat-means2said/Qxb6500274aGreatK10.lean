import Derived.Test.Qxb6500274aGreatKs
set_option maxRecDepth 100000
namespace Go.Proofs.Qxb6500274aGreat
open Go Go.Sx
theorem ko159 (E : Env) (h : IsEnv E) : Step E backBoth zBoth (kI 7) (kI 159) [] [] [] := by
  unfold IsEnv at h; subst h; unfold Step; kernel_rfl
theorem ko160 (E : Env) (h : IsEnv E) : Step E backBoth zBoth (kI 7) (kI 160) [] [] [] := by
  unfold IsEnv at h; subst h; unfold Step; kernel_rfl
theorem ko161 (E : Env) (h : IsEnv E) : Step E backBoth zBoth (kI 7) (kI 161) [] [] [] := by
  unfold IsEnv at h; subst h; unfold Step; kernel_rfl
theorem ko162 (E : Env) (h : IsEnv E) : Step E backBoth zBoth (kI 7) (kI 162) [] [] [] := by
  unfold IsEnv at h; subst h; unfold Step; kernel_rfl
theorem ko163 (E : Env) (h : IsEnv E) : Step E backBoth zBoth (kI 7) (kI 163) [] [] [] := by
  unfold IsEnv at h; subst h; unfold Step; kernel_rfl
theorem ko164 (E : Env) (h : IsEnv E) : Step E backBoth zBoth (kI 7) (kI 164) [] [] [] := by
  unfold IsEnv at h; subst h; unfold Step; kernel_rfl
theorem ko165 (E : Env) (h : IsEnv E) : Step E backBoth zBoth (kI 7) (kI 165) [] [] [] := by
  unfold IsEnv at h; subst h; unfold Step; kernel_rfl
theorem ko166 (E : Env) (h : IsEnv E) : Step E backBoth zBoth (kI 7) (kI 166) [] [] [] := by
  unfold IsEnv at h; subst h; unfold Step; kernel_rfl
theorem ko167 (E : Env) (h : IsEnv E) : Step E backBoth zBoth (kI 7) (kI 167) [] [] [] := by
  unfold IsEnv at h; subst h; unfold Step; kernel_rfl
end Go.Proofs.Qxb6500274aGreat
