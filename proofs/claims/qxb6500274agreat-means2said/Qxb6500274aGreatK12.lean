import Derived.Test.Qxb6500274aGreatKs
set_option maxRecDepth 100000
namespace Go.Proofs.Qxb6500274aGreat
open Go Go.Sx
theorem ko177 (E : Env) (h : IsEnv E) : Step E backBoth zBoth (kI 7) (kI 177) [] [] [] := by
  unfold IsEnv at h; subst h; unfold Step; kernel_rfl
theorem ko178 (E : Env) (h : IsEnv E) : Step E backBoth zBoth (kI 7) (kI 178) [] [] [] := by
  unfold IsEnv at h; subst h; unfold Step; kernel_rfl
theorem ko179 (E : Env) (h : IsEnv E) : Step E backBoth zBoth (kI 7) (kI 179) [] [] [] := by
  unfold IsEnv at h; subst h; unfold Step; kernel_rfl
theorem ko180 (E : Env) (h : IsEnv E) : Step E backBoth zBoth (kI 7) (kI 180) [] [] [] := by
  unfold IsEnv at h; subst h; unfold Step; kernel_rfl
theorem ko181 (E : Env) (h : IsEnv E) : Step E backBoth zBoth (kI 7) (kI 181) [] [] [] := by
  unfold IsEnv at h; subst h; unfold Step; kernel_rfl
theorem ko182 (E : Env) (h : IsEnv E) : Step E backBoth zBoth (kI 7) (kI 182) [] [] [] := by
  unfold IsEnv at h; subst h; unfold Step; kernel_rfl
theorem ko183 (E : Env) (h : IsEnv E) : Step E backBoth zBoth (kI 7) (kI 183) [] [] [] := by
  unfold IsEnv at h; subst h; unfold Step; kernel_rfl
theorem ko184 (E : Env) (h : IsEnv E) : Step E backBoth zBoth (kI 7) (kI 184) [] [] [] := by
  unfold IsEnv at h; subst h; unfold Step; kernel_rfl
theorem ko185 (E : Env) (h : IsEnv E) : Step E backBoth zBoth (kI 7) (kI 185) [] [] [] := by
  unfold IsEnv at h; subst h; unfold Step; kernel_rfl
end Go.Proofs.Qxb6500274aGreat
