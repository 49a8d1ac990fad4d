import Derived.Test.Qxb6500274aGreatKs
set_option maxRecDepth 100000
namespace Go.Proofs.Qxb6500274aGreat
open Go Go.Sx
theorem ko105 (E : Env) (h : IsEnv E) : Step E backBoth zBoth (kI 7) (kI 105) [] [] [] := by
  unfold IsEnv at h; subst h; unfold Step; kernel_rfl
theorem ko106 (E : Env) (h : IsEnv E) : Step E backBoth zBoth (kI 7) (kI 106) [] [] bad106 := by
  unfold IsEnv at h; subst h; unfold Step; kernel_rfl
theorem ko107 (E : Env) (h : IsEnv E) : Step E backBoth zBoth (kI 7) (kI 107) [] [] [] := by
  unfold IsEnv at h; subst h; unfold Step; kernel_rfl
theorem ko108 (E : Env) (h : IsEnv E) : Step E backBoth zBoth (kI 7) (kI 108) [] [] [] := by
  unfold IsEnv at h; subst h; unfold Step; kernel_rfl
theorem ko109 (E : Env) (h : IsEnv E) : Step E backBoth zBoth (kI 7) (kI 109) [] [] [] := by
  unfold IsEnv at h; subst h; unfold Step; kernel_rfl
theorem ko110 (E : Env) (h : IsEnv E) : Step E backBoth zBoth (kI 7) (kI 110) [] [] [] := by
  unfold IsEnv at h; subst h; unfold Step; kernel_rfl
theorem ko111 (E : Env) (h : IsEnv E) : Step E backBoth zBoth (kI 7) (kI 111) [] [] [] := by
  unfold IsEnv at h; subst h; unfold Step; kernel_rfl
theorem ko112 (E : Env) (h : IsEnv E) : Step E backBoth zBoth (kI 7) (kI 112) [] [] [] := by
  unfold IsEnv at h; subst h; unfold Step; kernel_rfl
theorem ko113 (E : Env) (h : IsEnv E) : Step E backBoth zBoth (kI 7) (kI 113) [] [] [] := by
  unfold IsEnv at h; subst h; unfold Step; kernel_rfl
end Go.Proofs.Qxb6500274aGreat
