import Derived.Test.Qxb6500274aGreatKs
set_option maxRecDepth 100000
namespace Go.Proofs.Qxb6500274aGreat
open Go Go.Sx
theorem ko186 (E : Env) (h : IsEnv E) : Step E backBoth zBoth (kI 7) (kI 186) [] [] [] := by
  unfold IsEnv at h; subst h; unfold Step; kernel_rfl
theorem ko187 (E : Env) (h : IsEnv E) : Step E backBoth zBoth (kI 7) (kI 187) [] [] [] := by
  unfold IsEnv at h; subst h; unfold Step; kernel_rfl
theorem ko188 (E : Env) (h : IsEnv E) : Step E backBoth zBoth (kI 7) (kI 188) [] [] [] := by
  unfold IsEnv at h; subst h; unfold Step; kernel_rfl
theorem ko189 (E : Env) (h : IsEnv E) : Step E backBoth zBoth (kI 7) (kI 189) [] [] [] := by
  unfold IsEnv at h; subst h; unfold Step; kernel_rfl
theorem ko190 (E : Env) (h : IsEnv E) : Step E backBoth zBoth (kI 7) (kI 190) [] [] [] := by
  unfold IsEnv at h; subst h; unfold Step; kernel_rfl
theorem ko191 (E : Env) (h : IsEnv E) : Step E backBoth zBoth (kI 7) (kI 191) [] [] [] := by
  unfold IsEnv at h; subst h; unfold Step; kernel_rfl
theorem ks0 (E : Env) (h : IsEnv E) : Step E backBoth zBoth (kI 1) (svI 1) [] [(pgB, uI 0)] bad0 := by
  unfold IsEnv at h; subst h; unfold Step; kernel_rfl
theorem ks1 (E : Env) (h : IsEnv E) : Step E backBoth zBoth (kI 1) (svI 1) [] [(pgB, uI 1)] bad1 := by
  unfold IsEnv at h; subst h; unfold Step; kernel_rfl
end Go.Proofs.Qxb6500274aGreat
