import Derived.Test.Qxb6500274aGreatKs
set_option maxRecDepth 100000
namespace Go.Proofs.Qxb6500274aGreat
open Go Go.Sx
theorem ko168 (E : Env) (h : IsEnv E) : Step E backBoth zBoth (kI 7) (kI 168) [] [] [] := by
  unfold IsEnv at h; subst h; unfold Step; kernel_rfl
theorem ko169 (E : Env) (h : IsEnv E) : Step E backBoth zBoth (kI 7) (kI 169) [] [] [] := by
  unfold IsEnv at h; subst h; unfold Step; kernel_rfl
theorem ko170 (E : Env) (h : IsEnv E) : Step E backBoth zBoth (kI 7) (kI 170) [] [] [] := by
  unfold IsEnv at h; subst h; unfold Step; kernel_rfl
theorem ko171 (E : Env) (h : IsEnv E) : Step E backBoth zBoth (kI 7) (kI 171) [] [] [] := by
  unfold IsEnv at h; subst h; unfold Step; kernel_rfl
theorem ko172 (E : Env) (h : IsEnv E) : Step E backBoth zBoth (kI 7) (kI 172) [] [] [] := by
  unfold IsEnv at h; subst h; unfold Step; kernel_rfl
theorem ko173 (E : Env) (h : IsEnv E) : Step E backBoth zBoth (kI 7) (kI 173) [] [] [] := by
  unfold IsEnv at h; subst h; unfold Step; kernel_rfl
theorem ko174 (E : Env) (h : IsEnv E) : Step E backBoth zBoth (kI 7) (kI 174) [] [] [] := by
  unfold IsEnv at h; subst h; unfold Step; kernel_rfl
theorem ko175 (E : Env) (h : IsEnv E) : Step E backBoth zBoth (kI 7) (kI 175) [] [] [] := by
  unfold IsEnv at h; subst h; unfold Step; kernel_rfl
theorem ko176 (E : Env) (h : IsEnv E) : Step E backBoth zBoth (kI 7) (kI 176) [] [] [] := by
  unfold IsEnv at h; subst h; unfold Step; kernel_rfl
end Go.Proofs.Qxb6500274aGreat
