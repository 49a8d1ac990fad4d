import Derived.Test.Qxb6500274aGreatWKs
set_option maxRecDepth 100000
namespace Go.Proofs.Qxb6500274aGreat
open Go Go.Sx
theorem wmove_0_5 (E : Env) (h : IsEnv E) : MoveOK E 0 5 := by
  unfold IsEnv at h; subst h; unfold MoveOK; kernel_rfl
theorem wmove_0_6 (E : Env) (h : IsEnv E) : MoveOK E 0 6 := by
  unfold IsEnv at h; subst h; unfold MoveOK; kernel_rfl
theorem wmove_1_0 (E : Env) (h : IsEnv E) : MoveOK E 1 0 := by
  unfold IsEnv at h; subst h; unfold MoveOK; kernel_rfl
theorem wmove_1_1 (E : Env) (h : IsEnv E) : MoveOK E 1 1 := by
  unfold IsEnv at h; subst h; unfold MoveOK; kernel_rfl
theorem wmove_1_2 (E : Env) (h : IsEnv E) : MoveOK E 1 2 := by
  unfold IsEnv at h; subst h; unfold MoveOK; kernel_rfl
theorem wmove_1_3 (E : Env) (h : IsEnv E) : MoveOK E 1 3 := by
  unfold IsEnv at h; subst h; unfold MoveOK; kernel_rfl
theorem wmove_1_4 (E : Env) (h : IsEnv E) : MoveOK E 1 4 := by
  unfold IsEnv at h; subst h; unfold MoveOK; kernel_rfl
end Go.Proofs.Qxb6500274aGreat
