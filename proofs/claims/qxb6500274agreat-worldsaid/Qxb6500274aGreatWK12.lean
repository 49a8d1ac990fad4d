import Derived.Test.Qxb6500274aGreatWKs
set_option maxRecDepth 100000
namespace Go.Proofs.Qxb6500274aGreat
open Go Go.Sx
theorem wmove_1_5 (E : Env) (h : IsEnv E) : MoveOK E 1 5 := by
  unfold IsEnv at h; subst h; unfold MoveOK; kernel_rfl
theorem wmove_2_0 (E : Env) (h : IsEnv E) : MoveOK E 2 0 := by
  unfold IsEnv at h; subst h; unfold MoveOK; kernel_rfl
theorem wmove_2_1 (E : Env) (h : IsEnv E) : MoveOK E 2 1 := by
  unfold IsEnv at h; subst h; unfold MoveOK; kernel_rfl
theorem wmove_2_2 (E : Env) (h : IsEnv E) : MoveOK E 2 2 := by
  unfold IsEnv at h; subst h; unfold MoveOK; kernel_rfl
theorem wmove_2_3 (E : Env) (h : IsEnv E) : MoveOK E 2 3 := by
  unfold IsEnv at h; subst h; unfold MoveOK; kernel_rfl
theorem wmove_2_4 (E : Env) (h : IsEnv E) : MoveOK E 2 4 := by
  unfold IsEnv at h; subst h; unfold MoveOK; kernel_rfl
theorem wmove_3_0 (E : Env) (h : IsEnv E) : MoveOK E 3 0 := by
  unfold IsEnv at h; subst h; unfold MoveOK; kernel_rfl
end Go.Proofs.Qxb6500274aGreat
