import Derived.Test.Qxb6500274aGreatWKs
set_option maxRecDepth 100000
namespace Go.Proofs.Qxb6500274aGreat
open Go Go.Sx
theorem wmove_3_1 (E : Env) (h : IsEnv E) : MoveOK E 3 1 := by
  unfold IsEnv at h; subst h; unfold MoveOK; kernel_rfl
theorem wmove_3_2 (E : Env) (h : IsEnv E) : MoveOK E 3 2 := by
  unfold IsEnv at h; subst h; unfold MoveOK; kernel_rfl
theorem wmove_3_3 (E : Env) (h : IsEnv E) : MoveOK E 3 3 := by
  unfold IsEnv at h; subst h; unfold MoveOK; kernel_rfl
theorem wmove_4_0 (E : Env) (h : IsEnv E) : MoveOK E 4 0 := by
  unfold IsEnv at h; subst h; unfold MoveOK; kernel_rfl
theorem wmove_4_1 (E : Env) (h : IsEnv E) : MoveOK E 4 1 := by
  unfold IsEnv at h; subst h; unfold MoveOK; kernel_rfl
theorem wmove_4_2 (E : Env) (h : IsEnv E) : MoveOK E 4 2 := by
  unfold IsEnv at h; subst h; unfold MoveOK; kernel_rfl
theorem wmove_5_0 (E : Env) (h : IsEnv E) : MoveOK E 5 0 := by
  unfold IsEnv at h; subst h; unfold MoveOK; kernel_rfl
end Go.Proofs.Qxb6500274aGreat
