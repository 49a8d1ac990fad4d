import Derived.Test.Qxb6500274aGreatWLc
set_option maxRecDepth 100000
namespace Go.Proofs.Qxb6500274aGreat
open Go Go.Sx
theorem pc_5 (E : Env) (h : IsEnv E) : pieceOK pz5 pm5 (evN E (callF E 3000 60) 8 3000 [bodyAt Tryz.f8.body [1, 1, 1, 1, 1, 0]] (rX (E.nv 8) (E.long 8)) ⟨pz4.heap, pz4.next, [], []⟩) = true := by
  unfold IsEnv at h; subst h; kernel_rfl
end Go.Proofs.Qxb6500274aGreat
