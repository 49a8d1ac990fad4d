import Derived.Test.Qxb6500274aGreatWEnvFl
import Derived.Tactics
import Derived.Tactics2
import Derived.Recover
set_option linter.unusedSimpArgs false
namespace Go.Proofs.Qxb6500274aGreat
open Go Go.Sx
theorem mixed : Tryz.prog.follows .mixedOrders = true := by kernel_rfl

set_option maxHeartbeats 1000000 in
theorem calm34 (args : Array Value) (w : World) : CallsD Tryz.prog 34 args .returning w (fun e u' w' => (∃ v, e = .returned v) ∧ u' = .returning ∧ sameWorld w w') := by
  refine callsD_of_wpS Tryz.func34 rfl ?_
  intro c₀ cs hu
  have hT : 21 ≤ (args ++ Array.replicate (Tryz.f34.ntmps - args.size) undef).size := by
    simp [Tryz.ntmps34]; omega
  generalize args ++ Array.replicate (Tryz.f34.ntmps - args.size) undef = T at hT
  refine wpS_seq (wpS_region ?_)
  have s3 : 3 < T.size := by omega
  have s6 : 6 < T.size := by omega
  have s7 : 7 < T.size := by omega
  have s8 : 8 < T.size := by omega
  simp [wpOpsS, go_sem, recoverD, hu, Exit.thenS, s3, s6]
  refine wpS_seq (wpS_seq (wpS_region ?_))
  simp [wpOpsS, go_sem, Exit.thenS, s3, s6, s7, s8]
  refine wpS_cond (t := true) (by simp [Act.eval, s8]) ?_
  refine wpS_of_wp (wp_ret ?_)
  cases c₀
  simp_all [bodyPostS, results, Tryz.results34, sameWorld, Exit.thenS]
end Go.Proofs.Qxb6500274aGreat
