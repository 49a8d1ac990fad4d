import Derived.Test.Qxb6500275aGreatDoorBd3
set_option maxRecDepth 100000
set_option linter.unusedVariables false
set_option linter.unusedSimpArgs false
namespace Go.Proofs.Qxb6500275aGreatDoor
open Go Go.RowKit
/- THE MODEL'S DECODER, WHOLE -/
theorem decode_m (w : World) (s : ByteArray) (rv : Value) (hs : s.size ≤ 4611686018427387904) : Calls Tryz.prog 132 #[rv, .string s] w (DmP (decodeS s) s w) := by
  by_cases h1 : 1024 < s.size
  · exact decode_big h1 hs
  by_cases h2 : s.size < 8
  · exact decode_small h2
  cases hm : ((s.extract 0 8).toList == [0, 97, 115, 109, 1, 0, 0, 0]) with
  | true => exact decode_go (by omega) (by omega) hm
  | false => exact decode_magic (by omega) (by omega) hm
theorem bmNew_m (w : World) : Calls Tryz.prog 131 #[] w (fun en w' => ∃ v, en = .returned v ∧ Kp (fun _ => False) w w') := by
  go_enter Tryz.func131, Tryz.ntmps131
  go_wp2
  go_ret
  exact ⟨_, rfl, by repeat (first | exact Kp.refl _ _ | refine Kp.alloc ?_ _)⟩
theorem vmNew_m (w : World) : Calls Tryz.prog 133 #[] w (fun en w' => ∃ v, en = .returned v ∧ Kp (fun _ => False) w w') := by
  go_enter Tryz.func133, Tryz.ntmps133
  go_wp2
  go_ret
  exact ⟨_, rfl, by repeat (first | exact Kp.refl _ _ | refine Kp.alloc ?_ _)⟩
end Go.Proofs.Qxb6500275aGreatDoor
