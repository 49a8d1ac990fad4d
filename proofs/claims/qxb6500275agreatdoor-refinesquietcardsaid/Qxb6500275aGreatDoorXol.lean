import Derived.Test.Qxb6500275aGreatDoorXog
import Derived.Test.Qxb6500275aGreatDoorXoa
import Derived.Test.Qxb6500275aGreatDoorXo9
import Derived.Test.Qxb6500275aGreatDoorXob
import Derived.Test.Qxb6500275aGreatDoorXo7
set_option maxRecDepth 100000
set_option linter.unusedVariables false
set_option linter.unusedSimpArgs false
namespace Go.Proofs.Qxb6500275aGreatDoor
open Go Go.RowKit
section
variable {w0 w u : World} {N0 N : EN} {q : MQ} {g cap : Nat} {q0 q1 : List (MF × FT3)} {x b : MF × FT3} {num : NumF0}
set_option maxHeartbeats 16000000 in
theorem dd_32 (h : Ew w0 N0 w N q g cap q0 x) (hB : FB x.1) {y : Fn × Value × Value} {X Y : Int} (hx : u32R X) (hy : u64R Y) {e : Nat} {q' : MQ} (hr : deedM num N.m.mod y.1 q ⟨32, X, Y⟩ = some (e, q')) :
    Calls Tryz.prog 261 #[.pointer (some ⟨N.xb, 0, none⟩), .pointer (some ⟨g, q0.length * 5, none⟩), y.2.1, .agg #[.int .u8 32, .int .u32 X, .int .u64 Y]] w (Ez w0 N0 (e : Int) q') := by
  unfold deedM at hr
  rw [h.fr] at hr
  dsimp only at hr
  obtain ⟨n, hnn⟩ : ∃ n, q0.length = n := ⟨_, rfl⟩
  have HNN : Hid (q0.length = n) := hnn
  rw [hnn]
  obtain ⟨yb, hyb⟩ : ∃ v, y.2.1 = v := ⟨_, rfl⟩
  have HYB : Hid _ := hyb
  rw [hyb]
  have HW : Hid (Ew w0 N0 w N q g cap q0 x) := h
  have HB : Hid _ := hB
  have HAL : Hid (∀ U, Kp (fun _ => False) w U → Ew w0 N0 U N q g cap q0 x) := fun U hU => h.quiet hU
  iterate 11 rw [if_neg (by decide)] at hr
  rw [if_pos (by decide)] at hr
  unfold localM at hr
  dsimp only at hr
  cases hl : x.1.loc[X.toNat]? with
  | none => rw [hl] at hr; simp at hr
  | some lv =>
  rw [hl] at hr
  dsimp only at hr
  rw [if_pos rfl] at hr
  cases hpu : pushM x.1 lv with
  | none => rw [hpu] at hr; simp [layM] at hr
  | some r1 =>
  rw [hpu] at hr
  simp [layM] at hr
  obtain ⟨rfl, hq⟩ := hr
  have HQ : Hid _ := hq
  have hlv := hB.ok lv (.inl (List.mem_of_getElem? hl))
  have HC : Hid (∀ U, Kp (fun _ => False) w U → Calls Tryz.prog 275 #[.pointer (some ⟨g, n * 5, none⟩), .agg #[.int .u8 32, .int .u32 X, .int .u64 Y]] U (fun en u => en = .returned (.int .i64 0) ∧ ∃ t', Fkm U u N.vf q0 x r1 t')) := fun U hU => by
    have := lget_m (HAL.out U hU).fk (HAL.out U hU).vf (i := ⟨32, X, Y⟩) rfl hx (by have := hB.loc; omega) hl hpu hlv.1 hlv.2
    rw [hnn] at this
    exact this
  clear h hB hnn hyb hl hpu hq hlv
  go_enter Tryz.func261, Tryz.ntmps261
  go_wp2_with fail
  refine (HC.out _ ((Kp.refl _ _).alloc _)).mono ?_
  rintro en U1 ⟨rfl, t', hF⟩
  have HE : Hid _ := (HAL.out _ ((Kp.refl _ _).alloc _)).setTop hF
  clear hF
  go_wp2
  go_ret
  rw [← HQ.out]
  exact ⟨rfl, _, HE.out.end_⟩
end
end Go.Proofs.Qxb6500275aGreatDoor
