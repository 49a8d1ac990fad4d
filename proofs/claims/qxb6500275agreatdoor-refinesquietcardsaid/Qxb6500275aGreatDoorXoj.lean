import Derived.Test.Qxb6500275aGreatDoorXog
import Derived.Test.Qxb6500275aGreatDoorXoa
import Derived.Test.Qxb6500275aGreatDoorXo9
import Derived.Test.Qxb6500275aGreatDoorXob
import Derived.Test.Qxb6500275aGreatDoorXo7
set_option maxRecDepth 100000
set_option linter.unusedVariables false
set_option linter.unusedSimpArgs false
namespace Go.Proofs.Qxb6500275aGreatDoor
open Go Go.RowKit
section
variable {w0 w u : World} {N0 N : EN} {q : MQ} {g cap : Nat} {q0 q1 : List (MF × FT3)} {x b : MF × FT3} {num : NumF0}
set_option maxHeartbeats 16000000 in
theorem dd_65 (h : Ew w0 N0 w N q g cap q0 x) (hB : FB x.1) {y : Fn × Value × Value} {X Y : Int} (hx : u32R X) (hy : u64R Y) {e : Nat} {q' : MQ} (hr : deedM num N.m.mod y.1 q ⟨65, X, Y⟩ = some (e, q')) :
    Calls Tryz.prog 261 #[.pointer (some ⟨N.xb, 0, none⟩), .pointer (some ⟨g, q0.length * 5, none⟩), y.2.1, .agg #[.int .u8 65, .int .u32 X, .int .u64 Y]] w (Ez w0 N0 (e : Int) q') := by
  unfold deedM at hr
  rw [h.fr] at hr
  dsimp only at hr
  obtain ⟨n, hnn⟩ : ∃ n, q0.length = n := ⟨_, rfl⟩
  have HNN : Hid (q0.length = n) := hnn
  rw [hnn]
  obtain ⟨yb, hyb⟩ : ∃ v, y.2.1 = v := ⟨_, rfl⟩
  have HYB : Hid _ := hyb
  rw [hyb]
  have HW : Hid (Ew w0 N0 w N q g cap q0 x) := h
  have HB : Hid _ := hB
  have HAL : Hid (∀ U, Kp (fun _ => False) w U → Ew w0 N0 U N q g cap q0 x) := fun U hU => h.quiet hU
  iterate 14 rw [if_neg (by decide)] at hr
  rw [if_pos (by decide)] at hr
  cases hp : pushM x.1 ⟨127, Y.toNat⟩ with
  | none =>
    have hr2 : layM q (pushM x.1 ⟨127, Y.toNat⟩) = some (e, q') := hr
    rw [hp] at hr2; simp [layM] at hr2
  | some r1 =>
  have hr2 : layM q (pushM x.1 ⟨127, Y.toNat⟩) = some (e, q') := hr
  rw [hp] at hr2
  simp [layM] at hr2
  obtain ⟨rfl, hq⟩ := hr2
  have HQ : Hid _ := hq
  obtain ⟨yn, rfl⟩ : ∃ f : Nat, Y = (f : Int) := ⟨Y.toNat, by have := hy.1; omega⟩
  rw [show ((yn : Int)).toNat = yn from rfl] at hp
  have hyn : yn < 18446744073709551616 := by have := hy.2; omega
  have HP : Hid (∀ U, Kp (fun _ => False) w U → Calls Tryz.prog 271 #[.pointer (some ⟨g, n * 5, none⟩), .int .u8 127, .int .u64 (yn : Int)] U (fun en u => en = .returned (.bool true) ∧ ∃ t', Fkm U u N.vf q0 x r1 t')) := fun U hU => by
    have := push_w (HAL.out U hU) hp (by dsimp only; omega) (by dsimp only; omega)
    rw [HNN.out] at this
    exact this
  have HS := fun w => stuck_m true w
  clear hr h hB hnn hyb hp hq
  go_enter Tryz.func261, Tryz.ntmps261
  go_wp2_with fail
  refine (HP.out _ ((Kp.refl _ _).alloc _)).mono ?_
  rintro en U1 ⟨rfl, t', hF⟩
  have HE : Hid _ := (HAL.out _ ((Kp.refl _ _).alloc _)).setTop hF
  clear hF
  go_wp2_with fail
  refine (HS _).mono ?_
  rintro en u9 ⟨rfl, rfl⟩
  go_wp2
  go_ret
  rw [← HQ.out]
  exact ⟨rfl, _, HE.out.end_⟩
set_option maxHeartbeats 16000000 in
theorem dd_66 (h : Ew w0 N0 w N q g cap q0 x) (hB : FB x.1) {y : Fn × Value × Value} {X Y : Int} (hx : u32R X) (hy : u64R Y) {e : Nat} {q' : MQ} (hr : deedM num N.m.mod y.1 q ⟨66, X, Y⟩ = some (e, q')) :
    Calls Tryz.prog 261 #[.pointer (some ⟨N.xb, 0, none⟩), .pointer (some ⟨g, q0.length * 5, none⟩), y.2.1, .agg #[.int .u8 66, .int .u32 X, .int .u64 Y]] w (Ez w0 N0 (e : Int) q') := by
  unfold deedM at hr
  rw [h.fr] at hr
  dsimp only at hr
  obtain ⟨n, hnn⟩ : ∃ n, q0.length = n := ⟨_, rfl⟩
  have HNN : Hid (q0.length = n) := hnn
  rw [hnn]
  obtain ⟨yb, hyb⟩ : ∃ v, y.2.1 = v := ⟨_, rfl⟩
  have HYB : Hid _ := hyb
  rw [hyb]
  have HW : Hid (Ew w0 N0 w N q g cap q0 x) := h
  have HB : Hid _ := hB
  have HAL : Hid (∀ U, Kp (fun _ => False) w U → Ew w0 N0 U N q g cap q0 x) := fun U hU => h.quiet hU
  iterate 14 rw [if_neg (by decide)] at hr
  rw [if_pos (by decide)] at hr
  cases hp : pushM x.1 ⟨126, Y.toNat⟩ with
  | none =>
    have hr2 : layM q (pushM x.1 ⟨126, Y.toNat⟩) = some (e, q') := hr
    rw [hp] at hr2; simp [layM] at hr2
  | some r1 =>
  have hr2 : layM q (pushM x.1 ⟨126, Y.toNat⟩) = some (e, q') := hr
  rw [hp] at hr2
  simp [layM] at hr2
  obtain ⟨rfl, hq⟩ := hr2
  have HQ : Hid _ := hq
  obtain ⟨yn, rfl⟩ : ∃ f : Nat, Y = (f : Int) := ⟨Y.toNat, by have := hy.1; omega⟩
  rw [show ((yn : Int)).toNat = yn from rfl] at hp
  have hyn : yn < 18446744073709551616 := by have := hy.2; omega
  have HP : Hid (∀ U, Kp (fun _ => False) w U → Calls Tryz.prog 271 #[.pointer (some ⟨g, n * 5, none⟩), .int .u8 126, .int .u64 (yn : Int)] U (fun en u => en = .returned (.bool true) ∧ ∃ t', Fkm U u N.vf q0 x r1 t')) := fun U hU => by
    have := push_w (HAL.out U hU) hp (by dsimp only; omega) (by dsimp only; omega)
    rw [HNN.out] at this
    exact this
  have HS := fun w => stuck_m true w
  clear hr h hB hnn hyb hp hq
  go_enter Tryz.func261, Tryz.ntmps261
  go_wp2_with fail
  refine (HP.out _ ((Kp.refl _ _).alloc _)).mono ?_
  rintro en U1 ⟨rfl, t', hF⟩
  have HE : Hid _ := (HAL.out _ ((Kp.refl _ _).alloc _)).setTop hF
  clear hF
  go_wp2_with fail
  refine (HS _).mono ?_
  rintro en u9 ⟨rfl, rfl⟩
  go_wp2
  go_ret
  rw [← HQ.out]
  exact ⟨rfl, _, HE.out.end_⟩
set_option maxHeartbeats 16000000 in
theorem dd_67 (h : Ew w0 N0 w N q g cap q0 x) (hB : FB x.1) {y : Fn × Value × Value} {X Y : Int} (hx : u32R X) (hy : u64R Y) {e : Nat} {q' : MQ} (hr : deedM num N.m.mod y.1 q ⟨67, X, Y⟩ = some (e, q')) :
    Calls Tryz.prog 261 #[.pointer (some ⟨N.xb, 0, none⟩), .pointer (some ⟨g, q0.length * 5, none⟩), y.2.1, .agg #[.int .u8 67, .int .u32 X, .int .u64 Y]] w (Ez w0 N0 (e : Int) q') := by
  unfold deedM at hr
  rw [h.fr] at hr
  dsimp only at hr
  obtain ⟨n, hnn⟩ : ∃ n, q0.length = n := ⟨_, rfl⟩
  have HNN : Hid (q0.length = n) := hnn
  rw [hnn]
  obtain ⟨yb, hyb⟩ : ∃ v, y.2.1 = v := ⟨_, rfl⟩
  have HYB : Hid _ := hyb
  rw [hyb]
  have HW : Hid (Ew w0 N0 w N q g cap q0 x) := h
  have HB : Hid _ := hB
  have HAL : Hid (∀ U, Kp (fun _ => False) w U → Ew w0 N0 U N q g cap q0 x) := fun U hU => h.quiet hU
  iterate 14 rw [if_neg (by decide)] at hr
  rw [if_pos (by decide)] at hr
  cases hp : pushM x.1 ⟨125, Y.toNat⟩ with
  | none =>
    have hr2 : layM q (pushM x.1 ⟨125, Y.toNat⟩) = some (e, q') := hr
    rw [hp] at hr2; simp [layM] at hr2
  | some r1 =>
  have hr2 : layM q (pushM x.1 ⟨125, Y.toNat⟩) = some (e, q') := hr
  rw [hp] at hr2
  simp [layM] at hr2
  obtain ⟨rfl, hq⟩ := hr2
  have HQ : Hid _ := hq
  obtain ⟨yn, rfl⟩ : ∃ f : Nat, Y = (f : Int) := ⟨Y.toNat, by have := hy.1; omega⟩
  rw [show ((yn : Int)).toNat = yn from rfl] at hp
  have hyn : yn < 18446744073709551616 := by have := hy.2; omega
  have HP : Hid (∀ U, Kp (fun _ => False) w U → Calls Tryz.prog 271 #[.pointer (some ⟨g, n * 5, none⟩), .int .u8 125, .int .u64 (yn : Int)] U (fun en u => en = .returned (.bool true) ∧ ∃ t', Fkm U u N.vf q0 x r1 t')) := fun U hU => by
    have := push_w (HAL.out U hU) hp (by dsimp only; omega) (by dsimp only; omega)
    rw [HNN.out] at this
    exact this
  have HS := fun w => stuck_m true w
  clear hr h hB hnn hyb hp hq
  go_enter Tryz.func261, Tryz.ntmps261
  go_wp2_with fail
  refine (HP.out _ ((Kp.refl _ _).alloc _)).mono ?_
  rintro en U1 ⟨rfl, t', hF⟩
  have HE : Hid _ := (HAL.out _ ((Kp.refl _ _).alloc _)).setTop hF
  clear hF
  go_wp2_with fail
  refine (HS _).mono ?_
  rintro en u9 ⟨rfl, rfl⟩
  go_wp2
  go_ret
  rw [← HQ.out]
  exact ⟨rfl, _, HE.out.end_⟩
set_option maxHeartbeats 16000000 in
theorem dd_68 (h : Ew w0 N0 w N q g cap q0 x) (hB : FB x.1) {y : Fn × Value × Value} {X Y : Int} (hx : u32R X) (hy : u64R Y) {e : Nat} {q' : MQ} (hr : deedM num N.m.mod y.1 q ⟨68, X, Y⟩ = some (e, q')) :
    Calls Tryz.prog 261 #[.pointer (some ⟨N.xb, 0, none⟩), .pointer (some ⟨g, q0.length * 5, none⟩), y.2.1, .agg #[.int .u8 68, .int .u32 X, .int .u64 Y]] w (Ez w0 N0 (e : Int) q') := by
  unfold deedM at hr
  rw [h.fr] at hr
  dsimp only at hr
  obtain ⟨n, hnn⟩ : ∃ n, q0.length = n := ⟨_, rfl⟩
  have HNN : Hid (q0.length = n) := hnn
  rw [hnn]
  obtain ⟨yb, hyb⟩ : ∃ v, y.2.1 = v := ⟨_, rfl⟩
  have HYB : Hid _ := hyb
  rw [hyb]
  have HW : Hid (Ew w0 N0 w N q g cap q0 x) := h
  have HB : Hid _ := hB
  have HAL : Hid (∀ U, Kp (fun _ => False) w U → Ew w0 N0 U N q g cap q0 x) := fun U hU => h.quiet hU
  iterate 14 rw [if_neg (by decide)] at hr
  rw [if_pos (by decide)] at hr
  cases hp : pushM x.1 ⟨124, Y.toNat⟩ with
  | none =>
    have hr2 : layM q (pushM x.1 ⟨124, Y.toNat⟩) = some (e, q') := hr
    rw [hp] at hr2; simp [layM] at hr2
  | some r1 =>
  have hr2 : layM q (pushM x.1 ⟨124, Y.toNat⟩) = some (e, q') := hr
  rw [hp] at hr2
  simp [layM] at hr2
  obtain ⟨rfl, hq⟩ := hr2
  have HQ : Hid _ := hq
  obtain ⟨yn, rfl⟩ : ∃ f : Nat, Y = (f : Int) := ⟨Y.toNat, by have := hy.1; omega⟩
  rw [show ((yn : Int)).toNat = yn from rfl] at hp
  have hyn : yn < 18446744073709551616 := by have := hy.2; omega
  have HP : Hid (∀ U, Kp (fun _ => False) w U → Calls Tryz.prog 271 #[.pointer (some ⟨g, n * 5, none⟩), .int .u8 124, .int .u64 (yn : Int)] U (fun en u => en = .returned (.bool true) ∧ ∃ t', Fkm U u N.vf q0 x r1 t')) := fun U hU => by
    have := push_w (HAL.out U hU) hp (by dsimp only; omega) (by dsimp only; omega)
    rw [HNN.out] at this
    exact this
  have HS := fun w => stuck_m true w
  clear hr h hB hnn hyb hp hq
  go_enter Tryz.func261, Tryz.ntmps261
  go_wp2_with fail
  refine (HP.out _ ((Kp.refl _ _).alloc _)).mono ?_
  rintro en U1 ⟨rfl, t', hF⟩
  have HE : Hid _ := (HAL.out _ ((Kp.refl _ _).alloc _)).setTop hF
  clear hF
  go_wp2_with fail
  refine (HS _).mono ?_
  rintro en u9 ⟨rfl, rfl⟩
  go_wp2
  go_ret
  rw [← HQ.out]
  exact ⟨rfl, _, HE.out.end_⟩
end
end Go.Proofs.Qxb6500275aGreatDoor
