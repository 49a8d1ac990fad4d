import Derived.Test.Qxb6500275aGreatDoorXog
import Derived.Test.Qxb6500275aGreatDoorXoa
import Derived.Test.Qxb6500275aGreatDoorXo9
import Derived.Test.Qxb6500275aGreatDoorXob
import Derived.Test.Qxb6500275aGreatDoorXo7
set_option maxRecDepth 100000
set_option linter.unusedVariables false
set_option linter.unusedSimpArgs false
namespace Go.Proofs.Qxb6500275aGreatDoor
open Go Go.RowKit
section
variable {w0 w u : World} {N0 N : EN} {q : MQ} {g cap : Nat} {q0 q1 : List (MF × FT3)} {x b : MF × FT3} {num : NumF0}
set_option maxHeartbeats 16000000 in
theorem dd_load (h : Ew w0 N0 w N q g cap q0 x) (hB : FB x.1) {y : Fn × Value × Value} {X Y : Int} {op : Nat} (hn : q0.length ≤ 10) (hS : SmOk q.S) (hm0 : ¬ N.m.mod.memMin < 0) (hmr : limR N.m.mod.memMin) (ho : 40 ≤ op ∧ op ≤ 53) (hx : u32R X) (hy : u64R Y) {e : Nat} {q' : MQ} (hr : deedM num N.m.mod y.1 q ⟨op, X, Y⟩ = some (e, q')) :
    Calls Tryz.prog 261 #[.pointer (some ⟨N.xb, 0, none⟩), .pointer (some ⟨g, q0.length * 5, none⟩), y.2.1, .agg #[.int .u8 op, .int .u32 X, .int .u64 Y]] w (Ez w0 N0 (e : Int) q') := by
  unfold deedM at hr
  rw [h.fr] at hr
  dsimp only at hr
  obtain ⟨n, hnn⟩ : ∃ n, q0.length = n := ⟨_, rfl⟩
  have HNN : Hid (q0.length = n) := hnn
  rw [hnn]
  obtain ⟨yb, hyb⟩ : ∃ v, y.2.1 = v := ⟨_, rfl⟩
  have HYB : Hid _ := hyb
  rw [hyb]
  have HW : Hid (Ew w0 N0 w N q g cap q0 x) := h
  have HB : Hid _ := hB
  have HAL : Hid (∀ U, Kp (fun _ => False) w U → Ew w0 N0 U N q g cap q0 x) := fun U hU => h.quiet hU
  iterate 11 rw [if_neg (by omega)] at hr
  rw [if_neg (show ¬ (32 ≤ op ∧ op ≤ 34) by omega), if_neg (show ¬ (op = 35 ∨ op = 36) by omega), if_pos (show 40 ≤ op ∧ op ≤ 64 by omega)] at hr
  have HC : Hid (∀ U, Kp (fun _ => False) w U → Calls Tryz.prog 277 #[.pointer (some ⟨N.xb, 0, none⟩), .pointer (some ⟨g, n * 5, none⟩), .agg #[.int .u8 (op : Int), .int .u32 X, .int .u64 Y]] U (Ez w0 N0 (e : Int) q')) := fun U hU => by
    have := mload_w (HAL.out U hU) hB hn hS hm0 hmr ho hx hy hr
    rw [hnn] at this
    exact this
  have t0 : ((op : Int) == 0) = false := by rw [beq_eq_false_iff_ne]; omega
  have t1 : ((op : Int) == 1) = false := by rw [beq_eq_false_iff_ne]; omega
  have t4 : ((op : Int) == 4) = false := by rw [beq_eq_false_iff_ne]; omega
  have t12 : ((op : Int) == 12) = false := by rw [beq_eq_false_iff_ne]; omega
  have t13 : ((op : Int) == 13) = false := by rw [beq_eq_false_iff_ne]; omega
  have t14 : ((op : Int) == 14) = false := by rw [beq_eq_false_iff_ne]; omega
  have t15 : ((op : Int) == 15) = false := by rw [beq_eq_false_iff_ne]; omega
  have t16 : ((op : Int) == 16) = false := by rw [beq_eq_false_iff_ne]; omega
  have t17 : ((op : Int) == 17) = false := by rw [beq_eq_false_iff_ne]; omega
  have t26 : ((op : Int) == 26) = false := by rw [beq_eq_false_iff_ne]; omega
  have t27 : ((op : Int) == 27) = false := by rw [beq_eq_false_iff_ne]; omega
  have t35 : ((op : Int) == 35) = false := by rw [beq_eq_false_iff_ne]; omega
  have t36 : ((op : Int) == 36) = false := by rw [beq_eq_false_iff_ne]; omega
  have lo : (40 : Int) ≤ (op : Int) := by omega
  have hi : (op : Int) ≤ 64 := by omega
  clear hr h hB hnn hyb hS hm0 hmr ho
  go_enter Tryz.func261, Tryz.ntmps261
  go_wp2_with fail
  refine (HC.out _ ((Kp.refl _ _).alloc _)).mono ?_
  rintro en u9 ⟨rfl, HZ⟩
  go_wp2
  go_ret
  exact ⟨rfl, HZ⟩
set_option maxHeartbeats 16000000 in
theorem dd_store (h : Ew w0 N0 w N q g cap q0 x) (hB : FB x.1) {y : Fn × Value × Value} {X Y : Int} {op : Nat} (hn : q0.length ≤ 10) (hS : SmOk q.S) (hm0 : ¬ N.m.mod.memMin < 0) (hmr : limR N.m.mod.memMin) (ho : 54 ≤ op ∧ op ≤ 62) (hx : u32R X) (hy : u64R Y) {e : Nat} {q' : MQ} (hr : deedM num N.m.mod y.1 q ⟨op, X, Y⟩ = some (e, q')) :
    Calls Tryz.prog 261 #[.pointer (some ⟨N.xb, 0, none⟩), .pointer (some ⟨g, q0.length * 5, none⟩), y.2.1, .agg #[.int .u8 op, .int .u32 X, .int .u64 Y]] w (Ez w0 N0 (e : Int) q') := by
  unfold deedM at hr
  rw [h.fr] at hr
  dsimp only at hr
  obtain ⟨n, hnn⟩ : ∃ n, q0.length = n := ⟨_, rfl⟩
  have HNN : Hid (q0.length = n) := hnn
  rw [hnn]
  obtain ⟨yb, hyb⟩ : ∃ v, y.2.1 = v := ⟨_, rfl⟩
  have HYB : Hid _ := hyb
  rw [hyb]
  have HW : Hid (Ew w0 N0 w N q g cap q0 x) := h
  have HB : Hid _ := hB
  have HAL : Hid (∀ U, Kp (fun _ => False) w U → Ew w0 N0 U N q g cap q0 x) := fun U hU => h.quiet hU
  iterate 11 rw [if_neg (by omega)] at hr
  rw [if_neg (show ¬ (32 ≤ op ∧ op ≤ 34) by omega), if_neg (show ¬ (op = 35 ∨ op = 36) by omega), if_pos (show 40 ≤ op ∧ op ≤ 64 by omega)] at hr
  have HC : Hid (∀ U, Kp (fun _ => False) w U → Calls Tryz.prog 277 #[.pointer (some ⟨N.xb, 0, none⟩), .pointer (some ⟨g, n * 5, none⟩), .agg #[.int .u8 (op : Int), .int .u32 X, .int .u64 Y]] U (Ez w0 N0 (e : Int) q')) := fun U hU => by
    have := mstore_w (HAL.out U hU) hB hn hS hm0 hmr ho hx hy hr
    rw [hnn] at this
    exact this
  have t0 : ((op : Int) == 0) = false := by rw [beq_eq_false_iff_ne]; omega
  have t1 : ((op : Int) == 1) = false := by rw [beq_eq_false_iff_ne]; omega
  have t4 : ((op : Int) == 4) = false := by rw [beq_eq_false_iff_ne]; omega
  have t12 : ((op : Int) == 12) = false := by rw [beq_eq_false_iff_ne]; omega
  have t13 : ((op : Int) == 13) = false := by rw [beq_eq_false_iff_ne]; omega
  have t14 : ((op : Int) == 14) = false := by rw [beq_eq_false_iff_ne]; omega
  have t15 : ((op : Int) == 15) = false := by rw [beq_eq_false_iff_ne]; omega
  have t16 : ((op : Int) == 16) = false := by rw [beq_eq_false_iff_ne]; omega
  have t17 : ((op : Int) == 17) = false := by rw [beq_eq_false_iff_ne]; omega
  have t26 : ((op : Int) == 26) = false := by rw [beq_eq_false_iff_ne]; omega
  have t27 : ((op : Int) == 27) = false := by rw [beq_eq_false_iff_ne]; omega
  have t35 : ((op : Int) == 35) = false := by rw [beq_eq_false_iff_ne]; omega
  have t36 : ((op : Int) == 36) = false := by rw [beq_eq_false_iff_ne]; omega
  have lo : (40 : Int) ≤ (op : Int) := by omega
  have hi : (op : Int) ≤ 64 := by omega
  clear hr h hB hnn hyb hS hm0 hmr ho
  go_enter Tryz.func261, Tryz.ntmps261
  go_wp2_with fail
  refine (HC.out _ ((Kp.refl _ _).alloc _)).mono ?_
  rintro en u9 ⟨rfl, HZ⟩
  go_wp2
  go_ret
  exact ⟨rfl, HZ⟩
set_option maxHeartbeats 16000000 in
theorem dd_size (h : Ew w0 N0 w N q g cap q0 x) (hB : FB x.1) {y : Fn × Value × Value} {X Y : Int} {op : Nat} (hn : q0.length ≤ 10) (hS : SmOk q.S) (hm0 : ¬ N.m.mod.memMin < 0) (hmr : limR N.m.mod.memMin) (ho : op = 63) (hx : u32R X) (hy : u64R Y) {e : Nat} {q' : MQ} (hr : deedM num N.m.mod y.1 q ⟨op, X, Y⟩ = some (e, q')) :
    Calls Tryz.prog 261 #[.pointer (some ⟨N.xb, 0, none⟩), .pointer (some ⟨g, q0.length * 5, none⟩), y.2.1, .agg #[.int .u8 op, .int .u32 X, .int .u64 Y]] w (Ez w0 N0 (e : Int) q') := by
  unfold deedM at hr
  rw [h.fr] at hr
  dsimp only at hr
  obtain ⟨n, hnn⟩ : ∃ n, q0.length = n := ⟨_, rfl⟩
  have HNN : Hid (q0.length = n) := hnn
  rw [hnn]
  obtain ⟨yb, hyb⟩ : ∃ v, y.2.1 = v := ⟨_, rfl⟩
  have HYB : Hid _ := hyb
  rw [hyb]
  have HW : Hid (Ew w0 N0 w N q g cap q0 x) := h
  have HB : Hid _ := hB
  have HAL : Hid (∀ U, Kp (fun _ => False) w U → Ew w0 N0 U N q g cap q0 x) := fun U hU => h.quiet hU
  iterate 11 rw [if_neg (by omega)] at hr
  rw [if_neg (show ¬ (32 ≤ op ∧ op ≤ 34) by omega), if_neg (show ¬ (op = 35 ∨ op = 36) by omega), if_pos (show 40 ≤ op ∧ op ≤ 64 by omega)] at hr
  have HC : Hid (∀ U, Kp (fun _ => False) w U → Calls Tryz.prog 277 #[.pointer (some ⟨N.xb, 0, none⟩), .pointer (some ⟨g, n * 5, none⟩), .agg #[.int .u8 (op : Int), .int .u32 X, .int .u64 Y]] U (Ez w0 N0 (e : Int) q')) := fun U hU => by
    have := msize_w (HAL.out U hU) hB hn hS hm0 hmr ho hx hy hr
    rw [hnn] at this
    exact this
  have t0 : ((op : Int) == 0) = false := by rw [beq_eq_false_iff_ne]; omega
  have t1 : ((op : Int) == 1) = false := by rw [beq_eq_false_iff_ne]; omega
  have t4 : ((op : Int) == 4) = false := by rw [beq_eq_false_iff_ne]; omega
  have t12 : ((op : Int) == 12) = false := by rw [beq_eq_false_iff_ne]; omega
  have t13 : ((op : Int) == 13) = false := by rw [beq_eq_false_iff_ne]; omega
  have t14 : ((op : Int) == 14) = false := by rw [beq_eq_false_iff_ne]; omega
  have t15 : ((op : Int) == 15) = false := by rw [beq_eq_false_iff_ne]; omega
  have t16 : ((op : Int) == 16) = false := by rw [beq_eq_false_iff_ne]; omega
  have t17 : ((op : Int) == 17) = false := by rw [beq_eq_false_iff_ne]; omega
  have t26 : ((op : Int) == 26) = false := by rw [beq_eq_false_iff_ne]; omega
  have t27 : ((op : Int) == 27) = false := by rw [beq_eq_false_iff_ne]; omega
  have t35 : ((op : Int) == 35) = false := by rw [beq_eq_false_iff_ne]; omega
  have t36 : ((op : Int) == 36) = false := by rw [beq_eq_false_iff_ne]; omega
  have lo : (40 : Int) ≤ (op : Int) := by omega
  have hi : (op : Int) ≤ 64 := by omega
  clear hr h hB hnn hyb hS hm0 hmr ho
  go_enter Tryz.func261, Tryz.ntmps261
  go_wp2_with fail
  refine (HC.out _ ((Kp.refl _ _).alloc _)).mono ?_
  rintro en u9 ⟨rfl, HZ⟩
  go_wp2
  go_ret
  exact ⟨rfl, HZ⟩
set_option maxHeartbeats 16000000 in
theorem dd_grow (h : Ew w0 N0 w N q g cap q0 x) (hB : FB x.1) {y : Fn × Value × Value} {X Y : Int} {op : Nat} (hn : q0.length ≤ 10) (hS : SmOk q.S) (hm0 : ¬ N.m.mod.memMin < 0) (hmr : limR N.m.mod.memMin) (ho : op = 64) (hx : u32R X) (hy : u64R Y) {e : Nat} {q' : MQ} (hr : deedM num N.m.mod y.1 q ⟨op, X, Y⟩ = some (e, q')) :
    Calls Tryz.prog 261 #[.pointer (some ⟨N.xb, 0, none⟩), .pointer (some ⟨g, q0.length * 5, none⟩), y.2.1, .agg #[.int .u8 op, .int .u32 X, .int .u64 Y]] w (Ez w0 N0 (e : Int) q') := by
  unfold deedM at hr
  rw [h.fr] at hr
  dsimp only at hr
  obtain ⟨n, hnn⟩ : ∃ n, q0.length = n := ⟨_, rfl⟩
  have HNN : Hid (q0.length = n) := hnn
  rw [hnn]
  obtain ⟨yb, hyb⟩ : ∃ v, y.2.1 = v := ⟨_, rfl⟩
  have HYB : Hid _ := hyb
  rw [hyb]
  have HW : Hid (Ew w0 N0 w N q g cap q0 x) := h
  have HB : Hid _ := hB
  have HAL : Hid (∀ U, Kp (fun _ => False) w U → Ew w0 N0 U N q g cap q0 x) := fun U hU => h.quiet hU
  iterate 11 rw [if_neg (by omega)] at hr
  rw [if_neg (show ¬ (32 ≤ op ∧ op ≤ 34) by omega), if_neg (show ¬ (op = 35 ∨ op = 36) by omega), if_pos (show 40 ≤ op ∧ op ≤ 64 by omega)] at hr
  have HC : Hid (∀ U, Kp (fun _ => False) w U → Calls Tryz.prog 277 #[.pointer (some ⟨N.xb, 0, none⟩), .pointer (some ⟨g, n * 5, none⟩), .agg #[.int .u8 (op : Int), .int .u32 X, .int .u64 Y]] U (Ez w0 N0 (e : Int) q')) := fun U hU => by
    have := mgrow_w (HAL.out U hU) hB hn hS hm0 hmr ho hx hy hr
    rw [hnn] at this
    exact this
  have t0 : ((op : Int) == 0) = false := by rw [beq_eq_false_iff_ne]; omega
  have t1 : ((op : Int) == 1) = false := by rw [beq_eq_false_iff_ne]; omega
  have t4 : ((op : Int) == 4) = false := by rw [beq_eq_false_iff_ne]; omega
  have t12 : ((op : Int) == 12) = false := by rw [beq_eq_false_iff_ne]; omega
  have t13 : ((op : Int) == 13) = false := by rw [beq_eq_false_iff_ne]; omega
  have t14 : ((op : Int) == 14) = false := by rw [beq_eq_false_iff_ne]; omega
  have t15 : ((op : Int) == 15) = false := by rw [beq_eq_false_iff_ne]; omega
  have t16 : ((op : Int) == 16) = false := by rw [beq_eq_false_iff_ne]; omega
  have t17 : ((op : Int) == 17) = false := by rw [beq_eq_false_iff_ne]; omega
  have t26 : ((op : Int) == 26) = false := by rw [beq_eq_false_iff_ne]; omega
  have t27 : ((op : Int) == 27) = false := by rw [beq_eq_false_iff_ne]; omega
  have t35 : ((op : Int) == 35) = false := by rw [beq_eq_false_iff_ne]; omega
  have t36 : ((op : Int) == 36) = false := by rw [beq_eq_false_iff_ne]; omega
  have lo : (40 : Int) ≤ (op : Int) := by omega
  have hi : (op : Int) ≤ 64 := by omega
  clear hr h hB hnn hyb hS hm0 hmr ho
  go_enter Tryz.func261, Tryz.ntmps261
  go_wp2_with fail
  refine (HC.out _ ((Kp.refl _ _).alloc _)).mono ?_
  rintro en u9 ⟨rfl, HZ⟩
  go_wp2
  go_ret
  exact ⟨rfl, HZ⟩
end
end Go.Proofs.Qxb6500275aGreatDoor
