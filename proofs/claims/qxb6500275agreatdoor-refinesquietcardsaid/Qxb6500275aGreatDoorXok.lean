import Derived.Test.Qxb6500275aGreatDoorXog
import Derived.Test.Qxb6500275aGreatDoorXoa
import Derived.Test.Qxb6500275aGreatDoorXo9
import Derived.Test.Qxb6500275aGreatDoorXob
import Derived.Test.Qxb6500275aGreatDoorXo7
set_option maxRecDepth 100000
set_option linter.unusedVariables false
set_option linter.unusedSimpArgs false
namespace Go.Proofs.Qxb6500275aGreatDoor
open Go Go.RowKit
section
variable {w0 w u : World} {N0 N : EN} {q : MQ} {g cap : Nat} {q0 q1 : List (MF × FT3)} {x b : MF × FT3} {num : NumF0}
set_option maxHeartbeats 16000000 in
theorem dd_33 (h : Ew w0 N0 w N q g cap q0 x) (hB : FB x.1) {y : Fn × Value × Value} {X Y : Int} (hn : q0.length ≤ 10) (hx : u32R X) (hy : u64R Y) {e : Nat} {q' : MQ} (hr : deedM num N.m.mod y.1 q ⟨33, X, Y⟩ = some (e, q')) :
    Calls Tryz.prog 261 #[.pointer (some ⟨N.xb, 0, none⟩), .pointer (some ⟨g, q0.length * 5, none⟩), y.2.1, .agg #[.int .u8 33, .int .u32 X, .int .u64 Y]] w (Ez w0 N0 (e : Int) q') := by
  unfold deedM at hr
  rw [h.fr] at hr
  dsimp only at hr
  obtain ⟨n, hnn⟩ : ∃ n, q0.length = n := ⟨_, rfl⟩
  have HNN : Hid (q0.length = n) := hnn
  rw [hnn]
  obtain ⟨yb, hyb⟩ : ∃ v, y.2.1 = v := ⟨_, rfl⟩
  have HYB : Hid _ := hyb
  rw [hyb]
  have HW : Hid (Ew w0 N0 w N q g cap q0 x) := h
  have HB : Hid _ := hB
  have HAL : Hid (∀ U, Kp (fun _ => False) w U → Ew w0 N0 U N q g cap q0 x) := fun U hU => h.quiet hU
  iterate 11 rw [if_neg (by decide)] at hr
  rw [if_pos (by decide)] at hr
  obtain ⟨k, rfl⟩ : ∃ f : Nat, X = (f : Int) := ⟨X.toNat, by have := hx.1; omega⟩
  unfold localM at hr
  dsimp only at hr
  rw [show ((k : Int)).toNat = k from rfl] at hr
  cases hl : x.1.loc[k]? with
  | none => rw [hl] at hr; simp at hr
  | some lv =>
  rw [hl] at hr
  dsimp only at hr
  rw [if_neg (by decide)] at hr
  cases hp : popM x.1 lv.t with
  | none => rw [hp] at hr; simp at hr
  | some pr =>
  obtain ⟨v, r1⟩ := pr
  rw [hp] at hr
  dsimp only at hr
  rw [if_neg (by decide)] at hr
  simp at hr
  obtain ⟨rfl, hq⟩ := hr
  have HC : Hid (∀ U, Kp (fun _ => False) w U → Calls Tryz.prog 275 #[.pointer (some ⟨g, n * 5, none⟩), .agg #[.int .u8 33, .int .u32 (k : Int), .int .u64 Y]] U (Ez w0 N0 0 q')) := fun U hU => by
    have := lset_w (HAL.out U hU) hB hn (op := 33) (Y := Y) rfl hl hp hq
    rw [hnn] at this
    exact this
  clear h hB hnn hyb hl hp hq
  go_enter Tryz.func261, Tryz.ntmps261
  go_wp2_with fail
  refine (HC.out _ ((Kp.refl _ _).alloc _)).mono ?_
  rintro en u9 ⟨rfl, HZ⟩
  go_wp2
  go_ret
  exact ⟨rfl, HZ⟩
set_option maxHeartbeats 16000000 in
theorem dd_34 (h : Ew w0 N0 w N q g cap q0 x) (hB : FB x.1) {y : Fn × Value × Value} {X Y : Int} (hn : q0.length ≤ 10) (hx : u32R X) (hy : u64R Y) {e : Nat} {q' : MQ} (hr : deedM num N.m.mod y.1 q ⟨34, X, Y⟩ = some (e, q')) :
    Calls Tryz.prog 261 #[.pointer (some ⟨N.xb, 0, none⟩), .pointer (some ⟨g, q0.length * 5, none⟩), y.2.1, .agg #[.int .u8 34, .int .u32 X, .int .u64 Y]] w (Ez w0 N0 (e : Int) q') := by
  unfold deedM at hr
  rw [h.fr] at hr
  dsimp only at hr
  obtain ⟨n, hnn⟩ : ∃ n, q0.length = n := ⟨_, rfl⟩
  have HNN : Hid (q0.length = n) := hnn
  rw [hnn]
  obtain ⟨yb, hyb⟩ : ∃ v, y.2.1 = v := ⟨_, rfl⟩
  have HYB : Hid _ := hyb
  rw [hyb]
  have HW : Hid (Ew w0 N0 w N q g cap q0 x) := h
  have HB : Hid _ := hB
  have HAL : Hid (∀ U, Kp (fun _ => False) w U → Ew w0 N0 U N q g cap q0 x) := fun U hU => h.quiet hU
  iterate 11 rw [if_neg (by decide)] at hr
  rw [if_pos (by decide)] at hr
  obtain ⟨k, rfl⟩ : ∃ f : Nat, X = (f : Int) := ⟨X.toNat, by have := hx.1; omega⟩
  unfold localM at hr
  dsimp only at hr
  rw [show ((k : Int)).toNat = k from rfl] at hr
  cases hl : x.1.loc[k]? with
  | none => rw [hl] at hr; simp at hr
  | some lv =>
  rw [hl] at hr
  dsimp only at hr
  rw [if_neg (by decide)] at hr
  cases hp : popM x.1 lv.t with
  | none => rw [hp] at hr; simp at hr
  | some pr =>
  obtain ⟨v, r1⟩ := pr
  rw [hp] at hr
  dsimp only at hr
  rw [if_pos rfl] at hr
  cases hpu : pushM { r1 with loc := r1.loc.set k v } v with
  | none => rw [hpu] at hr; simp [layM] at hr
  | some bn =>
  rw [hpu] at hr
  simp [layM] at hr
  obtain ⟨rfl, hq⟩ := hr
  have HC : Hid (∀ U, Kp (fun _ => False) w U → Calls Tryz.prog 275 #[.pointer (some ⟨g, n * 5, none⟩), .agg #[.int .u8 34, .int .u32 (k : Int), .int .u64 Y]] U (Ez w0 N0 0 q')) := fun U hU => by
    have := ltee_w (HAL.out U hU) hB hn (op := 34) (Y := Y) rfl hl hp hpu hq
    rw [hnn] at this
    exact this
  clear h hB hnn hyb hl hp hpu hq
  go_enter Tryz.func261, Tryz.ntmps261
  go_wp2_with fail
  refine (HC.out _ ((Kp.refl _ _).alloc _)).mono ?_
  rintro en u9 ⟨rfl, HZ⟩
  go_wp2
  go_ret
  exact ⟨rfl, HZ⟩
end
end Go.Proofs.Qxb6500275aGreatDoor
