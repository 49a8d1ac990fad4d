import Derived.Test.Qxb6500275aGreatDoorXzm
import Derived.Test.Qxb6500275aGreatDoorEx2
import Derived.Test.Qxb6500275aGreatDoorEx3
import Derived.Test.Qxb6500275aGreatDoorEx4
import Derived.Test.Qxb6500275aGreatDoorBin1
set_option maxRecDepth 100000
set_option linter.unusedVariables false
set_option linter.unusedSimpArgs false
namespace Go.Proofs.Qxb6500275aGreatDoor
open Go Go.RowKit
/- THE MACHINE AT REST: the names of its blocks, in the order of their making -/
structure Mx where
  lo : Nat
  a1 : Nat
  a2 : Nat
  a3 : Nat
  a4 : Nat
  a5 : Nat
  hi : Nat
  xb : Nat
  kb : Nat
  sb : Nat
  rb : Nat
  hb : Nat
  bb : Nat
  tb : Nat
  db : Nat
  ib : Nat
  lb : Nat
  vb : Nat
  pb : Nat
  pc : Nat
structure Ax (X : Mx) : Prop where
  m : X.lo ≤ X.sb ∧ X.sb < X.a1 ∧ X.lo ≤ X.rb ∧ X.rb < X.a1 ∧ X.sb ≠ X.rb
  d : X.a1 ≤ X.db ∧ X.db < X.a2 ∧ X.a1 ≤ X.ib ∧ X.ib < X.a2 ∧ X.a1 ≤ X.lb ∧ X.lb < X.a2 ∧ X.db ≠ X.ib ∧ X.db ≠ X.lb ∧ X.ib ≠ X.lb
  v : X.a2 ≤ X.vb ∧ X.vb < X.a3
  p : X.a3 ≤ X.pb ∧ X.pb < X.a4 ∧ X.a3 ≤ X.pc ∧ X.pc < X.a4 ∧ X.pb ≠ X.pc
  h : X.a4 ≤ X.hb ∧ X.hb < X.a5 ∧ X.a4 ≤ X.bb ∧ X.bb < X.a5 ∧ X.a4 ≤ X.tb ∧ X.tb < X.a5 ∧ X.hb ≠ X.bb ∧ X.hb ≠ X.tb ∧ X.bb ≠ X.tb
  x : X.a5 ≤ X.xb ∧ X.xb < X.hi ∧ X.a5 ≤ X.kb ∧ X.kb < X.hi ∧ X.xb ≠ X.kb
/- the cells 5 .. 8: the module, the code, the types packed -/
structure Vm where
  v5 : Value
  v6 : Value
  v7 : Value
  v8 : Value
def Vm.none : Vm := ⟨.pointer Option.none, .pointer Option.none, .slice Option.none 0 0, .slice Option.none 0 0⟩
structure XB (F : Nat → Value) (X : Mx) (V : Vm) : Prop where
  f0 : F 0 = .pointer (some ⟨X.db, 0, none⟩)
  f1 : F 1 = .pointer (some ⟨X.vb, 0, none⟩)
  f2 : F 2 = .pointer (some ⟨X.pb, 0, none⟩)
  f3 : F 3 = .pointer (some ⟨X.sb, 0, none⟩)
  f4 : F 4 = .pointer (some ⟨X.hb, 0, none⟩)
  f5 : F 5 = V.v5
  f6 : F 6 = V.v6
  f7 : F 7 = V.v7
  f8 : F 8 = V.v8
  f9 : F 9 = .slice (some ⟨X.kb, 0, none⟩) 120 120
structure Xb (w : World) (X : Mx) (T : Nat → Prop) (V : Vm) (S : Sm) (H : Hm) : Prop where
  x : ∃ F, Blk w X.xb 28 F ∧ XB F X V
  kb : ∃ K, Blk w X.kb 120 K
  mm : Mm w X.sb X.rb S
  hw : Hw w X.hb X.bb X.tb T H
  bt : ∃ ty, Bt w X.db X.ib X.lb ty
  vd : ∃ v, Vd w X.vb v ∧ VI v
  pr : ∃ n, Pr w X.pb X.pc n
set_option maxHeartbeats 4000000 in
theorem tnew_calls (w : World) : Calls Tryz.prog 12 #[] w (fun en w' => ∃ X : Mx, en = .returned (.pointer (some ⟨X.xb, 0, none⟩)) ∧ Ax X ∧ X.lo = w.heap.size ∧ X.hi ≤ w'.heap.size ∧ Kp (fun _ => False) w w' ∧ Xb w' X (fun _ => False) Vm.none Sm.none Hm.none) := by
  go_enter Tryz.func12, Tryz.ntmps12
  go_wp2_with fail
  refine (mnew_calls _).mono ?_
  rintro en w1 ⟨sb, rb, rfl, h1, h2, k1, m1⟩
  go_wp2_with fail
  refine (bnew_calls _).mono ?_
  rintro en w2 ⟨db, ib, lb, rfl, h3, h4, h5, k2, m2⟩
  go_wp2_with fail
  refine (vnew_calls _).mono ?_
  rintro en w3 ⟨rfl, k3, m3, i3⟩
  go_wp2_with fail
  refine (pnew_calls _).mono ?_
  rintro en w4 ⟨rfl, k4, m4⟩
  go_wp2_with fail
  refine (hnew_calls _).mono ?_
  rintro en w5 ⟨hb, bb, tb, rfl, h6, h7, h8, k5, m5⟩
  go_wp2_with fail
  refine (xnew_calls _ _ _ _ _ _).mono ?_
  rintro en w6 ⟨xb, kb, rfl, h9, h10, h11, k6, b1, b2⟩
  go_wp2_with fail
  refine bodyPost_ret (v := .pointer (some ⟨xb, 0, none⟩)) (by simp [results, Tryz.results12, go_sem]) rfl ?_
  have z1 := k1.size
  have z2 := k2.size
  have z3 := k3.size
  have z4 := k4.size
  have z5 := k5.size
  have z6 := k6.size
  refine ⟨⟨w.heap.size, w1.heap.size, w2.heap.size, w3.heap.size, w4.heap.size, w5.heap.size, w6.heap.size, xb, kb, sb, rb, hb, bb, tb, db, ib, lb, w2.heap.size, w3.heap.size, w3.heap.size + 1⟩, rfl, ?_, rfl, Nat.le_refl _, ((((k1.trans k2).trans k3).trans k4).trans k5).trans k6, ?_⟩
  · obtain ⟨F1, G1, q1, q2, _⟩ := m1.is
    obtain ⟨_, _, _, hBn⟩ := m2
    obtain ⟨F2, G2, H2, r1, r2, r3, _⟩ := hBn.is
    obtain ⟨F3, s1, _⟩ := m3.is
    obtain ⟨F4, G4, _, t1, t2, _⟩ := m4.is
    obtain ⟨F5, G5, C5, _, u1, u2, u3, _⟩ := m5.is
    obtain ⟨K6, v2⟩ := b2
    have l1 := q1.lt (by decide)
    have l2 := q2.lt (by decide)
    have l3 := r1.lt (by decide)
    have l4 := r2.lt (by decide)
    have l5 := r3.lt (by decide)
    have l6 := s1.lt (by decide)
    have l7 := t1.lt (by decide)
    have l8 := t2.lt (by decide)
    have l9 := u1.lt (by decide)
    have l10 := u2.lt (by decide)
    have l11 := u3.lt (by decide)
    have l12 := b1.lt (by decide)
    have l13 := v2.lt (by decide)
    exact ⟨⟨h1, l1, h2, l2, m1.ne⟩, ⟨h3, l3, h4, l4, h5, l5, hBn.d1, hBn.d2, hBn.d3⟩, ⟨Nat.le_refl _, l6⟩, ⟨Nat.le_refl _, l7, Nat.le_succ _, l8, m4.ne⟩, ⟨h6, l9, h7, l10, h8, l11, m5.d1, m5.d2, m5.d3⟩, ⟨h9, l12, h10, l13, h11⟩⟩
  · exact ⟨⟨_, b1, ⟨rfl, rfl, rfl, rfl, rfl, rfl, rfl, rfl, rfl, rfl⟩⟩, b2, m1.keep ((((k2.trans k3).trans k4).trans k5).trans k6) (fun h => h) (fun h => h), m5.keep k6 (fun h => h) (fun h => h) (fun h => h) (fun _ _ h => h), ⟨_, m2.keep (((k3.trans k4).trans k5).trans k6) (fun h => h) (fun h => h) (fun h => h)⟩, ⟨_, m3.keep ((k4.trans k5).trans k6) (fun h => h), i3⟩, ⟨_, m4.keep (k5.trans k6) (fun h => h) (fun h => h)⟩⟩
end Go.Proofs.Qxb6500275aGreatDoor
