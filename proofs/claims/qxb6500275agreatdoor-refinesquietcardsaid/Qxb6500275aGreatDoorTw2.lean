import Derived.Test.Qxb6500275aGreatDoorTw1
set_option maxRecDepth 100000
set_option linter.unusedVariables false
set_option linter.unusedSimpArgs false
namespace Go.Proofs.Qxb6500275aGreatDoor
open Go Go.RowKit
/- a step and an answer, as values -/
structure Op6 where
  kind : Int
  a : Int
  b : Int
  c : Int
  s : ByteArray
  t : ByteArray
structure An4 where
  e : Int
  n : Int
  m : Int
  s : ByteArray
def Op6.val (o : Op6) : Value := .agg #[.int .i64 o.kind, .int .i64 o.a, .int .i64 o.b, .int .i64 o.c, .string o.s, .string o.t]
def An4.val (a : An4) : Value := .agg #[.int .i64 a.e, .int .i64 a.n, .int .i64 a.m, .string a.s]
def ranS (o : Op6) (a : An4) : Bool := if o.kind = 3 then !(refusedS a.e) else decide (o.kind = 1 ∧ (a.e = 0 ∨ 38 ≤ a.e))
set_option maxHeartbeats 2000000 in
theorem ran_calls (w : World) (o : Op6) (a : An4) : Calls Tryz.prog 19 #[o.val, a.val] w (fun en w' => en = .returned (.bool (ranS o a)) ∧ Kp (fun _ => False) w w') := by
  obtain ⟨kd, oa, ob, oc, os, ot⟩ := o
  obtain ⟨e, n, m, s⟩ := a
  have HR : Hid (∀ w, Calls Tryz.prog 18 #[.int .i64 e] w (Qm w (.bool (refusedS e)))) := fun w => refused_calls w e
  unfold Op6.val An4.val ranS
  dsimp only
  by_cases h3 : kd = 3
  · subst h3
    rw [if_pos rfl]
    go_enter Tryz.func19, Tryz.ntmps19
    go_wp2_with fail
    refine (HR.out _).mono ?_
    rintro en w2 ⟨rfl, rfl⟩
    go_wp2_with fail
    refine bodyPost_ret (v := .bool (!(refusedS e))) (by simp [results, Tryz.results19, go_sem]) rfl ?_
    exact ⟨rfl, ((Kp.refl _ _).alloc _).alloc _⟩
  rw [if_neg h3]
  have g3 : (kd == 3) = false := by simp [h3]
  by_cases h1 : kd = 1
  · subst h1
    by_cases h0 : e = 0
    · subst h0
      go_enter Tryz.func19, Tryz.ntmps19
      go_wp2
      refine bodyPost_ret (v := .bool (decide ((1 : Int) = 1 ∧ ((0 : Int) = 0 ∨ (38 : Int) ≤ 0)))) (by simp [results, Tryz.results19, go_sem]) rfl ?_
      exact ⟨rfl, ((Kp.refl _ _).alloc _).alloc _⟩
    · have g0 : (e == 0) = false := by simp [h0]
      by_cases h38 : 38 ≤ e
      · have hr : decide ((1 : Int) = 1 ∧ (e = 0 ∨ 38 ≤ e)) = true := by simp [h38, h0]
        rw [hr]
        go_enter Tryz.func19, Tryz.ntmps19
        go_wp2
        refine bodyPost_ret (v := .bool true) (by simp [results, Tryz.results19, go_sem, h38, h0]) rfl ?_
        exact ⟨rfl, ((Kp.refl _ _).alloc _).alloc _⟩
      · have hr : decide ((1 : Int) = 1 ∧ (e = 0 ∨ 38 ≤ e)) = false := by simp [h38, h0]
        rw [hr]
        go_enter Tryz.func19, Tryz.ntmps19
        go_wp2
        refine bodyPost_ret (v := .bool false) (by simp [results, Tryz.results19, go_sem, h38, h0]) rfl ?_
        exact ⟨rfl, ((Kp.refl _ _).alloc _).alloc _⟩
  · have g1 : (kd == 1) = false := by simp [h1]
    go_enter Tryz.func19, Tryz.ntmps19
    go_wp2
    refine bodyPost_ret (v := .bool (decide (kd = 1 ∧ (e = 0 ∨ 38 ≤ e)))) (by simp [results, Tryz.results19, go_sem, h1]) rfl ?_
    exact ⟨rfl, ((Kp.refl _ _).alloc _).alloc _⟩
def moreA (a : Int) : Int := if a < 0 then 1 else if a = 9223372036854775807 then a else a + 1
set_option maxHeartbeats 2000000 in
theorem more_calls (w : World) (o : Op6) (hr : -9223372036854775808 ≤ o.a ∧ o.a ≤ 9223372036854775807) : Calls Tryz.prog 20 #[o.val] w (fun en w' => en = .returned ({ o with a := moreA o.a } : Op6).val ∧ Kp (fun _ => False) w w') := by
  obtain ⟨kd, oa, ob, oc, os, ot⟩ := o
  unfold Op6.val moreA
  dsimp only at hr ⊢
  by_cases h0 : oa < 0
  · rw [if_pos h0]
    go_enter Tryz.func20, Tryz.ntmps20
    go_wp2
    refine bodyPost_ret (v := .agg #[.int .i64 kd, .int .i64 1, .int .i64 ob, .int .i64 oc, .string os, .string ot]) (by simp [results, Tryz.results20, go_sem]) rfl ?_
    exact ⟨rfl, ((Kp.refl _ _).alloc _).alloc _⟩
  rw [if_neg h0]
  by_cases hm : oa = 9223372036854775807
  · subst hm
    rw [if_pos rfl]
    have hwm : wrap64 9223372036854775808 = -9223372036854775808 := by kernel_rfl
    go_enter Tryz.func20, Tryz.ntmps20
    go_wp2
    refine bodyPost_ret (v := .agg #[.int .i64 kd, .int .i64 9223372036854775807, .int .i64 ob, .int .i64 oc, .string os, .string ot]) (by simp [results, Tryz.results20, go_sem]) rfl ?_
    exact ⟨rfl, ((Kp.refl _ _).alloc _).alloc _⟩
  · rw [if_neg hm]
    have hw : wrap64 (oa + 1) = oa + 1 := by unfold wrap64; omega
    go_enter Tryz.func20, Tryz.ntmps20
    go_wp2
    refine bodyPost_ret (v := .agg #[.int .i64 kd, .int .i64 (oa + 1), .int .i64 ob, .int .i64 oc, .string os, .string ot]) (by simp [results, Tryz.results20, go_sem, hw]) rfl ?_
    exact ⟨rfl, ((Kp.refl _ _).alloc _).alloc _⟩
end Go.Proofs.Qxb6500275aGreatDoor
