import Derived.Test.Qxb6500275aGreatDoorVa3
import Derived.OwnWalk
set_option maxRecDepth 100000
set_option linter.unusedVariables false
set_option linter.unusedSimpArgs false
namespace Go.Proofs.Qxb6500275aGreatDoor
open Go Go.RowKit
section
variable {w : World}
set_option maxHeartbeats 2000000 in
theorem first_calls (q : ByteArray) (hq : q.size ≤ 1) : Calls Tryz.prog 147 #[.string q] w (Pure w (.int .u8 (firstV q))) := by
  by_cases h0 : q.size = 0
  · have hF : firstV q = 64 := if_pos h0
    rw [hF]
    clear hF
    go_enter Tryz.func147, Tryz.ntmps147
    go_wp2
    go_ret
    exact ⟨rfl, Kp.refl _ _⟩
  · have hF : firstV q = bAt q 0 := if_neg h0
    have h1 : 0 < q.size := by omega
    rw [hF, ← bAt_get q 0 h1]
    have hb : ((q.size : Int) == 0) = false := by rw [beq_eq_false_iff_ne]; omega
    clear hF hq
    go_enter Tryz.func147, Tryz.ntmps147
    go_wp2
    go_ret
    exact ⟨rfl, Kp.refl _ _⟩
set_option maxHeartbeats 2000000 in
theorem constOf_calls (op : Nat) (hq : op < 256) : Calls Tryz.prog 144 #[.int .u8 op] w (Pure w (.int .u8 (constOfV op))) := by
  by_cases h1 : op < 65
  · have hF : constOfV op = 0 := if_pos (.inl h1)
    rw [hF]
    go_enter Tryz.func144, Tryz.ntmps144
    go_wp2
    go_ret
    exact ⟨rfl, Kp.refl _ _⟩
  · by_cases h2 : 68 < op
    · have hF : constOfV op = 0 := if_pos (.inr h2)
      rw [hF]
      go_enter Tryz.func144, Tryz.ntmps144
      go_wp2
      go_ret
      exact ⟨rfl, Kp.refl _ _⟩
    · have : op = 65 ∨ op = 66 ∨ op = 67 ∨ op = 68 := by omega
      rcases this with rfl | rfl | rfl | rfl
      all_goals
        go_enter Tryz.func144, Tryz.ntmps144
        go_wp2
        go_ret
        exact ⟨rfl, Kp.refl _ _⟩
set_option maxHeartbeats 2000000 in
theorem limitsV_calls (lo hi most : Int) (h1 : limR lo) (h2 : limR hi) (h3 : 0 ≤ most ∧ most ≤ 10) : Calls Tryz.prog 143 #[.int .i64 lo, .int .i64 hi, .int .i64 most] w (Pure w (.bool (limitsV lo hi most))) := by
  unfold limR at h1 h2
  by_cases hm : most < lo
  · have hF : limitsV lo hi most = false := if_pos hm
    rw [hF]
    go_enter Tryz.func143, Tryz.ntmps143
    go_wp2
    go_ret
    exact ⟨rfl, Kp.refl _ _⟩
  · have hF : limitsV lo hi most = decide (hi = -1 ∨ lo ≤ hi) := if_neg hm
    rw [hF]
    by_cases hh : hi = -1
    · subst hh
      rw [decide_eq_true (.inl rfl)]
      go_enter Tryz.func143, Tryz.ntmps143
      go_wp2
      go_ret
      exact ⟨rfl, Kp.refl _ _⟩
    · have hb : (hi == -1) = false := by rw [beq_eq_false_iff_ne]; exact hh
      by_cases hl : lo ≤ hi
      · rw [decide_eq_true (.inr hl)]
        go_enter Tryz.func143, Tryz.ntmps143
        go_wp2
        go_ret
        exact ⟨by simp [hl], Kp.refl _ _⟩
      · rw [decide_eq_false (by omega)]
        go_enter Tryz.func143, Tryz.ntmps143
        go_wp2
        go_ret
        exact ⟨by simp [hl], Kp.refl _ _⟩
set_option maxHeartbeats 2000000 in
theorem there_calls (lo : Int) (h1 : limR lo) : Calls Tryz.prog 201 #[.int .i64 lo] w (Pure w (.int .i64 (thereV lo))) := by
  by_cases hm : lo < 0
  · have hF : thereV lo = 0 := if_pos hm
    rw [hF]
    go_enter Tryz.func201, Tryz.ntmps201
    go_wp2
    go_ret
    exact ⟨rfl, Kp.refl _ _⟩
  · have hF : thereV lo = 1 := if_neg hm
    rw [hF]
    go_enter Tryz.func201, Tryz.ntmps201
    go_wp2
    go_ret
    exact ⟨rfl, Kp.refl _ _⟩
theorem typed_calls (b : Bool) : Calls Tryz.prog 204 #[.bool b] w (Pure w (.int .i64 (typedV b))) := by
  cases b
  all_goals
    go_enter Tryz.func204, Tryz.ntmps204
    go_wp2
    go_ret
    exact ⟨rfl, Kp.refl _ _⟩
theorem isVal_calls (t : Nat) (ht : t = 0 ∨ isVal t) : Calls Tryz.prog 262 #[.int .u8 t] w (Pure w (.bool (decide (t = 127 ∨ t = 126 ∨ t = 125 ∨ t = 124)))) := by
  have : t = 0 ∨ t = 127 ∨ t = 126 ∨ t = 125 ∨ t = 124 := ht
  rcases this with rfl | rfl | rfl | rfl | rfl
  · rw [decide_eq_false (by decide)]
    go_enter Tryz.func262, Tryz.ntmps262
    go_wp2
    go_ret
    exact ⟨rfl, Kp.refl _ _⟩
  all_goals
    rw [decide_eq_true (by decide)]
    go_enter Tryz.func262, Tryz.ntmps262
    go_wp2
    go_ret
    exact ⟨rfl, Kp.refl _ _⟩
/- local: the type, or none -/
def encO (o : Option Nat) : Value := match o with
  | some t => .tuple #[.int .u8 t, .bool true]
  | none => .tuple #[.int .u8 0, .bool false]
set_option maxHeartbeats 2000000 in
theorem local_calls (params decl : ByteArray) (hp : params.size ≤ 4) (hd : decl.size ≤ 6) (x : Nat) (hx : x < 4294967296) : Calls Tryz.prog 206 #[.string params, .string decl, .int .u32 x] w (Pure w (encO (localV params decl x))) := by
  by_cases h1 : x < params.size
  · have hF : localV params decl x = some (bAt params x) := by unfold localV; rw [if_pos (by omega), Int.toNat_natCast]
    rw [hF, ← bAt_get params x h1]
    unfold encO
    dsimp only
    have h1' : (x : Int) < (params.size : Int) := by omega
    go_enter Tryz.func206, Tryz.ntmps206
    go_wp2
    go_ret2
    exact ⟨rfl, Kp.refl _ _⟩
  · by_cases h2 : x - params.size < decl.size
    · obtain ⟨y, hy⟩ : ∃ y, x = params.size + y := ⟨x - params.size, by omega⟩
      have hyd : y < decl.size := by omega
      have hF : localV params decl x = some (bAt decl y) := by unfold localV; rw [if_neg (by omega), if_pos (by omega), show ((x : Int) - params.size).toNat = y by omega]
      rw [hF, ← bAt_get decl y hyd]
      unfold encO
      dsimp only
      subst hy
      go_enter Tryz.func206, Tryz.ntmps206
      go_wp2
      go_ret2
      refine ⟨?_, Kp.refl _ _⟩
      simp [Nat.add_sub_cancel_left]
    · have hF : localV params decl x = none := by unfold localV; rw [if_neg (by omega), if_neg (by omega)]
      rw [hF]
      unfold encO
      dsimp only
      go_enter Tryz.func206, Tryz.ntmps206
      go_wp2
      go_ret2
      exact ⟨rfl, Kp.refl _ _⟩
def enc3 (x : Nat × Nat × Nat) : Value := .tuple #[.int .i64 x.1, .int .u8 x.2.1, .int .u8 x.2.2]
set_option maxHeartbeats 8000000 in
theorem numSig_calls (op : Nat) (ho : op < 256) : Calls Tryz.prog 208 #[.int .i64 op] w (Pure w (enc3 (numSig op))) := by
  go_enter Tryz.func208, Tryz.ntmps208
  go_wp2
  all_goals
    go_ret3
    go_light
    refine ⟨?_, Kp.refl _ _⟩
    simp only [beq_eq_false_iff_ne, beq_iff_eq, ne_eq] at *
    unfold numSig
    repeat (first | rw [if_pos (by omega)] | rw [if_neg (by omega)])
    rfl
/- the memory's operators: 40 .. 62 -/
def encM (x : Nat × Nat × Bool) : Value := .tuple #[.int .i64 x.1, .int .u8 x.2.1, .bool x.2.2]
set_option maxHeartbeats 8000000 in
theorem memSig_calls (op : Nat) (ho : 40 ≤ op ∧ op ≤ 62) : Calls Tryz.prog 256 #[.int .i64 op] w (Pure w (encM (memSig op))) := by
  go_enter Tryz.func256, Tryz.ntmps256
  go_wp2
  all_goals
    go_ret3
    go_light
    refine ⟨?_, Kp.refl _ _⟩
    simp only [beq_eq_false_iff_ne, beq_iff_eq, ne_eq] at *
    unfold memSig
    repeat (first | rw [if_pos (by omega)] | rw [if_neg (by omega)])
    rfl
end
end Go.Proofs.Qxb6500275aGreatDoor
