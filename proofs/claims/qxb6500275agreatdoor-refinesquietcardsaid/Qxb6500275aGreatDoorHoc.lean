import Derived.Test.Qxb6500275aGreatDoorHob
set_option maxRecDepth 100000
set_option linter.unusedVariables false
set_option linter.unusedSimpArgs false
namespace Go.Proofs.Qxb6500275aGreatDoor
open Go Go.RowKit
section
variable {w w' : World} {hb bb tb : Nat} {T : Nat → Prop} {H : Hm}
/- the four functions' Call -/
theorem fTape_calls (h : Hw w hb bb tb T H) {fb : Nat} (hf : w.cell? ⟨fb, 0, none⟩ = some (takeV hb)) (a : Value) (p : Int) : Calls Tryz.prog 338 #[.pointer (some ⟨fb, 0, none⟩), a, .int .i64 p] w (fun en w' => en = .returned (match takeH H with | none => .tuple #[.int .u64 0, .int .i64 47] | some (v, _) => .tuple #[.int .u64 (v : Int), .int .i64 0]) ∧ Kp (fun k => k = hb) w w' ∧ Hw w' hb bb tb T (hmK H (takeH H))) := by
  have ht := takeH_calls h
  unfold takeV at hf
  cases hk : takeH H with
  | none =>
    rw [hk] at ht
    dsimp only
    unfold encTk at ht
    go_enter Tryz.func338, Tryz.ntmps338
    go_wp2_with fail
    refine ht.mono ?_
    rintro en w6 ⟨rfl, k6, h6⟩
    have H6 : Hid _ := h6
    have K6 : Hid _ := k6
    clear ht h6 k6
    go_wp2_with fail
    refine bodyPost_ret (v := .tuple #[.int .u64 0, .int .i64 47]) (by simp [results, Tryz.results338, go_sem]) rfl ?_
    exact ⟨rfl, K6.out, H6.out⟩
  | some p =>
    obtain ⟨v, H'⟩ := p
    rw [hk] at ht
    dsimp only
    unfold encTk at ht
    go_enter Tryz.func338, Tryz.ntmps338
    go_wp2_with fail
    refine ht.mono ?_
    rintro en w6 ⟨rfl, k6, h6⟩
    have H6 : Hid _ := h6
    have K6 : Hid _ := k6
    clear ht h6 k6
    go_wp2_with fail
    refine bodyPost_ret (v := .tuple #[.int .u64 (v : Int), .int .i64 0]) (by simp [results, Tryz.results338, go_sem]) rfl ?_
    exact ⟨rfl, K6.out, H6.out⟩
theorem fWants_calls (w : World) (v : Value) : Calls Tryz.prog 339 #[v] w (Qm w (.bool true)) := by
  go_enter Tryz.func339, Tryz.ntmps339
  go_wp2
  refine bodyPost_ret (v := .bool true) (by simp [results, Tryz.results339, go_sem]) rfl ?_
  exact ⟨rfl, rfl⟩
theorem fZero_calls (w : World) (a b : Value) : Calls Tryz.prog 342 #[.agg #[], a, b] w (fun en w' => en = .returned (.tuple #[.int .u64 0, .int .i64 0]) ∧ Kp (fun _ => False) w w') := by
  go_enter Tryz.func342, Tryz.ntmps342
  go_wp2
  refine bodyPost_ret (v := .tuple #[.int .u64 0, .int .i64 0]) (by simp [results, Tryz.results342, go_sem]) rfl ?_
  exact ⟨rfl, (Kp.refl _ _).alloc _⟩
theorem word_host (w : World) (p : Nat) (hp : p ≤ 6) : Calls Tryz.prog 266 #[.int .i64 p] w (Qm w (.int .u64 p)) := by
  go_enter Tryz.func266, Tryz.ntmps266
  go_wp2
  refine bodyPost_ret (v := .int .u64 p) (by simp [results, Tryz.results266, go_sem]) rfl ?_
  exact ⟨rfl, rfl⟩
theorem fSize_calls (w : World) (a : Value) (p : Nat) (hp : p ≤ 6) : Calls Tryz.prog 343 #[.func (.func 266) #[] #[], a, .int .i64 p] w (Qm w (.tuple #[.int .u64 p, .int .i64 0])) := by
  have hw := word_host w p hp
  go_enter Tryz.func343, Tryz.ntmps343
  go_wp2_with fail
  refine hw.mono ?_
  rintro en w6 ⟨rfl, rfl⟩
  go_wp2_with fail
  refine bodyPost_ret (v := .tuple #[.int .u64 p, .int .i64 0]) (by simp [results, Tryz.results343, go_sem]) rfl ?_
  exact ⟨rfl, rfl⟩
theorem fTrap_calls (w : World) (a b : Value) : Calls Tryz.prog 344 #[.int .i64 49, a, b] w (Qm w (.tuple #[.int .u64 0, .int .i64 49])) := by
  go_enter Tryz.func344, Tryz.ntmps344
  go_wp2
  refine bodyPost_ret (v := .tuple #[.int .u64 0, .int .i64 49]) (by simp [results, Tryz.results344, go_sem]) rfl ?_
  exact ⟨rfl, rfl⟩
end
end Go.Proofs.Qxb6500275aGreatDoor
