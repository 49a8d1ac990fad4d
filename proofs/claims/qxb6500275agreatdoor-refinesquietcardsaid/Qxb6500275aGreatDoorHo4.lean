import Derived.Test.Qxb6500275aGreatDoorHo3
set_option maxRecDepth 100000
set_option linter.unusedVariables false
set_option linter.unusedSimpArgs false
namespace Go.Proofs.Qxb6500275aGreatDoor
open Go Go.RowKit
theorem Kp.drewM' {S : Nat → Prop} {a w : World} (h : Kp S a w) (m : Nat) : Kp S a (w.drewN m) := ⟨h.os, h.tape, h.output, h.size, h.block⟩
section
variable {w w' : World} {hb bb tb : Nat} {T : Nat → Prop} {H : Hm}
/- a word is taken off the tape -/
def takeH (H : Hm) : Option (Nat × Hm) := match H.tp with
  | [] => none
  | v :: r => some (v, { H with tp := r })
def encTk : Option (Nat × Hm) → Value
  | none => .tuple #[.int .u64 0, .bool false]
  | some (v, _) => .tuple #[.int .u64 (v : Int), .bool true]
def hmK (H : Hm) : Option (Nat × Hm) → Hm
  | none => H
  | some (_, H') => H'
theorem takeH_ok (h : HmOk H) : HmOk (hmK H (takeH H)) := by
  unfold takeH
  cases e : H.tp with
  | nil => exact h
  | cons v r =>
    have := h.tp
    rw [e] at this
    exact ⟨h.bd, ⟨by have := this.1; simp at this; show r.length ≤ 6; omega, fun u hu => this.2 u (by simp [show u ∈ r from hu])⟩, h.tr, h.rows⟩
theorem take_w {v : Nat} {r : List Nat} (h : Hw w hb bb tb T H) (hv : H.tp = v :: r) : ∃ head : Nat, w.cell? ⟨hb, 1 + head, none⟩ = some (.int .u64 v) ∧ head < 6 ∧ w.cell? ⟨hb, 7, none⟩ = some (.int .i64 head) ∧ Hw ((w.setCell ⟨hb, 7, none⟩ (.int .i64 ((head : Int) + 1))).setCell ⟨hb, 8, none⟩ (.int .i64 (r.length : Int))).drew hb bb tb T { H with tp := r } := by
  obtain ⟨⟨F, G, C, head, b1, b2, b3, hl⟩, d1, d2, d3, t⟩ := h
  have hd := hl.hd
  rw [hv] at hd
  simp at hd
  refine ⟨head, by rw [b1.cell (by omega), show 1 + head = 1 + (head + 0) by omega, hl.tp 0 v (by rw [hv]; rfl)], by omega, by rw [b1.cell (by omega), hl.f7], ?_⟩
  have k : Kp (fun k => k = hb) w ((w.setCell ⟨hb, 7, none⟩ (.int .i64 ((head : Int) + 1))).setCell ⟨hb, 8, none⟩ (.int .i64 (r.length : Int))).drew := (((Kp.refl (fun k => k = hb) w).setCell (p := ⟨hb, 7, none⟩) (.inl rfl) _).setCell (p := ⟨hb, 8, none⟩) (.inl rfl) _).drew
  have hl' := hl.keep k (fun k hk e => t.1 (e ▸ hk))
  refine ⟨⟨_, G, C, head + 1, ((b1.set (i := 7) (by omega) _).set (i := 8) (by omega) _).drew, b2.keep k (Ne.symm d1), b3.keep k (Ne.symm d2), ⟨?_, fun i u hi => ?_, ?_, ?_, ?_, ?_, by dsimp only; omega, hl'.tr, hl'.bd, hl'.st⟩⟩, d1, d2, d3, t⟩
  · rw [upd_ne _ _ (by omega), upd_ne _ _ (by omega)]; exact hl.f0
  · have hi' := (List.getElem?_eq_some_iff.1 hi).1
    dsimp only at hi'
    rw [upd_ne _ _ (by omega), upd_ne _ _ (by omega), show 1 + (head + 1 + i) = 1 + (head + (i + 1)) by omega]
    exact hl.tp (i + 1) u (by rw [hv]; simpa using hi)
  · rw [upd_ne _ _ (by omega), upd_same]; rfl
  · rw [upd_same]
  · rw [upd_ne _ _ (by omega), upd_ne _ _ (by omega)]; exact hl.f9
  · rw [upd_ne _ _ (by omega), upd_ne _ _ (by omega)]; exact hl.f10
set_option maxHeartbeats 2000000 in
theorem takeH_calls (h : Hw w hb bb tb T H) : Calls Tryz.prog 265 #[.pointer (some ⟨hb, 0, none⟩)] w (fun en w' => en = .returned (encTk (takeH H)) ∧ Kp (fun k => k = hb) w w' ∧ Hw w' hb bb tb T (hmK H (takeH H))) := by
  obtain ⟨head0, c0, c70, c8, c9, c10, fz, _⟩ := h.c
  have g7 := fz 7 (by decide)
  have g8 := fz 8 (by decide)
  have HH : Hid _ := h
  obtain ⟨X, hX⟩ : ∃ X, takeH H = X := ⟨_, rfl⟩
  rw [hX]
  unfold takeH at hX
  clear c0 c9 c10 fz c70
  cases hv : H.tp with
  | nil =>
    rw [hv] at hX c8
    have HX : Hid _ := hX
    clear hX h hv
    go_enter Tryz.func265, Tryz.ntmps265
    go_wp2
    refine bodyPost_ret (v := .tuple #[.int .u64 0, .bool false]) (by simp [results, Tryz.results265, go_sem]) rfl ?_
    rw [← HX.out]
    exact ⟨rfl, Kp.refl _ _, HH.out⟩
  | cons v r =>
    rw [hv] at hX c8
    obtain ⟨head, ch, h6, c7, hw⟩ := take_w h hv
    have HX : Hid _ := hX
    have HW : Hid _ := hw
    rw [List.length_cons] at c8
    obtain ⟨n, hn⟩ : ∃ n, r.length = n := ⟨_, rfl⟩
    rw [hn] at c8 HW
    have hnz : ¬ (((n + 1 : Nat) : Int) = 0) := by omega
    have h6' : (head : Int) < 6 := by omega
    have hn1 : ((n + 1 : Nat) : Int) - 1 = (n : Int) := by omega
    have hn6 : n < 6 := by have := HH.out.c; obtain ⟨_, _, _, _, _, _, _, h9⟩ := this; rw [hv] at h9; simp at h9; omega
    have hwr : wrap64 (n : Int) = (n : Int) := by unfold wrap64; omega
    clear hX h hv hw hn
    go_enter Tryz.func265, Tryz.ntmps265
    go_wp2_with fail
    go_region
    go_wp2_with fail
    refine bodyPost_ret (v := .tuple #[.int .u64 (v : Int), .bool true]) (by simp [results, Tryz.results265, go_sem]) rfl ?_
    rw [← HX.out]
    exact ⟨rfl, (((Kp.refl (fun k => k = hb) w).setCell (p := ⟨hb, 7, none⟩) (.inl rfl) _).setCell (p := ⟨hb, 8, none⟩) (.inl rfl) _).drew, HW.out⟩
end
end Go.Proofs.Qxb6500275aGreatDoor
