import Derived.Test.Qxb6500275aGreatDoorHo8
set_option maxRecDepth 100000
set_option linter.unusedVariables false
set_option linter.unusedSimpArgs false
namespace Go.Proofs.Qxb6500275aGreatDoor
open Go Go.RowKit
section
variable {w w' : World} {hb bb tb : Nat} {T : Nat → Prop} {H : Hm}
/- what Bind comes to -/
def Bo (w : World) (hb bb tb : Nat) (T : Nat → Prop) (r : Nat × Hm) (en : Ending) (w' : World) : Prop := en = .returned (.int .i64 (r.1 : Int)) ∧ Kp (fun k => k = hb ∨ k = bb) w w' ∧ ∃ T', Tx w w' T T' ∧ Hw w' hb bb tb T' r.2
set_option maxHeartbeats 4000000 in
theorem bind_calls (h : Hw w hb bb tb T H) (s : ByteArray) (hs : s.size ≤ 9223372036854775807) : Calls Tryz.prog 88 #[.pointer (some ⟨hb, 0, none⟩), .string s] w (Bo w hb bb tb T (bindS H s)) := by
  obtain ⟨X, hX⟩ : ∃ X, bindS H s = X := ⟨_, rfl⟩
  rw [hX]
  unfold bindS at hX
  obtain ⟨head, c0, _, _, _, _, fz, _⟩ := h.c
  have HH : Hid _ := h
  clear h fz
  by_cases h8 : 8 < s.size
  · rw [if_pos h8] at hX
    have HX : Hid _ := hX
    clear hX
    have h8' : (8 : Int) < (s.size : Int) := by omega
    go_enter Tryz.func88, Tryz.ntmps88
    go_wp2
    refine bodyPost_ret (v := .int .i64 1) (by simp [results, Tryz.results88, go_sem]) rfl ?_
    rw [← HX.out]
    exact ⟨rfl, Kp.refl _ _, T, Tx.refl _ _ _, HH.out⟩
  rw [if_neg h8] at hX
  have h8' : ¬ (8 : Int) < (s.size : Int) := by omega
  obtain ⟨n, hn⟩ : ∃ n, H.bd.length = n := ⟨_, rfl⟩
  have HN : Hid _ := hn
  rw [hn] at hX c0
  clear hn
  by_cases h4 : 4 ≤ n
  · rw [if_pos h4] at hX
    have HX : Hid _ := hX
    clear hX
    have h4' : (4 : Int) ≤ (n : Int) := by omega
    go_enter Tryz.func88, Tryz.ntmps88
    go_wp2
    refine bodyPost_ret (v := .int .i64 7) (by simp [results, Tryz.results88, go_sem]) rfl ?_
    rw [← HX.out]
    exact ⟨rfl, Kp.refl _ _, T, Tx.refl _ _ _, HH.out⟩
  rw [if_neg h4] at hX
  have h4' : ¬ (4 : Int) ≤ (n : Int) := by omega
  have hk1 := mkW_kp w
  have hfr := find_reg s
  have hat := mkW_at w
  have hmk := makers_calls w
  have c0' : (mkW w).cell? ⟨hb, 0, none⟩ = some (.slice (some ⟨bb, 0, none⟩) n 4) := by rw [hk1.cell (p := ⟨hb, 0, none⟩) HH.out.lt.1 (fun h => h)]; exact c0
  have HK : Hid _ := hk1
  clear hk1
  cases hk : kindN s with
  | none =>
    rw [hk] at hX hfr
    dsimp only at hX hfr
    have hl := look_law (mkW w) w.heap.size 4 regM s hat hfr z242
    dsimp only at hl
    have HX : Hid _ := hX
    clear hX hk hfr hat
    go_enter Tryz.func88, Tryz.ntmps88
    go_wp2_with fail
    refine hmk.mono ?_
    rintro en w6 ⟨rfl, rfl⟩
    go_wp2_with fail
    refine bodyPost_ret (v := .int .i64 30) (by simp [results, Tryz.results88, go_sem]) rfl ?_
    rw [← HX.out]
    exact ⟨rfl, HK.out.mono (fun _ h => h.elim), T, Tx.refl _ _ _, HH.out.keep HK.out (fun h => h) (fun h => h) (fun h => h) (fun _ _ h => h)⟩
  | some k =>
    rw [hk] at hX hfr
    dsimp only at hX hfr
    have hl := look_law (mkW w) w.heap.size 4 regM s hat hfr z242
    dsimp only at hl
    have HX : Hid _ := hX
    obtain ⟨k1, k4⟩ := kindN_le hk
    have hmc := mk_calls hb k1 k4 (mkW w)
    clear hX hk hfr hat
    unfold fnV at hl
    have hkc : k = 1 ∨ k = 2 ∨ k = 3 ∨ k = 4 := by omega
    rcases hkc with rfl | rfl | rfl | rfl
    all_goals
      clear k1 k4
      simp only [Nat.reduceAdd, Nat.reduceSub] at hl hmc
      generalize mkW w = w5 at *
      go_enter Tryz.func88, Tryz.ntmps88
      go_wp2_with fail
      refine hmk.mono ?_
      rintro en w6 ⟨rfl, rfl⟩
      go_wp2_with fail
      refine hmc.mono ?_
      rintro en w7 ⟨v, rfl, h1, k7, hf⟩
      obtain ⟨ty, vx, rfl⟩ : ∃ ty vx, v = .iface ty vx := by
        rcases hf with ⟨_, fb, e, _⟩ | ⟨_, e⟩ | ⟨_, e⟩ | ⟨_, e⟩ <;> exact ⟨_, _, e⟩
      have hW : Kp (fun _ => False) w w7 := HK.out.trans k7
      have hf' := hf.mono (T' := fun b => w.heap.size ≤ b ∧ b < w7.heap.size) (fun b hb => ⟨Nat.le_trans HK.out.size hb.1, hb.2⟩)
      obtain ⟨w8, hr, c8, g8, k8, T', hT, hH⟩ := HH.out.bind (w2 := w) HN.out (by omega) hW hf' h1
      have c7 : w7.cell? ⟨hb, 0, none⟩ = some (.slice (some ⟨bb, 0, none⟩) n 4) := by rw [hW.cell (p := ⟨hb, 0, none⟩) HH.out.lt.1 (fun h => h)]; exact c0
      have HK8 : Hid _ := k8
      have HT8 : Hid _ := hT
      have HH8 : Hid _ := hH
      clear hf hf' hmk hmc hl k8 hT hH
      go_wp2_with (at_builtin; refine wpList_app rfl _ _ 166 rfl hr ?_)
      refine bodyPost_ret (v := .int .i64 0) (by simp [results, Tryz.results88, go_sem]) rfl ?_
      rw [← HX.out]
      exact ⟨rfl, HK8.out, T', HT8.out, HH8.out⟩
end
end Go.Proofs.Qxb6500275aGreatDoor
