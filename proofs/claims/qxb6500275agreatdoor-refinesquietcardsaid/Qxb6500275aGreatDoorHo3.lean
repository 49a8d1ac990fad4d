import Derived.Test.Qxb6500275aGreatDoorHo2
import Derived.Deep.RegionWith
set_option maxRecDepth 100000
set_option linter.unusedVariables false
set_option linter.unusedSimpArgs false
namespace Go.Proofs.Qxb6500275aGreatDoor
open Go Go.RowKit
section
variable {w w' : World} {hb bb tb : Nat} {T : Nat → Prop} {H : Hm}
/- the tape is laid -/
def wordsS (s : ByteArray) (n : Nat) : List Nat := (List.range n).map (fun (i : Nat) => (wordF s (i : Int)).toNat)
def tapeS (H : Hm) (s : ByteArray) : Nat × Hm := if 48 < s.size then (1, H) else if s.size % 8 ≠ 0 then (34, H) else (0, { H with tp := wordsS s (s.size / 8) })
/- amid its laying: i words stand, all n are announced -/
structure Ht (w : World) (hb bb tb : Nat) (T : Nat → Prop) (H : Hm) (s : ByteArray) (n i : Nat) : Prop where
  is : ∃ F G C, Blk w hb 11 F ∧ Blk w bb 4 G ∧ Blk w tb 864 C ∧ HL w (upd F 8 (.int .i64 0)) G C hb bb tb T { H with tp := [] } 0 ∧ F 8 = .int .i64 n ∧ ∀ j, j < i → F (1 + j) = .int .u64 (wordF s (j : Int))
  d1 : hb ≠ bb
  d2 : hb ≠ tb
  d3 : bb ≠ tb
  t : ¬ T hb ∧ ¬ T bb ∧ ¬ T tb
theorem Ht.start (h : Hw w hb bb tb T H) (s : ByteArray) (n : Nat) : Ht ((w.setCell ⟨hb, 7, none⟩ (.int .i64 0)).setCell ⟨hb, 8, none⟩ (.int .i64 n)) hb bb tb T H s n 0 := by
  obtain ⟨⟨F, G, C, head, b1, b2, b3, hl⟩, d1, d2, d3, t⟩ := h
  have k : Kp (fun k => k = hb) w ((w.setCell ⟨hb, 7, none⟩ (.int .i64 0)).setCell ⟨hb, 8, none⟩ (.int .i64 n)) := ((Kp.refl (fun k => k = hb) w).setCell (p := ⟨hb, 7, none⟩) (.inl rfl) _).setCell (p := ⟨hb, 8, none⟩) (.inl rfl) _
  have hl' := hl.keep k (fun k hk e => t.1 (e ▸ hk))
  refine ⟨⟨_, G, C, (b1.set (i := 7) (by omega) _).set (i := 8) (by omega) _, b2.keep k (Ne.symm d1), b3.keep k (Ne.symm d2), ⟨?_, fun i v hi => by simp at hi, ?_, ?_, ?_, ?_, by simp, hl'.tr, hl'.bd, hl'.st⟩, upd_same _ _ _, fun j hj => by omega⟩, d1, d2, d3, t⟩
  · rw [upd_ne _ _ (by omega), upd_ne _ _ (by omega), upd_ne _ _ (by omega)]; exact hl.f0
  · rw [upd_ne _ _ (by omega), upd_ne _ _ (by omega), upd_same]; rfl
  · rw [upd_same]; rfl
  · rw [upd_ne _ _ (by omega), upd_ne _ _ (by omega), upd_ne _ _ (by omega)]; exact hl.f9
  · rw [upd_ne _ _ (by omega), upd_ne _ _ (by omega), upd_ne _ _ (by omega)]; exact hl.f10
theorem Ht.next {s : ByteArray} {n i : Nat} (h : Ht w hb bb tb T H s n i) (hi : i < 6) : Ht (w.drew.setCell ⟨hb, 1 + i, none⟩ (.int .u64 (wordF s (i : Int)))) hb bb tb T H s n (i + 1) := by
  obtain ⟨⟨F, G, C, b1, b2, b3, hl, f8, fw⟩, d1, d2, d3, t⟩ := h
  have k : Kp (fun k => k = hb) w (w.drew.setCell ⟨hb, 1 + i, none⟩ (.int .u64 (wordF s (i : Int)))) := ((Kp.refl (fun k => k = hb) w).drew).setCell (p := ⟨hb, 1 + i, none⟩) (.inl rfl) _
  have hl' := hl.keep k (fun k hk e => t.1 (e ▸ hk))
  have hx : ∀ m, m = 0 ∨ 7 ≤ m → upd (upd F (1 + i) (.int .u64 (wordF s (i : Int)))) 8 (.int .i64 0) m = upd F 8 (.int .i64 0) m := fun m hm => by
    by_cases e : m = 8
    · subst e; rw [upd_same, upd_same]
    · rw [upd_ne _ _ e, upd_ne _ _ e, upd_ne _ _ (by omega)]
  refine ⟨⟨_, G, C, b1.drew.set (i := 1 + i) (by omega) _, b2.keep k (Ne.symm d1), b3.keep k (Ne.symm d2), ⟨?_, fun i v hi => by simp at hi, ?_, ?_, ?_, ?_, by simp, hl'.tr, hl'.bd, hl'.st⟩, ?_, fun j hj => ?_⟩, d1, d2, d3, t⟩
  · rw [hx 0 (by omega)]; exact hl.f0
  · rw [hx 7 (by omega)]; exact hl.f7
  · rw [hx 8 (by omega)]; exact hl.f8
  · rw [hx 9 (by omega)]; exact hl.f9
  · rw [hx 10 (by omega)]; exact hl.f10
  · rw [upd_ne _ _ (by omega)]; exact f8
  · by_cases e : j = i
    · subst e; rw [upd_same]
    · rw [upd_ne _ _ (by omega)]; exact fw j (by omega)
theorem wordsS_get (s : ByteArray) (n i v : Nat) (h : (wordsS s n)[i]? = some v) : i < n ∧ (v : Int) = wordF s (i : Int) := by
  unfold wordsS at h
  have hi : i < n := by
    have := (List.getElem?_eq_some_iff.1 h).1
    simpa using this
  rw [List.getElem?_map, List.getElem?_range hi] at h
  simp at h
  have := (wordF_range s (i : Int)).1
  exact ⟨hi, by omega⟩
theorem Ht.done {s : ByteArray} {n : Nat} (h : Ht w hb bb tb T H s n n) (hn : n ≤ 6) : Hw w hb bb tb T { H with tp := wordsS s n } := by
  obtain ⟨⟨F, G, C, b1, b2, b3, hl, f8, fw⟩, d1, d2, d3, t⟩ := h
  have hlen : (wordsS s n).length = n := by simp [wordsS]
  refine ⟨⟨F, G, C, 0, b1, b2, b3, ⟨?_, fun i v hi => ?_, ?_, ?_, ?_, ?_, by dsimp only; omega, hl.tr, hl.bd, hl.st⟩⟩, d1, d2, d3, t⟩
  · have := hl.f0; rw [upd_ne _ _ (by omega)] at this; exact this
  · obtain ⟨h1, h2⟩ := wordsS_get s n i v hi
    rw [Nat.zero_add, fw i h1, h2]
  · have := hl.f7; rw [upd_ne _ _ (by omega)] at this; exact this
  · rw [f8]; dsimp only; rw [hlen]
  · have := hl.f9; rw [upd_ne _ _ (by omega)] at this; exact this
  · have := hl.f10; rw [upd_ne _ _ (by omega)] at this; exact this
theorem Ht.c {s : ByteArray} {n i : Nat} (h : Ht w hb bb tb T H s n i) : w.cell? ⟨hb, 8, none⟩ = some (.int .i64 n) ∧ ∀ j, j < 6 → (∃ v, w.cell? ⟨hb, 1 + j, none⟩ = some v) ∧ w.frozen? ⟨hb, 1 + j, none⟩ = false := by
  obtain ⟨⟨F, G, C, b1, b2, b3, hl, f8, fw⟩, d1, d2, d3, t⟩ := h
  exact ⟨by rw [b1.cell (by decide), f8], fun j hj => ⟨⟨_, b1.cell (by omega)⟩, b1.fz (by omega)⟩⟩
theorem tapeS_ok (h : HmOk H) (s : ByteArray) : HmOk (tapeS H s).2 := by
  unfold tapeS
  split
  · exact h
  split
  · exact h
  · refine ⟨h.bd, ⟨?_, fun v hv => ?_⟩, h.tr, h.rows⟩
    · simp [wordsS]; omega
    · unfold wordsS at hv
      obtain ⟨i, _, rfl⟩ := List.mem_map.1 hv
      have := wordF_range s (i : Int)
      omega
set_option maxHeartbeats 4000000 in
theorem tape_calls (h : Hw w hb bb tb T H) (s : ByteArray) (hs : s.size ≤ 9223372036854775807) : Calls Tryz.prog 48 #[.pointer (some ⟨hb, 0, none⟩), .string s] w (fun en w' => en = .returned (.int .i64 ((tapeS H s).1 : Int)) ∧ Kp (fun k => k = hb) w w' ∧ Hw w' hb bb tb T (tapeS H s).2) := by
  obtain ⟨X, hX⟩ : ∃ X, tapeS H s = X := ⟨_, rfl⟩
  rw [hX]
  unfold tapeS at hX
  obtain ⟨head, c0, c7, c8, c9, c10, fz, _⟩ := h.c
  have g7 := fz 7 (by decide)
  have g8 := fz 8 (by decide)
  have HH : Hid _ := h
  clear h fz c0 c9 c10
  obtain ⟨sz, hsz⟩ : ∃ sz, s.size = sz := ⟨_, rfl⟩
  rw [hsz] at hX hs
  by_cases h48 : 48 < sz
  · rw [if_pos h48] at hX
    have HX : Hid _ := hX
    clear hX
    have h48' : (48 : Int) < (sz : Int) := by omega
    go_enter Tryz.func48, Tryz.ntmps48
    go_wp2
    refine bodyPost_ret (v := .int .i64 1) (by simp [results, Tryz.results48, go_sem]) rfl ?_
    rw [← HX.out]
    exact ⟨rfl, Kp.refl _ _, HH.out⟩
  rw [if_neg h48] at hX
  have h48' : ¬ (48 : Int) < (sz : Int) := by omega
  have hrem : wrap64 ((sz : Int).tmod 8) = ((sz % 8 : Nat) : Int) := by
    rw [Int.tmod_eq_emod_of_nonneg (by omega)]
    unfold wrap64; omega
  by_cases h8 : sz % 8 ≠ 0
  · rw [if_pos h8] at hX
    have HX : Hid _ := hX
    clear hX
    have h8' : ¬ ((sz % 8 : Nat) : Int) = 0 := by omega
    go_enter Tryz.func48, Tryz.ntmps48
    go_wp2
    refine bodyPost_ret (v := .int .i64 34) (by simp [results, Tryz.results48, go_sem]) rfl ?_
    rw [← HX.out]
    exact ⟨rfl, Kp.refl _ _, HH.out⟩
  rw [if_neg h8] at hX
  have HX : Hid _ := hX
  clear hX
  obtain ⟨n, hn⟩ : ∃ n, sz / 8 = n := ⟨_, rfl⟩
  have hquo : wrap64 ((sz : Int) / 8) = (n : Int) := by unfold wrap64; omega
  have hquo2 : (sz : Int) / 8 = (n : Int) := by omega
  have h8' : ((sz % 8 : Nat) : Int) = 0 := by omega
  have h8'' : (sz : Int) % 8 = 0 := by omega
  have hn6 : n ≤ 6 := by omega
  rw [hn] at HX
  have HT : Hid (Kp (fun k => k = hb) w ((w.setCell ⟨hb, 7, none⟩ (.int .i64 0)).setCell ⟨hb, 8, none⟩ (.int .i64 n)) ∧ Ht ((w.setCell ⟨hb, 7, none⟩ (.int .i64 0)).setCell ⟨hb, 8, none⟩ (.int .i64 n)) hb bb tb T H s n 0) := ⟨((Kp.refl (fun k => k = hb) w).setCell (p := ⟨hb, 7, none⟩) (.inl rfl) _).setCell (p := ⟨hb, 8, none⟩) (.inl rfl) _, Ht.start HH.out s n⟩
  clear HH
  have HW : Hid (∀ (i : Int) (w : World), Calls Tryz.prog 45 #[.string s, .int .i64 i] w fun e w' => e = .returned (.int .u64 (wordF s i)) ∧ w' = w) := fun i w => word_any s i (by rw [hsz]; exact hs) w
  clear h8
  go_enter Tryz.func48, Tryz.ntmps48
  go_wp2
  generalize ((w.setCell ⟨hb, 7, none⟩ (.int .i64 0)).setCell ⟨hb, 8, none⟩ (.int .i64 (n : Int))) = w5 at HT ⊢
  clear c7 c8 g7 g8
  go_loopw [5] (fun ii w1 => ∃ (i : Nat) (u : World), u = w1 ∧ i ≤ n ∧ ii = .int .i64 i ∧ Hid (Kp (fun k => k = hb) w u ∧ Ht u hb bb tb T H s n i)) (fun ii _ => n + 1 - (intOf ii).toNat)
  case atStart => exact ⟨0, _, rfl, by omega, rfl, HT.out⟩
  case round =>
    clear HT
    obtain ⟨i, w1, e, hi, rfl, HT⟩ := hrel
    subst e
    obtain ⟨c8, cj⟩ := HT.out.2.c
    by_cases hlt : i < n
    · obtain ⟨⟨v1, c1⟩, g1⟩ := cj i (by omega)
      have hlt' : (i : Int) < (n : Int) := by omega
      have hi6 : (i : Int) < 6 := by omega
      clear cj
      go_wp2_with fail
      go_region_with (go_at_call 45; refine (HW.out _ _).mono ?_; rintro e w' ⟨rfl, rfl⟩)
      all_goals (try go_wp2_with fail)
      go_roundw
      case rel => exact ⟨i + 1, _, rfl, by omega, rfl, ((HT.out.1.drew).setCell (p := ⟨hb, 1 + i, none⟩) (.inl rfl) _), HT.out.2.next (by omega)⟩
      case measure => simp [intOf]; omega
    · have hie : i = n := by omega
      subst hie
      go_wp2
      refine bodyPost_ret (v := .int .i64 0) (by simp [results, Tryz.results48, go_sem]) rfl ?_
      rw [← HX.out]
      exact ⟨rfl, HT.out.1, HT.out.2.done hn6⟩
end
end Go.Proofs.Qxb6500275aGreatDoor
