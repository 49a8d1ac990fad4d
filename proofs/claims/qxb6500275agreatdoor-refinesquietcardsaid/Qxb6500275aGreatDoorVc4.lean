import Derived.Test.Qxb6500275aGreatDoorVc3
set_option maxRecDepth 100000
set_option linter.unusedVariables false
set_option linter.unusedSimpArgs false
namespace Go.Proofs.Qxb6500275aGreatDoor
open Go Go.RowKit
section
variable {w : World} {vb mb : Nat} {M : Mod} {v : VS}
theorem isVal_quiet (t : Nat) (ht : isVal t) : Calls Tryz.prog 262 #[.int .u8 t] w (Qt w (.bool true)) := by
  unfold isVal at ht
  rcases ht with rfl | rfl | rfl | rfl
  all_goals
    go_enter Tryz.func262, Tryz.ntmps262
    go_wp2
    go_ret
    exact ⟨rfl, 0, rfl⟩
/- the blocks from the bottom -/
theorem Fl.rev : ∀ {c : List VF} {h : Nat}, Fl h c → ∀ (i : Nat) (f : VF), c.reverse[i]? = some f → f.floor ≤ h ∧ ∀ (g : VF), c.reverse[i + 1]? = some g → f.floor ≤ g.floor
  | [], h, hf, i, f, hi => by simp at hi
  | x :: r, h, hf, i, f, hi => by
    rw [List.reverse_cons] at hi ⊢
    by_cases hl : i < r.length
    · rw [List.getElem?_append_left (by simpa using hl)] at hi
      have h1 := Fl.rev hf.2 i f hi
      refine ⟨Nat.le_trans h1.1 hf.1, fun g hg => ?_⟩
      by_cases hl2 : i + 1 < r.length
      · rw [List.getElem?_append_left (by simpa using hl2)] at hg
        exact h1.2 g hg
      · rw [List.getElem?_append_right (by simp; omega)] at hg
        have e : i + 1 - r.reverse.length = 0 := by simp; omega
        rw [e] at hg
        simp at hg
        subst hg
        exact h1.1
    · rw [List.getElem?_append_right (by simp; omega)] at hi
      have hlen := (List.getElem?_eq_some_iff.1 hi).1
      simp at hlen
      have e : i - r.reverse.length = 0 := by simp; omega
      rw [e] at hi
      simp at hi
      subst hi
      refine ⟨hf.1, fun g hg => ?_⟩
      rw [List.getElem?_append_right (by simp; omega)] at hg
      have h2 := (List.getElem?_eq_some_iff.1 hg).1
      simp at h2
      omega
structure VdC (w : World) (vb : Nat) (v : VS) : Prop where
  cC : ∀ (j : Nat) (f : VF), v.ctl.reverse[j]? = some f → w.cell? ⟨vb, 12 + j * 4, none⟩ = some (.int .u8 f.op) ∧ w.cell? ⟨vb, 12 + j * 4 + 2, none⟩ = some (.int .i64 f.floor)
  cO : ∀ (i t : Nat), v.ops.reverse[i]? = some t → w.cell? ⟨vb, i, none⟩ = some (.int .u8 t)
theorem Vd.all (h : Vd w vb v) : VdC w vb v := by
  obtain ⟨F, h1, hl⟩ := h.is
  refine ⟨fun j f hj => ?_, fun i t hi => ?_⟩
  · have hlen := (List.getElem?_eq_some_iff.1 hj).1
    have := hl.lC
    simp at hlen
    obtain ⟨a0, a1, a2, a3⟩ := hl.cC j f hj
    exact ⟨by rw [h1.cell (by omega), a0], by rw [h1.cell (by omega), a2]⟩
  · have hlen := (List.getElem?_eq_some_iff.1 hi).1
    have := hl.lO
    simp at hlen
    rw [h1.cell (by omega), hl.cO i t hi]
set_option maxHeartbeats 8000000 in
theorem checkMid_calls (h : Vd w vb v) (hI : VI v) : Calls Tryz.prog 200 #[.pointer (some ⟨vb, 0, none⟩), .int .i64 v.ops.length, .int .i64 v.ctl.length] w (Qt w (.bool true)) := by
  have HC : Hid _ := h.all
  have HI : Hid _ := hI
  have hlo := hI.lO
  have hlc := hI.lC
  obtain ⟨n, hn⟩ : ∃ n, v.ops.length = n := ⟨_, rfl⟩
  obtain ⟨d, hd⟩ : ∃ d, v.ctl.length = d := ⟨_, rfl⟩
  rw [hn] at hlo
  rw [hd] at hlc
  rw [hn, hd]
  have HN : Hid _ := hn
  have HD : Hid _ := hd
  clear h hI hn hd
  go_enter Tryz.func200, Tryz.ntmps200
  go_wp2
  go_loopw [7, 8] (fun bb jj w1 => ∃ (j b m : Nat), j ≤ d ∧ jj = .int .i64 j ∧ bb = .int .i64 b ∧ w1 = w.drewN m ∧ Hid (∀ f, v.ctl.reverse[j]? = some f → b ≤ f.floor)) (fun bb jj _ => d + 1 - (intOf jj).toNat)
  case atStart => exact ⟨0, 0, 0, by omega, rfl, rfl, rfl, fun f _ => Nat.zero_le _⟩
  case round =>
    obtain ⟨j, b, m, hj, rfl, rfl, rfl, HB⟩ := hrel
    by_cases hlt : j < d
    · obtain ⟨f, hf⟩ : ∃ f, v.ctl.reverse[j]? = some f := ⟨_, List.getElem?_eq_getElem (by simpa [HD.out] using hlt)⟩
      obtain ⟨e0, e2⟩ := HC.out.cC j f hf
      have hfl := HI.out.fl.rev j f hf
      rw [HN.out] at hfl
      have hb := HB.out f hf
      have hop := (HI.out.ctl f (by have := List.mem_of_getElem? hf; simpa using this)).1
      have hfl1 := hfl.1
      have HF2 : Hid _ := hfl.2
      have i1 : (j : Int) < (d : Int) := by omega
      have i2 : decide ((f.floor : Int) < (b : Int)) = false := decide_eq_false (by omega)
      have i2' : (b : Int) ≤ (f.floor : Int) := by omega
      have i3 : decide ((n : Int) < (f.floor : Int)) = false := decide_eq_false (by omega)
      have i3' : (f.floor : Int) ≤ (n : Int) := by omega
      have i4 : decide ((f.op : Int) < 2) = false := decide_eq_false (by omega)
      have i4' : (2 : Int) ≤ (f.op : Int) := by omega
      have i5 : decide ((5 : Int) < (f.op : Int)) = false := decide_eq_false (by omega)
      have i5' : (f.op : Int) ≤ 5 := by omega
      have i6 : (j : Int) < 7 := by omega
      have hbot : j = 0 → f.floor = 0 ∧ f.op = 2 := fun h0 => by
        subst h0
        rw [← List.head?_eq_getElem?, List.head?_reverse] at hf
        exact HI.out.bot f hf
      clear hfl hb hop hf
      by_cases h0 : j = 0
      · obtain ⟨h1, h2⟩ := hbot h0
        subst h0
        rw [h2] at e0
        rw [h1] at e2
        clear hbot
        have hfl0 : Hid (f.floor = 0) := h1
        go_wp2
        go_light
        exact ⟨⟨1, 0, m, by omega, by go_num, rfl, by trivial, fun g hg => Nat.zero_le _⟩, by simp [intOf]⟩
      · have h0b : ((j : Int) == 0) = false := by rw [beq_eq_false_iff_ne]; omega
        clear hbot
        go_wp2
        go_light
        exact ⟨⟨j + 1, f.floor, m, by omega, by go_num, rfl, by trivial, fun g hg => HF2.out g hg⟩, by simp [intOf]; omega⟩
    · have hjd : j = d := by omega
      subst hjd
      go_wp2
      go_loopw [9] (fun ii w1 => ∃ (i m : Nat), i ≤ n ∧ ii = .int .i64 i ∧ w1 = w.drewN m) (fun ii _ => n + 1 - (intOf ii).toNat)
      case atStart => exact ⟨0, m, by omega, rfl, rfl⟩
      case round =>
        obtain ⟨i, m2, hi, rfl, rfl⟩ := hrel
        by_cases hlt : i < n
        · obtain ⟨t, ht⟩ : ∃ t, v.ops.reverse[i]? = some t := ⟨_, List.getElem?_eq_getElem (by simpa [HN.out] using hlt)⟩
          have e0 := HC.out.cO i t ht
          have hv := HI.out.ops t (by have := List.mem_of_getElem? ht; simpa using this)
          have i1 : (i : Int) < (n : Int) := by omega
          have i6 : (i : Int) < 11 := by omega
          clear ht
          rcases hv with h0 | h0
          · subst h0
            go_wp2
            go_light
            exact ⟨⟨i + 1, m2, by omega, by go_num, by trivial⟩, by simp [intOf]; omega⟩
          · have hq := fun (w' : World) => isVal_quiet (w := w') t h0
            have hne : ((t : Int) != 0) = true := by
              rw [bne_iff_ne]
              unfold isVal at h0
              omega
            clear h0
            go_wp2_with (go_at_call 262; refine (hq _).mono ?_; rintro en w3 ⟨rfl, m3, rfl⟩)
            go_light
            exact ⟨⟨i + 1, _, by omega, by go_num, rfl⟩, by simp [intOf]; omega⟩
        · go_wp2
          go_ret
          exact ⟨rfl, _, rfl⟩
set_option maxHeartbeats 8000000 in
theorem vcheck_calls (h : Vd w vb v) (hI : VI v) : Calls Tryz.prog 139 #[.pointer (some ⟨vb, 0, none⟩)] w (Qt w (.bool true)) := by
  obtain ⟨c11, g11, c40, g40, lO, lC⟩ := h.n
  obtain ⟨x, c41, g41, hx1, hx2⟩ := h.high
  have hcm := fun (m : Nat) => checkMid_calls (h.drewM m) hI
  obtain ⟨n, hn⟩ : ∃ n, v.ops.length = n := ⟨_, rfl⟩
  obtain ⟨d, hd⟩ : ∃ d, v.ctl.length = d := ⟨_, rfl⟩
  rw [hn] at c11 lO hx1 hcm
  rw [hd] at c40 lC hcm
  have i1 : decide ((x : Int) < (n : Int)) = false := decide_eq_false (by omega)
  have i2 : decide ((10 : Int) < (x : Int)) = false := decide_eq_false (by omega)
  have HV : Hid _ := h
  have HI : Hid _ := hI
  have HN : Hid _ := hn
  have HD : Hid _ := hd
  clear hn hd h hI hcm
  go_enter Tryz.func139, Tryz.ntmps139
  go_wp2_with fail
  go_quiet (fail)
  go_wp2_with fail
  have HV5 : Hid _ := HV.out.drewM nq
  have HE : Hid (∃ m, w.drewN nq = w.drewN m) := ⟨nq, rfl⟩
  generalize w.drewN nq = w5 at HV5 HE ⊢
  clear c11 g11 c40 g40 c41 g41
  obtain ⟨c11, g11, c40, g40, lO5, lC5⟩ := HV5.out.n
  rw [HN.out] at c11
  rw [HD.out] at c40
  have hcm := fun (m : Nat) => checkMid_calls (HV5.out.drewM m) HI.out
  rw [HN.out, HD.out] at hcm
  go_quiet ((go_at_call 200; exact Calls.quiet_of (hcm _)))
  go_wp2
  go_ret
  obtain ⟨m, hm⟩ := HE.out
  rw [hm]
  exact ⟨rfl, _, World.drewN_drewN _ _ _⟩
end
end Go.Proofs.Qxb6500275aGreatDoor
