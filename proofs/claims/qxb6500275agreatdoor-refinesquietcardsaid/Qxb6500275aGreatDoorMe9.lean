import Derived.Test.Qxb6500275aGreatDoorMe8
set_option maxRecDepth 100000
set_option linter.unusedVariables false
set_option linter.unusedSimpArgs false
namespace Go.Proofs.Qxb6500275aGreatDoor
open Go Go.RowKit
/- THE STORE IS MADE ANEW -/
def capR (mx : Int) : Nat := if mx = -1 then 6 else if mx ≤ 6 then mx.toNat else 6
def resetS (mm mx tm : Int) (ng : Nat) : Option Sm :=
  if mm < -1 ∨ 6 < mm then none else if mx < -1 ∨ (mx ≠ -1 ∧ mx < mm) then none else if mm = -1 ∧ mx ≠ -1 then none else if tm < -1 ∨ 8 < tm then none else
  some ⟨decide (0 ≤ mm), List.replicate (mm.toNat * 64) 0, if mm < 0 then 0 else capR mx * 64, List.replicate tm.toNat (-1), List.replicate ng 0⟩
theorem resetS_ok {mm mx tm : Int} {ng : Nat} (hn : ng ≤ 4) {S : Sm} (h : resetS mm mx tm ng = some S) : SmOk S := by
  unfold resetS at h
  split at h
  · simp at h
  split at h
  · simp at h
  split at h
  · simp at h
  split at h
  · simp at h
  rename_i h1 h2 h3 h4
  simp at h
  subst h
  refine ⟨?_, fun x hx => ?_, fun e => ?_, ⟨?_, fun x hx => ?_⟩, ⟨?_, fun x hx => ?_⟩⟩
  · dsimp only
    rw [List.length_replicate]
    unfold capR
    split <;> (try split) <;> (try split) <;> omega
  · have := (List.mem_replicate.1 hx).2; omega
  · simp at e
    dsimp only
    have : mm.toNat = 0 := by omega
    rw [this, if_pos (by omega)]
    exact ⟨rfl, rfl⟩
  · dsimp only; rw [List.length_replicate]; omega
  · have := (List.mem_replicate.1 hx).2; omega
  · dsimp only; rw [List.length_replicate]; exact hn
  · have := (List.mem_replicate.1 hx).2; omega
structure Rs (w0 w : World) (sb rb : Nat) (has : Bool) (len cap i : Nat) : Prop where
  kp : Kp (fun k => k = sb ∨ k = rb) w0 w
  is : ∃ F G, Blk w sb 17 F ∧ Blk w rb 384 G ∧ F 0 = .slice (some ⟨rb, 0, none⟩) 384 384 ∧ F 1 = .bool has ∧ F 2 = .slice (if has = true then some ⟨rb, 0, none⟩ else none) len cap ∧ (∀ j, j < i → F (3 + j) = .int .i64 (-1)) ∧ F 11 = .int .i64 i ∧ ∀ j, j < len → G j = .int .u8 0
  ne : sb ≠ rb
section
variable {w w0 w' : World} {sb rb : Nat} {S : Sm} {has : Bool} {len cap i : Nat}
theorem Rs.fz (h : Rs w0 w sb rb has len cap i) {j : Nat} (hj : j < 17) : (∃ v, w.cell? ⟨sb, j, none⟩ = some v) ∧ w.frozen? ⟨sb, j, none⟩ = false := by
  obtain ⟨_, ⟨F, G, b1, b2, _⟩, ne⟩ := h
  exact ⟨⟨_, b1.cell hj⟩, b1.fz hj⟩
theorem Rs.next (h : Rs w0 w sb rb has len cap i) (hi : i < 8) : Rs w0 ((w.setCell ⟨sb, 3 + i, none⟩ (.int .i64 (-1))).setCell ⟨sb, 11, none⟩ (.int .i64 ((i : Int) + 1))) sb rb has len cap (i + 1) := by
  obtain ⟨kp, ⟨F, G, b1, b2, f0, f1, f2, f3, f11, g⟩, ne⟩ := h
  refine ⟨(kp.setCell (p := ⟨sb, 3 + i, none⟩) (.inl (.inl rfl)) _).setCell (p := ⟨sb, 11, none⟩) (.inl (.inl rfl)) _, ⟨_, G, (b1.set (i := 3 + i) (by omega) _).set (i := 11) (by omega) _, (b2.other (Ne.symm ne) _).other (Ne.symm ne) _, ?_, ?_, ?_, fun j hj => ?_, ?_, g⟩, ne⟩
  · rw [upd_ne _ _ (by omega), upd_ne _ _ (by omega)]; exact f0
  · rw [upd_ne _ _ (by omega), upd_ne _ _ (by omega)]; exact f1
  · rw [upd_ne _ _ (by omega), upd_ne _ _ (by omega)]; exact f2
  · rw [upd_ne _ _ (by omega)]
    by_cases e : j = i
    · subst e; rw [upd_same]
    · rw [upd_ne _ _ (by omega)]; exact f3 j (by omega)
  · rw [upd_same]; rfl
theorem z91 (w : World) : (zeroValue 91).run Tryz.prog w = .ok (.int .u64 0) w := by kernel_rfl
theorem clear_u64 (W : World) {b n : Nat} {D : Nat → Value} (hB : Blk W b n D) (o k c : Nat) (hk : 0 < k) (ho : o + k ≤ n) (ty : TypeId) : (Builtin.clear_ #[67] ty #[.slice (some ⟨b, o, none⟩) k c]).run Tryz.prog W = .ok (.tuple #[]) (W.setCells b o (List.replicate k (.int .u64 0))) :=
  Go.Lib.run_clear_slice W 67 91 ty (.int .u64 0) (by kernel_rfl) z91 rfl rfl b o k c hk (fun j hj => by rw [hB.cell (by omega)]; rfl) (fun j hj => hB.fz (by omega))
theorem clear_0' (W : World) (p : Addr) (c : Nat) (ty : TypeId) : (Builtin.clear_ #[67] ty #[.slice (some p) 0 c]).run Tryz.prog W = .ok (.tuple #[]) W := by
  have h : Tryz.prog.underlying 67 = some (.slice 91) := by kernel_rfl
  simp [Builtin.clear_, run_underlying h]
theorem Rs.done (h : Rs w0 w sb rb has len cap i) (hi : i ≤ 8) {ng : Nat} (hn : ng ≤ 4) : Mm ((w.setCell ⟨sb, 16, none⟩ (.int .i64 ng)).setCells sb 12 (List.replicate ng (.int .u64 0))) sb rb ⟨has, List.replicate len 0, cap, List.replicate i (-1), List.replicate ng 0⟩ ∧ Kp (fun k => k = sb ∨ k = rb) w0 ((w.setCell ⟨sb, 16, none⟩ (.int .i64 ng)).setCells sb 12 (List.replicate ng (.int .u64 0))) := by
  obtain ⟨kp, ⟨F, G, b1, b2, f0, f1, f2, f3, f11, g⟩, ne⟩ := h
  have k1 : Kp (fun j => j = sb) (w.setCell ⟨sb, 16, none⟩ (.int .i64 ng)) ((w.setCell ⟨sb, 16, none⟩ (.int .i64 ng)).setCells sb 12 (List.replicate ng (.int .u64 0))) := kpS _ _ _ _
  refine ⟨⟨⟨_, G, blk_rep ng 12 _ _ (b1.set (i := 16) (by omega) (.int .i64 ng)) (by omega), (b2.other (Ne.symm ne) _).keep k1 (fun e => ne e.symm), ⟨?_, ?_, ?_, fun j t hj => ?_, ?_, fun j t hj => ?_, ?_, fun j t hj => ?_⟩⟩, ne⟩, (kp.setCell (p := ⟨sb, 16, none⟩) (.inl (.inl rfl)) _).trans (k1.mono (fun k hk => .inl hk))⟩
  · rw [if_neg (by omega), upd_ne _ _ (by omega)]; exact f0
  · rw [if_neg (by omega), upd_ne _ _ (by omega)]; exact f1
  · rw [if_neg (by omega), upd_ne _ _ (by omega)]; dsimp only; rw [List.length_replicate]; exact f2
  · obtain ⟨h1, h2⟩ := List.getElem?_eq_some_iff.1 hj
    rw [List.getElem_replicate] at h2
    rw [List.length_replicate] at h1
    rw [if_neg (by omega), upd_ne _ _ (by omega), ← h2]
    exact f3 j h1
  · rw [if_neg (by omega), upd_ne _ _ (by omega)]; dsimp only; rw [List.length_replicate]; exact f11
  · obtain ⟨h1, h2⟩ := List.getElem?_eq_some_iff.1 hj
    rw [List.getElem_replicate] at h2
    rw [List.length_replicate] at h1
    rw [if_pos (by omega), ← h2]
  · rw [if_neg (by omega), upd_same]; dsimp only; rw [List.length_replicate]
  · obtain ⟨h1, h2⟩ := List.getElem?_eq_some_iff.1 hj
    rw [List.getElem_replicate] at h2
    rw [List.length_replicate] at h1
    rw [← h2]
    exact g j h1
/- the start of the loop, without a memory and with one -/
theorem Rs.no (h : Mm w sb rb S) : Rs w (((w.setCell ⟨sb, 2, none⟩ (.slice none 0 0)).setCell ⟨sb, 1, none⟩ (.bool false)).setCell ⟨sb, 11, none⟩ (.int .i64 0)) sb rb false 0 0 0 := by
  obtain ⟨⟨F, G, b1, b2, hl⟩, ne⟩ := h
  refine ⟨(((Kp.refl (fun k => k = sb ∨ k = rb) w).setCell (p := ⟨sb, 2, none⟩) (.inl (.inl rfl)) _).setCell (p := ⟨sb, 1, none⟩) (.inl (.inl rfl)) _).setCell (p := ⟨sb, 11, none⟩) (.inl (.inl rfl)) _, ⟨_, G, ((b1.set (i := 2) (by omega) _).set (i := 1) (by omega) _).set (i := 11) (by omega) _, ((b2.other (Ne.symm ne) _).other (Ne.symm ne) _).other (Ne.symm ne) _, ?_, ?_, ?_, fun j hj => by omega, ?_, fun j hj => by omega⟩, ne⟩
  · rw [upd_ne _ _ (by omega), upd_ne _ _ (by omega), upd_ne _ _ (by omega)]; exact hl.bk
  · rw [upd_ne _ _ (by omega), upd_same]
  · rw [upd_ne _ _ (by omega), upd_ne _ _ (by omega), upd_same]; rfl
  · rw [upd_same]; rfl
def wYes (w : World) (sb rb len cap : Nat) : World := ((w.setCell ⟨sb, 2, none⟩ (.slice none 0 0)).setCell ⟨sb, 1, none⟩ (.bool true)).setCell ⟨sb, 2, none⟩ (.slice (some ⟨rb, 0, none⟩) len cap)
theorem Mm.yes (h : Mm w sb rb S) (len cap : Nat) : ∃ F G, Blk (wYes w sb rb len cap) sb 17 F ∧ Blk (wYes w sb rb len cap) rb 384 G ∧ F 0 = .slice (some ⟨rb, 0, none⟩) 384 384 ∧ F 1 = .bool true ∧ F 2 = .slice (some ⟨rb, 0, none⟩) len cap := by
  obtain ⟨⟨F, G, b1, b2, hl⟩, ne⟩ := h
  refine ⟨_, G, ((b1.set (i := 2) (by omega) _).set (i := 1) (by omega) _).set (i := 2) (by omega) _, ((b2.other (Ne.symm ne) _).other (Ne.symm ne) _).other (Ne.symm ne) _, ?_, ?_, ?_⟩
  · rw [upd_ne _ _ (by omega), upd_ne _ _ (by omega), upd_ne _ _ (by omega)]; exact hl.bk
  · rw [upd_ne _ _ (by omega), upd_same]
  · rw [upd_same]
theorem Rs.yes (h : Mm w sb rb S) (hl : len ≤ 384) : Rs w (((wYes w sb rb len cap).setCells rb 0 (List.replicate len (.int .u8 0))).setCell ⟨sb, 11, none⟩ (.int .i64 0)) sb rb true len cap 0 := by
  obtain ⟨F, G, b1, b2, f0, f1, f2⟩ := h.yes len cap
  have ne := h.ne
  have k1 : Kp (fun j => j = rb) (wYes w sb rb len cap) ((wYes w sb rb len cap).setCells rb 0 (List.replicate len (.int .u8 0))) := kpS _ _ _ _
  have k0 : Kp (fun k => k = sb ∨ k = rb) w (wYes w sb rb len cap) := (((Kp.refl (fun k => k = sb ∨ k = rb) w).setCell (p := ⟨sb, 2, none⟩) (.inl (.inl rfl)) _).setCell (p := ⟨sb, 1, none⟩) (.inl (.inl rfl)) _).setCell (p := ⟨sb, 2, none⟩) (.inl (.inl rfl)) _
  refine ⟨(k0.trans (k1.mono (fun k hk => .inr hk))).setCell (p := ⟨sb, 11, none⟩) (.inl (.inl rfl)) _, ⟨_, _, (b1.keep k1 ne).set (i := 11) (by omega) _, (blk_rep len 0 _ G b2 (by omega)).other (Ne.symm ne) _, ?_, ?_, ?_, fun j hj => by omega, ?_, fun j hj => ?_⟩, ne⟩
  · rw [upd_ne _ _ (by omega)]; exact f0
  · rw [upd_ne _ _ (by omega)]; exact f1
  · rw [upd_ne _ _ (by omega)]; exact f2
  · rw [upd_same]; rfl
  · rw [if_pos (by omega)]
def encRs : Option Sm → Int
  | none => 36
  | some _ => 0
def Ro (w : World) (sb rb : Nat) (S : Sm) (r : Option Sm) (en : Ending) (w' : World) : Prop := en = .returned (.int .i64 (encRs r)) ∧ Kp (fun k => k = sb ∨ k = rb) w w' ∧ Mm w' sb rb (r.getD S)
set_option maxHeartbeats 8000000 in
theorem reset_calls (h : Mm w sb rb S) (mm mx tm : Int) (ng : Nat) (hn : ng ≤ 4) (hr : -1 ≤ mm ∧ mm < 4294967296 ∧ -1 ≤ mx ∧ mx < 4294967296 ∧ -1 ≤ tm ∧ tm < 4294967296) : Calls Tryz.prog 89 #[.pointer (some ⟨sb, 0, none⟩), .int .i64 mm, .int .i64 mx, .int .i64 tm, .int .i64 ng] w (Ro w sb rb S (resetS mm mx tm ng)) := by
  obtain ⟨X, hX⟩ : ∃ X, resetS mm mx tm ng = X := ⟨_, rfl⟩
  rw [hX]
  unfold resetS at hX
  have HM : Hid _ := h
  obtain ⟨⟨v1, c1⟩, g1⟩ := h.fz (i := 1) (by decide)
  obtain ⟨⟨v2, c2⟩, g2⟩ := h.fz (i := 2) (by decide)
  obtain ⟨⟨v11, c11⟩, g11⟩ := h.fz (i := 11) (by decide)
  have c0 := h.cells.c0
  clear h
  obtain ⟨r1, r2, r3, r4, r5, r6⟩ := hr
  have k1 : ¬ mm < -1 := by omega
  have k2 : ¬ mx < -1 := by omega
  have k3 : ¬ tm < -1 := by omega
  have k4 : ¬ (ng : Int) < 0 := by omega
  have k5 : ¬ (4 : Int) < (ng : Int) := by omega
  by_cases a1 : 6 < mm
  · rw [if_pos (.inr a1)] at hX
    have HX : Hid _ := hX
    clear hX
    go_enter Tryz.func89, Tryz.ntmps89
    go_wp2
    refine bodyPost_ret (v := .int .i64 36) (by simp [results, Tryz.results89, go_sem]) rfl ?_
    rw [← HX.out]
    exact ⟨rfl, Kp.refl _ _, HM.out⟩
  rw [if_neg (by omega)] at hX
  by_cases a2 : mx ≠ -1 ∧ mx < mm
  · rw [if_pos (.inr a2)] at hX
    have HX : Hid _ := hX
    clear hX
    obtain ⟨a2, a3⟩ := a2
    go_enter Tryz.func89, Tryz.ntmps89
    go_wp2
    refine bodyPost_ret (v := .int .i64 36) (by simp [results, Tryz.results89, go_sem]) rfl ?_
    rw [← HX.out]
    exact ⟨rfl, Kp.refl _ _, HM.out⟩
  rw [if_neg (by omega)] at hX
  by_cases a3 : mm = -1 ∧ mx ≠ -1
  · rw [if_pos a3] at hX
    have HX : Hid _ := hX
    clear hX
    obtain ⟨rfl, a3⟩ := a3
    have a4 : ¬ mx < -1 := by omega
    go_enter Tryz.func89, Tryz.ntmps89
    go_wp2
    refine bodyPost_ret (v := .int .i64 36) (by simp [results, Tryz.results89, go_sem]) rfl ?_
    rw [← HX.out]
    exact ⟨rfl, Kp.refl _ _, HM.out⟩
  rw [if_neg a3] at hX
  by_cases a4 : 8 < tm
  · rw [if_pos (.inr a4)] at hX
    have HX : Hid _ := hX
    clear hX
    have b1 : mx ≠ -1 → ¬ mx < mm := by omega
    by_cases e1 : mm = -1
    · have e2 : mx = -1 := by omega
      subst e1 e2
      go_enter Tryz.func89, Tryz.ntmps89
      go_wp2
      refine bodyPost_ret (v := .int .i64 36) (by simp [results, Tryz.results89, go_sem]) rfl ?_
      rw [← HX.out]
      exact ⟨rfl, Kp.refl _ _, HM.out⟩
    · by_cases e2 : mx = -1
      · subst e2
        go_enter Tryz.func89, Tryz.ntmps89
        go_wp2
        refine bodyPost_ret (v := .int .i64 36) (by simp [results, Tryz.results89, go_sem]) rfl ?_
        rw [← HX.out]
        exact ⟨rfl, Kp.refl _ _, HM.out⟩
      · have e3 : ¬ mx < mm := by omega
        go_enter Tryz.func89, Tryz.ntmps89
        go_wp2
        refine bodyPost_ret (v := .int .i64 36) (by simp [results, Tryz.results89, go_sem]) rfl ?_
        rw [← HX.out]
        exact ⟨rfl, Kp.refl _ _, HM.out⟩
  rw [if_neg (by omega)] at hX
  by_cases e1 : mm = -1
  · have e2 : mx = -1 := by omega
    subst e1 e2
    have HX : Hid _ := hX
    clear hX
    have hR := Rs.no HM.out
    have HR : Hid _ := hR
    clear hR
    go_enter Tryz.func89, Tryz.ntmps89
    go_wp2
    · generalize (((w.setCell ⟨sb, 2, none⟩ (.slice none 0 0)).setCell ⟨sb, 1, none⟩ (.bool false)).setCell ⟨sb, 11, none⟩ (.int .i64 0)) = w5 at HR ⊢
      clear c0 c1 c2 g1 g2 g11
      go_loopw [12, 84] (fun _ ii w1 => ∃ (i : Nat) (u : World), u = w1 ∧ i ≤ tm.toNat ∧ ii = .int .i64 i ∧ Hid (Rs w u sb rb false 0 0 i)) (fun _ ii _ => tm.toNat + 1 - (intOf ii).toNat)
      case atStart => exact ⟨0, _, rfl, by omega, rfl, HR.out⟩
      case round =>
        clear HR
        obtain ⟨i, w1, rfl, hi, rfl, HR⟩ := hrel
        obtain ⟨⟨v11, c11⟩, g11⟩ := HR.out.fz (j := 11) (by decide)
        by_cases hlt : (i : Int) < tm
        · have h8 : i < 8 := by omega
          obtain ⟨⟨v3, c3⟩, g3⟩ := HR.out.fz (j := 3 + i) (by omega)
          have h8' : (i : Int) < 8 := by omega
          go_wp2
          go_roundw
          case rel => exact ⟨i + 1, _, rfl, by omega, rfl, HR.out.next h8⟩
          case measure => simp [intOf]; omega
        · have hie : i = tm.toNat := by omega
          obtain ⟨⟨v16, c16⟩, g16⟩ := HR.out.fz (j := 16) (by decide)
          have hD := HR.out.done (by omega) hn
          have HD : Hid _ := hD
          by_cases hn0 : ng = 0
          · subst hn0
            have hcl := fun (W : World) (p : Addr) (c : Nat) => clear_0' W p c 0
            go_wp2
            refine bodyPost_ret (v := .int .i64 0) (by simp [results, Tryz.results89, go_sem]) rfl ?_
            rw [← HX.out]
            refine ⟨rfl, HD.out.2, ?_⟩
            have := HD.out.1
            rw [hie] at this
            exact this
          · have hcl : (Builtin.clear_ #[67] 0 #[.slice (some ⟨sb, 12, none⟩) ng 4]).run Tryz.prog (w1.setCell ⟨sb, 16, none⟩ (.int .i64 ng)) = .ok (.tuple #[]) ((w1.setCell ⟨sb, 16, none⟩ (.int .i64 ng)).setCells sb 12 (List.replicate ng (.int .u64 0))) := by
              obtain ⟨_, ⟨F, G, b1, b2, _⟩, ne⟩ := HR.out
              exact clear_u64 _ (b1.set (i := 16) (by omega) (.int .i64 ng)) 12 ng 4 (by omega) (by omega) 0
            go_wp2
            refine bodyPost_ret (v := .int .i64 0) (by simp [results, Tryz.results89, go_sem]) rfl ?_
            rw [← HX.out]
            refine ⟨rfl, HD.out.2, ?_⟩
            have := HD.out.1
            rw [hie] at this
            exact this
  · obtain ⟨m, rfl⟩ : ∃ m : Nat, mm = m := ⟨mm.toNat, by omega⟩
    rw [if_neg (by omega), decide_eq_true (by omega), Int.toNat_natCast] at hX
    have hm6 : m ≤ 6 := by omega
    have h6m : ¬ (6 : Int) < (m : Int) := by omega
    have hm0 : ¬ (m : Int) < -1 := by omega
    have hmn : ¬ (m : Int) = -1 := by omega
    have hmp : (0 : Int) ≤ (m : Int) := by omega
    have hw1 : wrap64 ((m : Int) * 64) = (m : Int) * 64 := by unfold wrap64; omega
    have hR := fun cap => Rs.yes (len := m * 64) (cap := cap) HM.out (by omega)
    have hY : ∀ cap, m ≠ 0 → (Builtin.clear_ #[104] 0 #[.slice (some ⟨rb, 0, none⟩) (m * 64) cap]).run Tryz.prog (wYes w sb rb (m * 64) cap) = .ok (.tuple #[]) ((wYes w sb rb (m * 64) cap).setCells rb 0 (List.replicate (m * 64) (.int .u8 0))) := fun cap h0 => by
      obtain ⟨F, G, b1, b2, f0, f1, f2⟩ := HM.out.yes (m * 64) cap
      exact clear_u8 _ b2 0 (m * 64) cap (by omega) (by omega) 0
    clear r1 r2 e1 a1 k1
    by_cases e2 : mx = -1
    · subst e2
      have hc6 : capR (-1) * 64 = 384 := rfl
      rw [hc6] at hX
      have HX : Hid _ := hX
      clear hX a2 a3 r3 r4 hc6
      have HR : Hid _ := hR 384
      have hcl := hY 384
      clear hR hY
      by_cases e3 : m = 0
      · subst e3
        have hcl := fun (W : World) (p : Addr) (c : Nat) => clear_0 W p c 0
        unfold wYes at HR
        rw [Nat.zero_mul] at HR HX
        replace HR : Hid (Rs w ((((w.setCell ⟨sb, 2, none⟩ (.slice none 0 0)).setCell ⟨sb, 1, none⟩ (.bool true)).setCell ⟨sb, 2, none⟩ (.slice (some ⟨rb, 0, none⟩) 0 384)).setCell ⟨sb, 11, none⟩ (.int .i64 0)) sb rb true 0 384 0) := HR.out
        clear hw1 hmn hm0 h6m hmp hm6
        go_enter Tryz.func89, Tryz.ntmps89
        go_wp2
        · generalize (((w.setCell ⟨sb, 2, none⟩ (.slice none 0 0)).setCell ⟨sb, 1, none⟩ (.bool true)).setCell ⟨sb, 2, none⟩ (.slice (some ⟨rb, 0, none⟩) 0 (384))).setCell ⟨sb, 11, none⟩ (.int .i64 0) = w5 at HR ⊢
          clear c0 c1 c2 g1 g2 g11 hcl
          go_loopw [12, 84] (fun _ ii w1 => ∃ (i : Nat) (u : World), u = w1 ∧ i ≤ tm.toNat ∧ ii = .int .i64 i ∧ Hid (Rs w u sb rb true 0 (384) i)) (fun _ ii _ => tm.toNat + 1 - (intOf ii).toNat)
          case atStart => exact ⟨0, _, rfl, by omega, rfl, HR.out⟩
          case round =>
            clear HR
            obtain ⟨i, w1, rfl, hi, rfl, HR⟩ := hrel
            obtain ⟨⟨v11, c11⟩, g11⟩ := HR.out.fz (j := 11) (by decide)
            by_cases hlt : (i : Int) < tm
            · have h8 : i < 8 := by omega
              obtain ⟨⟨v3, c3⟩, g3⟩ := HR.out.fz (j := 3 + i) (by omega)
              have h8' : (i : Int) < 8 := by omega
              go_wp2
              go_roundw
              case rel => exact ⟨i + 1, _, rfl, by omega, rfl, HR.out.next h8⟩
              case measure => simp [intOf]; omega
            · have hie : i = tm.toNat := by omega
              obtain ⟨⟨v16, c16⟩, g16⟩ := HR.out.fz (j := 16) (by decide)
              have hD := HR.out.done (by omega) hn
              have HD : Hid _ := hD
              by_cases hn0 : ng = 0
              · subst hn0
                have hcl := fun (W : World) (p : Addr) (c : Nat) => clear_0' W p c 0
                go_wp2
                refine bodyPost_ret (v := .int .i64 0) (by simp [results, Tryz.results89, go_sem]) rfl ?_
                rw [← HX.out]
                refine ⟨rfl, HD.out.2, ?_⟩
                have := HD.out.1
                rw [hie] at this
                exact this
              · have hcl : (Builtin.clear_ #[67] 0 #[.slice (some ⟨sb, 12, none⟩) ng 4]).run Tryz.prog (w1.setCell ⟨sb, 16, none⟩ (.int .i64 ng)) = .ok (.tuple #[]) ((w1.setCell ⟨sb, 16, none⟩ (.int .i64 ng)).setCells sb 12 (List.replicate ng (.int .u64 0))) := by
                  obtain ⟨_, ⟨F, G, b1, b2, _⟩, ne⟩ := HR.out
                  exact clear_u64 _ (b1.set (i := 16) (by omega) (.int .i64 ng)) 12 ng 4 (by omega) (by omega) 0
                go_wp2
                refine bodyPost_ret (v := .int .i64 0) (by simp [results, Tryz.results89, go_sem]) rfl ?_
                rw [← HX.out]
                refine ⟨rfl, HD.out.2, ?_⟩
                have := HD.out.1
                rw [hie] at this
                exact this
      · replace hcl := hcl e3
        obtain ⟨v11', d11, f11⟩ : ∃ v, ((wYes w sb rb (m * 64) 384).setCells rb 0 (List.replicate (m * 64) (.int .u8 0))).cell? ⟨sb, 11, none⟩ = some v ∧ ((wYes w sb rb (m * 64) 384).setCells rb 0 (List.replicate (m * 64) (.int .u8 0))).frozen? ⟨sb, 11, none⟩ = false := by
          obtain ⟨F, G, b1, b2, _⟩ := HM.out.yes (m * 64) 384
          have := b1.keep (kpS rb 0 (List.replicate (m * 64) (.int .u8 0)) _) HM.out.ne
          exact ⟨_, this.cell (by decide), this.fz (by decide)⟩
        unfold wYes at hcl HR d11 f11
        go_enter Tryz.func89, Tryz.ntmps89
        go_wp2
        · generalize ((((w.setCell ⟨sb, 2, none⟩ (.slice none 0 0)).setCell ⟨sb, 1, none⟩ (.bool true)).setCell ⟨sb, 2, none⟩ (.slice (some ⟨rb, 0, none⟩) (m * 64) (384))).setCells rb 0 (List.replicate (m * 64) (.int .u8 0))).setCell ⟨sb, 11, none⟩ (.int .i64 0) = w5 at HR ⊢
          clear c0 c1 c2 g1 g2 g11 hcl
          go_loopw [12, 84] (fun _ ii w1 => ∃ (i : Nat) (u : World), u = w1 ∧ i ≤ tm.toNat ∧ ii = .int .i64 i ∧ Hid (Rs w u sb rb true (m * 64) (384) i)) (fun _ ii _ => tm.toNat + 1 - (intOf ii).toNat)
          case atStart => exact ⟨0, _, rfl, by omega, rfl, HR.out⟩
          case round =>
            clear HR
            obtain ⟨i, w1, rfl, hi, rfl, HR⟩ := hrel
            obtain ⟨⟨v11, c11⟩, g11⟩ := HR.out.fz (j := 11) (by decide)
            by_cases hlt : (i : Int) < tm
            · have h8 : i < 8 := by omega
              obtain ⟨⟨v3, c3⟩, g3⟩ := HR.out.fz (j := 3 + i) (by omega)
              have h8' : (i : Int) < 8 := by omega
              go_wp2
              go_roundw
              case rel => exact ⟨i + 1, _, rfl, by omega, rfl, HR.out.next h8⟩
              case measure => simp [intOf]; omega
            · have hie : i = tm.toNat := by omega
              obtain ⟨⟨v16, c16⟩, g16⟩ := HR.out.fz (j := 16) (by decide)
              have hD := HR.out.done (by omega) hn
              have HD : Hid _ := hD
              by_cases hn0 : ng = 0
              · subst hn0
                have hcl := fun (W : World) (p : Addr) (c : Nat) => clear_0' W p c 0
                go_wp2
                refine bodyPost_ret (v := .int .i64 0) (by simp [results, Tryz.results89, go_sem]) rfl ?_
                rw [← HX.out]
                refine ⟨rfl, HD.out.2, ?_⟩
                have := HD.out.1
                rw [hie] at this
                exact this
              · have hcl : (Builtin.clear_ #[67] 0 #[.slice (some ⟨sb, 12, none⟩) ng 4]).run Tryz.prog (w1.setCell ⟨sb, 16, none⟩ (.int .i64 ng)) = .ok (.tuple #[]) ((w1.setCell ⟨sb, 16, none⟩ (.int .i64 ng)).setCells sb 12 (List.replicate ng (.int .u64 0))) := by
                  obtain ⟨_, ⟨F, G, b1, b2, _⟩, ne⟩ := HR.out
                  exact clear_u64 _ (b1.set (i := 16) (by omega) (.int .i64 ng)) 12 ng 4 (by omega) (by omega) 0
                go_wp2
                refine bodyPost_ret (v := .int .i64 0) (by simp [results, Tryz.results89, go_sem]) rfl ?_
                rw [← HX.out]
                refine ⟨rfl, HD.out.2, ?_⟩
                have := HD.out.1
                rw [hie] at this
                exact this
    · obtain ⟨k, rfl⟩ : ∃ k : Nat, mx = k := ⟨mx.toNat, by omega⟩
      have hkm : ¬ (k : Int) < (m : Int) := by omega
      by_cases e4 : k ≤ 6
      · have he4 : ¬ (6 : Int) < (k : Int) := by omega
        have hc6 : capR (k : Int) * 64 = k * 64 := by unfold capR; rw [if_neg (by omega), if_pos (by omega), Int.toNat_natCast]
        rw [hc6] at hX
        have HX : Hid _ := hX
        have hw2 : wrap64 ((k : Int) * 64) = (k : Int) * 64 := by unfold wrap64; omega
        have hk64 : k * 64 ≤ 384 := by omega
        have hmk : m * 64 ≤ k * 64 := by omega
        clear hX a2 a3 r3 r4 hc6 e4
        have HR : Hid _ := hR (k * 64)
        have hcl := hY (k * 64)
        clear hR hY
        by_cases e3 : m = 0
        · subst e3
          have hcl := fun (W : World) (p : Addr) (c : Nat) => clear_0 W p c 0
          unfold wYes at HR
          rw [Nat.zero_mul] at HR HX
          replace HR : Hid (Rs w ((((w.setCell ⟨sb, 2, none⟩ (.slice none 0 0)).setCell ⟨sb, 1, none⟩ (.bool true)).setCell ⟨sb, 2, none⟩ (.slice (some ⟨rb, 0, none⟩) 0 (k * 64))).setCell ⟨sb, 11, none⟩ (.int .i64 0)) sb rb true 0 (k * 64) 0) := HR.out
          clear hw1 hmn hm0 h6m hmp hm6
          go_enter Tryz.func89, Tryz.ntmps89
          go_wp2
          · generalize (((w.setCell ⟨sb, 2, none⟩ (.slice none 0 0)).setCell ⟨sb, 1, none⟩ (.bool true)).setCell ⟨sb, 2, none⟩ (.slice (some ⟨rb, 0, none⟩) 0 (k * 64))).setCell ⟨sb, 11, none⟩ (.int .i64 0) = w5 at HR ⊢
            clear c0 c1 c2 g1 g2 g11 hcl
            go_loopw [12, 84] (fun _ ii w1 => ∃ (i : Nat) (u : World), u = w1 ∧ i ≤ tm.toNat ∧ ii = .int .i64 i ∧ Hid (Rs w u sb rb true 0 (k * 64) i)) (fun _ ii _ => tm.toNat + 1 - (intOf ii).toNat)
            case atStart => exact ⟨0, _, rfl, by omega, rfl, HR.out⟩
            case round =>
              clear HR
              obtain ⟨i, w1, rfl, hi, rfl, HR⟩ := hrel
              obtain ⟨⟨v11, c11⟩, g11⟩ := HR.out.fz (j := 11) (by decide)
              by_cases hlt : (i : Int) < tm
              · have h8 : i < 8 := by omega
                obtain ⟨⟨v3, c3⟩, g3⟩ := HR.out.fz (j := 3 + i) (by omega)
                have h8' : (i : Int) < 8 := by omega
                go_wp2
                go_roundw
                case rel => exact ⟨i + 1, _, rfl, by omega, rfl, HR.out.next h8⟩
                case measure => simp [intOf]; omega
              · have hie : i = tm.toNat := by omega
                obtain ⟨⟨v16, c16⟩, g16⟩ := HR.out.fz (j := 16) (by decide)
                have hD := HR.out.done (by omega) hn
                have HD : Hid _ := hD
                by_cases hn0 : ng = 0
                · subst hn0
                  have hcl := fun (W : World) (p : Addr) (c : Nat) => clear_0' W p c 0
                  go_wp2
                  refine bodyPost_ret (v := .int .i64 0) (by simp [results, Tryz.results89, go_sem]) rfl ?_
                  rw [← HX.out]
                  refine ⟨rfl, HD.out.2, ?_⟩
                  have := HD.out.1
                  rw [hie] at this
                  exact this
                · have hcl : (Builtin.clear_ #[67] 0 #[.slice (some ⟨sb, 12, none⟩) ng 4]).run Tryz.prog (w1.setCell ⟨sb, 16, none⟩ (.int .i64 ng)) = .ok (.tuple #[]) ((w1.setCell ⟨sb, 16, none⟩ (.int .i64 ng)).setCells sb 12 (List.replicate ng (.int .u64 0))) := by
                    obtain ⟨_, ⟨F, G, b1, b2, _⟩, ne⟩ := HR.out
                    exact clear_u64 _ (b1.set (i := 16) (by omega) (.int .i64 ng)) 12 ng 4 (by omega) (by omega) 0
                  go_wp2
                  refine bodyPost_ret (v := .int .i64 0) (by simp [results, Tryz.results89, go_sem]) rfl ?_
                  rw [← HX.out]
                  refine ⟨rfl, HD.out.2, ?_⟩
                  have := HD.out.1
                  rw [hie] at this
                  exact this
        · replace hcl := hcl e3
          obtain ⟨v11', d11, f11⟩ : ∃ v, ((wYes w sb rb (m * 64) (k * 64)).setCells rb 0 (List.replicate (m * 64) (.int .u8 0))).cell? ⟨sb, 11, none⟩ = some v ∧ ((wYes w sb rb (m * 64) (k * 64)).setCells rb 0 (List.replicate (m * 64) (.int .u8 0))).frozen? ⟨sb, 11, none⟩ = false := by
            obtain ⟨F, G, b1, b2, _⟩ := HM.out.yes (m * 64) (k * 64)
            have := b1.keep (kpS rb 0 (List.replicate (m * 64) (.int .u8 0)) _) HM.out.ne
            exact ⟨_, this.cell (by decide), this.fz (by decide)⟩
          unfold wYes at hcl HR d11 f11
          go_enter Tryz.func89, Tryz.ntmps89
          go_wp2
          · generalize ((((w.setCell ⟨sb, 2, none⟩ (.slice none 0 0)).setCell ⟨sb, 1, none⟩ (.bool true)).setCell ⟨sb, 2, none⟩ (.slice (some ⟨rb, 0, none⟩) (m * 64) (k * 64))).setCells rb 0 (List.replicate (m * 64) (.int .u8 0))).setCell ⟨sb, 11, none⟩ (.int .i64 0) = w5 at HR ⊢
            clear c0 c1 c2 g1 g2 g11 hcl
            go_loopw [12, 84] (fun _ ii w1 => ∃ (i : Nat) (u : World), u = w1 ∧ i ≤ tm.toNat ∧ ii = .int .i64 i ∧ Hid (Rs w u sb rb true (m * 64) (k * 64) i)) (fun _ ii _ => tm.toNat + 1 - (intOf ii).toNat)
            case atStart => exact ⟨0, _, rfl, by omega, rfl, HR.out⟩
            case round =>
              clear HR
              obtain ⟨i, w1, rfl, hi, rfl, HR⟩ := hrel
              obtain ⟨⟨v11, c11⟩, g11⟩ := HR.out.fz (j := 11) (by decide)
              by_cases hlt : (i : Int) < tm
              · have h8 : i < 8 := by omega
                obtain ⟨⟨v3, c3⟩, g3⟩ := HR.out.fz (j := 3 + i) (by omega)
                have h8' : (i : Int) < 8 := by omega
                go_wp2
                go_roundw
                case rel => exact ⟨i + 1, _, rfl, by omega, rfl, HR.out.next h8⟩
                case measure => simp [intOf]; omega
              · have hie : i = tm.toNat := by omega
                obtain ⟨⟨v16, c16⟩, g16⟩ := HR.out.fz (j := 16) (by decide)
                have hD := HR.out.done (by omega) hn
                have HD : Hid _ := hD
                by_cases hn0 : ng = 0
                · subst hn0
                  have hcl := fun (W : World) (p : Addr) (c : Nat) => clear_0' W p c 0
                  go_wp2
                  refine bodyPost_ret (v := .int .i64 0) (by simp [results, Tryz.results89, go_sem]) rfl ?_
                  rw [← HX.out]
                  refine ⟨rfl, HD.out.2, ?_⟩
                  have := HD.out.1
                  rw [hie] at this
                  exact this
                · have hcl : (Builtin.clear_ #[67] 0 #[.slice (some ⟨sb, 12, none⟩) ng 4]).run Tryz.prog (w1.setCell ⟨sb, 16, none⟩ (.int .i64 ng)) = .ok (.tuple #[]) ((w1.setCell ⟨sb, 16, none⟩ (.int .i64 ng)).setCells sb 12 (List.replicate ng (.int .u64 0))) := by
                    obtain ⟨_, ⟨F, G, b1, b2, _⟩, ne⟩ := HR.out
                    exact clear_u64 _ (b1.set (i := 16) (by omega) (.int .i64 ng)) 12 ng 4 (by omega) (by omega) 0
                  go_wp2
                  refine bodyPost_ret (v := .int .i64 0) (by simp [results, Tryz.results89, go_sem]) rfl ?_
                  rw [← HX.out]
                  refine ⟨rfl, HD.out.2, ?_⟩
                  have := HD.out.1
                  rw [hie] at this
                  exact this
      · have he4 : (6 : Int) < (k : Int) := by omega
        have hc6 : capR (k : Int) * 64 = 384 := by unfold capR; rw [if_neg (by omega), if_neg (by omega)]
        rw [hc6] at hX
        have HX : Hid _ := hX
        clear hX a2 a3 r3 r4 hc6 e4
        have HR : Hid _ := hR 384
        have hcl := hY 384
        clear hR hY
        by_cases e3 : m = 0
        · subst e3
          have hcl := fun (W : World) (p : Addr) (c : Nat) => clear_0 W p c 0
          unfold wYes at HR
          rw [Nat.zero_mul] at HR HX
          replace HR : Hid (Rs w ((((w.setCell ⟨sb, 2, none⟩ (.slice none 0 0)).setCell ⟨sb, 1, none⟩ (.bool true)).setCell ⟨sb, 2, none⟩ (.slice (some ⟨rb, 0, none⟩) 0 384)).setCell ⟨sb, 11, none⟩ (.int .i64 0)) sb rb true 0 384 0) := HR.out
          clear hw1 hmn hm0 h6m hmp hm6
          go_enter Tryz.func89, Tryz.ntmps89
          go_wp2
          · generalize (((w.setCell ⟨sb, 2, none⟩ (.slice none 0 0)).setCell ⟨sb, 1, none⟩ (.bool true)).setCell ⟨sb, 2, none⟩ (.slice (some ⟨rb, 0, none⟩) 0 (384))).setCell ⟨sb, 11, none⟩ (.int .i64 0) = w5 at HR ⊢
            clear c0 c1 c2 g1 g2 g11 hcl
            go_loopw [12, 84] (fun _ ii w1 => ∃ (i : Nat) (u : World), u = w1 ∧ i ≤ tm.toNat ∧ ii = .int .i64 i ∧ Hid (Rs w u sb rb true 0 (384) i)) (fun _ ii _ => tm.toNat + 1 - (intOf ii).toNat)
            case atStart => exact ⟨0, _, rfl, by omega, rfl, HR.out⟩
            case round =>
              clear HR
              obtain ⟨i, w1, rfl, hi, rfl, HR⟩ := hrel
              obtain ⟨⟨v11, c11⟩, g11⟩ := HR.out.fz (j := 11) (by decide)
              by_cases hlt : (i : Int) < tm
              · have h8 : i < 8 := by omega
                obtain ⟨⟨v3, c3⟩, g3⟩ := HR.out.fz (j := 3 + i) (by omega)
                have h8' : (i : Int) < 8 := by omega
                go_wp2
                go_roundw
                case rel => exact ⟨i + 1, _, rfl, by omega, rfl, HR.out.next h8⟩
                case measure => simp [intOf]; omega
              · have hie : i = tm.toNat := by omega
                obtain ⟨⟨v16, c16⟩, g16⟩ := HR.out.fz (j := 16) (by decide)
                have hD := HR.out.done (by omega) hn
                have HD : Hid _ := hD
                by_cases hn0 : ng = 0
                · subst hn0
                  have hcl := fun (W : World) (p : Addr) (c : Nat) => clear_0' W p c 0
                  go_wp2
                  refine bodyPost_ret (v := .int .i64 0) (by simp [results, Tryz.results89, go_sem]) rfl ?_
                  rw [← HX.out]
                  refine ⟨rfl, HD.out.2, ?_⟩
                  have := HD.out.1
                  rw [hie] at this
                  exact this
                · have hcl : (Builtin.clear_ #[67] 0 #[.slice (some ⟨sb, 12, none⟩) ng 4]).run Tryz.prog (w1.setCell ⟨sb, 16, none⟩ (.int .i64 ng)) = .ok (.tuple #[]) ((w1.setCell ⟨sb, 16, none⟩ (.int .i64 ng)).setCells sb 12 (List.replicate ng (.int .u64 0))) := by
                    obtain ⟨_, ⟨F, G, b1, b2, _⟩, ne⟩ := HR.out
                    exact clear_u64 _ (b1.set (i := 16) (by omega) (.int .i64 ng)) 12 ng 4 (by omega) (by omega) 0
                  go_wp2
                  refine bodyPost_ret (v := .int .i64 0) (by simp [results, Tryz.results89, go_sem]) rfl ?_
                  rw [← HX.out]
                  refine ⟨rfl, HD.out.2, ?_⟩
                  have := HD.out.1
                  rw [hie] at this
                  exact this
        · replace hcl := hcl e3
          obtain ⟨v11', d11, f11⟩ : ∃ v, ((wYes w sb rb (m * 64) 384).setCells rb 0 (List.replicate (m * 64) (.int .u8 0))).cell? ⟨sb, 11, none⟩ = some v ∧ ((wYes w sb rb (m * 64) 384).setCells rb 0 (List.replicate (m * 64) (.int .u8 0))).frozen? ⟨sb, 11, none⟩ = false := by
            obtain ⟨F, G, b1, b2, _⟩ := HM.out.yes (m * 64) 384
            have := b1.keep (kpS rb 0 (List.replicate (m * 64) (.int .u8 0)) _) HM.out.ne
            exact ⟨_, this.cell (by decide), this.fz (by decide)⟩
          unfold wYes at hcl HR d11 f11
          go_enter Tryz.func89, Tryz.ntmps89
          go_wp2
          · generalize ((((w.setCell ⟨sb, 2, none⟩ (.slice none 0 0)).setCell ⟨sb, 1, none⟩ (.bool true)).setCell ⟨sb, 2, none⟩ (.slice (some ⟨rb, 0, none⟩) (m * 64) (384))).setCells rb 0 (List.replicate (m * 64) (.int .u8 0))).setCell ⟨sb, 11, none⟩ (.int .i64 0) = w5 at HR ⊢
            clear c0 c1 c2 g1 g2 g11 hcl
            go_loopw [12, 84] (fun _ ii w1 => ∃ (i : Nat) (u : World), u = w1 ∧ i ≤ tm.toNat ∧ ii = .int .i64 i ∧ Hid (Rs w u sb rb true (m * 64) (384) i)) (fun _ ii _ => tm.toNat + 1 - (intOf ii).toNat)
            case atStart => exact ⟨0, _, rfl, by omega, rfl, HR.out⟩
            case round =>
              clear HR
              obtain ⟨i, w1, rfl, hi, rfl, HR⟩ := hrel
              obtain ⟨⟨v11, c11⟩, g11⟩ := HR.out.fz (j := 11) (by decide)
              by_cases hlt : (i : Int) < tm
              · have h8 : i < 8 := by omega
                obtain ⟨⟨v3, c3⟩, g3⟩ := HR.out.fz (j := 3 + i) (by omega)
                have h8' : (i : Int) < 8 := by omega
                go_wp2
                go_roundw
                case rel => exact ⟨i + 1, _, rfl, by omega, rfl, HR.out.next h8⟩
                case measure => simp [intOf]; omega
              · have hie : i = tm.toNat := by omega
                obtain ⟨⟨v16, c16⟩, g16⟩ := HR.out.fz (j := 16) (by decide)
                have hD := HR.out.done (by omega) hn
                have HD : Hid _ := hD
                by_cases hn0 : ng = 0
                · subst hn0
                  have hcl := fun (W : World) (p : Addr) (c : Nat) => clear_0' W p c 0
                  go_wp2
                  refine bodyPost_ret (v := .int .i64 0) (by simp [results, Tryz.results89, go_sem]) rfl ?_
                  rw [← HX.out]
                  refine ⟨rfl, HD.out.2, ?_⟩
                  have := HD.out.1
                  rw [hie] at this
                  exact this
                · have hcl : (Builtin.clear_ #[67] 0 #[.slice (some ⟨sb, 12, none⟩) ng 4]).run Tryz.prog (w1.setCell ⟨sb, 16, none⟩ (.int .i64 ng)) = .ok (.tuple #[]) ((w1.setCell ⟨sb, 16, none⟩ (.int .i64 ng)).setCells sb 12 (List.replicate ng (.int .u64 0))) := by
                    obtain ⟨_, ⟨F, G, b1, b2, _⟩, ne⟩ := HR.out
                    exact clear_u64 _ (b1.set (i := 16) (by omega) (.int .i64 ng)) 12 ng 4 (by omega) (by omega) 0
                  go_wp2
                  refine bodyPost_ret (v := .int .i64 0) (by simp [results, Tryz.results89, go_sem]) rfl ?_
                  rw [← HX.out]
                  refine ⟨rfl, HD.out.2, ?_⟩
                  have := HD.out.1
                  rw [hie] at this
                  exact this
end
end Go.Proofs.Qxb6500275aGreatDoor
