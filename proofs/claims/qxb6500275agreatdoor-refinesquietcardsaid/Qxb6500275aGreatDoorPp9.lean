import Derived.Test.Qxb6500275aGreatDoorPp6
set_option maxRecDepth 100000
set_option linter.unusedVariables false
set_option linter.unusedSimpArgs false
namespace Go.Proofs.Qxb6500275aGreatDoor
open Go Go.RowKit
section
variable {w : World} {mb pb cb x : Nat} {M : Mod} {p : PS}
theorem Pd.none0 {q : PS} (h : Pd w pb cb x q) : Pw w pb cb x := h.pw
set_option maxHeartbeats 16000000 in
theorem ptable_calls {n0 : Nat} {ta : Option Addr} {tabs : List Int} (h : Pd w pb cb x p) (hI : PI p) (i : Ins) (hi : InsOk i) (hl : p.cells.length + 1 + i.y.toNat ≤ 121 ∨ ¬ (i.y ≤ tabs.length)) (ho : i.op = 14) {f : PF} {r : List PF} (hc : p.ctl = f :: r) (hl0 : p.cells.length < 121)
    (hT : TabAt w n0 (.slice ta tabs.length tabs.length) tabs) (hn0 : pb < n0 ∧ cb < n0) (hT24 : tabs.length ≤ 24) (hTr : ∀ t, t ∈ tabs → u32R t) :
    Calls Tryz.prog 160 #[.pointer (some ⟨pb, 0, none⟩), i.val, .slice ta tabs.length tabs.length] w (PO pb cb x w (tableP p i tabs)) := by
  obtain ⟨X, hX⟩ : ∃ X, tableP p i tabs = X := ⟨_, rfl⟩
  rw [hX]
  unfold tableP at hX
  have htop : p.top = f := by unfold PS.top; rw [hc]; rfl
  rw [htop] at hX
  obtain ⟨d, hd⟩ : ∃ d, r.length = d := ⟨_, rfl⟩
  obtain ⟨hh, hhe⟩ : ∃ hh, p.h = hh := ⟨_, rfl⟩
  obtain ⟨dd, hde⟩ : ∃ dd, p.dead = dd := ⟨_, rfl⟩
  obtain ⟨nc, hnc⟩ : ∃ nc, p.cells.length = nc := ⟨_, rfl⟩
  obtain ⟨nt, hnt⟩ : ∃ nt, tabs.length = nt := ⟨_, rfl⟩
  rw [hnc] at hl hl0
  rw [hnt] at hl hT24
  have hctl : p.ctl.length = d + 1 := by rw [hc]; simp; exact hd
  have HW : Hid (∀ W, Pd W pb cb x p → PdW W pb cb nc d hh dd f) := fun W hW => hW.walk hc hnc hl0 hd hhe hde
  have hh10 := hI.h
  have hfl := (hI.g f (by rw [hc]; simp)).fl
  rw [hhe, hnt] at hX
  rw [hhe] at hh10
  rw [hnt]
  have HX : Hid _ := hX
  have HP : Hid _ := h
  have HI : Hid _ := hI
  have HT : Hid _ := hT
  have HTR : Hid _ := hTr
  have HNT : Hid _ := hnt
  have HNC : Hid _ := hnc
  have HCT : Hid _ := hctl
  obtain ⟨c0, c51, c52, c53, e0, e1, e2, e3, e4, e5, e6, h7, h7', ⟨v0, y0⟩, ⟨v1, y1⟩, ⟨v2, y2⟩, z0, z1, z2, f0, f51, f52, f53, pl, cl, ne, ne'⟩ := HW.out w h
  have hxr := hi.x
  have hyr := hi.y
  unfold u32R at hxr
  unfold u64R at hyr
  obtain ⟨op, X1, Y1⟩ := i
  unfold Ins.val
  dsimp only at ho hxr hyr hl HX ⊢
  subst ho
  obtain ⟨X1, rfl⟩ := Int.eq_ofNat_of_zero_le hxr.1
  obtain ⟨Y1, rfl⟩ := Int.eq_ofNat_of_zero_le hyr.1
  simp only [Int.toNat_natCast] at HX hl
  have hne1 : ¬ w.heap.size = pb := by omega
  have hne2 : ¬ w.heap.size = cb := by omega
  clear hX h hI hi hc htop hd hhe hnc hde hctl hT hTr hnt
  by_cases k1 : hh < f.floor + 1
  · rw [if_pos (.inl k1)] at HX
    have i1 : (hh : Int) - 1 < (f.floor : Int) := by omega
    go_enter Tryz.func160, Tryz.ntmps160
    go_wp2_with fail
    go_quiet (fail)
    go_wp2
    go_ret
    rw [← HX.out]
    exact ⟨(((kp2 pb cb w).pp _).alloc _).drewM _, rfl, ((HP.out.pw.set (i := 52) (by decide) (by decide) _).new ((Kp.refl _ _).alloc _)).new ((Kp.refl _ _).drewM _)⟩
  · obtain ⟨hq, rfl⟩ : ∃ hq, hh = hq + 1 := ⟨hh - 1, by omega⟩
    have i1 : decide (hq < f.floor) = false := decide_eq_false (by omega)
    by_cases k2 : Y1 < 1
    · rw [if_pos (by omega)] at HX
      have k2' : Y1 = 0 := by omega
      subst k2'
      go_enter Tryz.func160, Tryz.ntmps160
      go_wp2_with fail
      go_quiet (fail)
      go_wp2
      go_ret
      rw [← HX.out]
      exact ⟨(((kp2 pb cb w).pp _).alloc _).drewM _, rfl, ((HP.out.pw.set (i := 52) (by decide) (by decide) _).new ((Kp.refl _ _).alloc _)).new ((Kp.refl _ _).drewM _)⟩
    · have i2 : decide ((Y1 : Int) < 1) = false := decide_eq_false (by omega)
      by_cases k3 : nt < Y1
      · rw [if_pos (by omega)] at HX
        go_enter Tryz.func160, Tryz.ntmps160
        go_wp2_with fail
        go_big_quiet (fail)
        go_wp2
        go_ret
        rw [← HX.out]
        exact ⟨(((kp2 pb cb w).pp _).alloc _).drewM _, rfl, ((HP.out.pw.set (i := 52) (by decide) (by decide) _).new ((Kp.refl _ _).alloc _)).new ((Kp.refl _ _).drewM _)⟩
      · have i3 : decide (nt < Y1) = false := decide_eq_false (by omega)
        have hYn : (Y1 : Int) ≤ (nt : Int) := by omega
        by_cases k4 : nt - Y1 < X1
        · rw [if_pos (by omega)] at HX
          have i4 : (nt : Int) - (Y1 : Int) < (X1 : Int) := by omega
          go_enter Tryz.func160, Tryz.ntmps160
          go_wp2_with fail
          go_big_quiet (fail)
          go_wp2
          go_ret
          rw [← HX.out]
          exact ⟨(((kp2 pb cb w).pp _).alloc _).drewM _, rfl, ((HP.out.pw.set (i := 52) (by decide) (by decide) _).new ((Kp.refl _ _).alloc _)).new ((Kp.refl _ _).drewM _)⟩
        · rw [if_neg (by omega)] at HX
          rw [Nat.add_sub_cancel] at HX
          have i4 : decide ((nt : Int) - (Y1 : Int) < (X1 : Int)) = false := decide_eq_false (by omega)
          have hroom : nc + 1 + Y1 ≤ 121 := by omega
          obtain ⟨kt, hta⟩ : ∃ kt, ta = some ⟨kt, 0, none⟩ ∧ n0 ≤ kt := by
            obtain ⟨a, ha, hat⟩ := HT.out.at_
            obtain ⟨t, ht⟩ : ∃ t, tabs[0]? = some t := ⟨_, List.getElem?_eq_getElem (by rw [HNT.out]; omega)⟩
            obtain ⟨k, fk, hk1, hk2, _⟩ := hat 0 t ht
            simp at ha
            exact ⟨k, by rw [ha]; exact hk1, hk2⟩
          obtain ⟨rfl, hkt⟩ := hta
          have hTat : ∀ (W : World), TabAt W n0 (.slice (some ⟨kt, 0, none⟩) tabs.length tabs.length) tabs → ∀ (i : Nat) (t : Int), tabs[i]? = some t → W.cell? ⟨kt, i, none⟩ = some (.int .u32 t) := fun W hW i t ht => by
            obtain ⟨a, ha, hat⟩ := hW.at_
            obtain ⟨k, fk, hk1, hk2, hc2, hR⟩ := hat i t ht
            simp at ha
            rw [← ha] at hk1
            simp at hk1
            subst hk1
            have e1 := hc2 0 (by decide)
            rw [Nat.add_zero, Nat.mul_one] at e1
            rw [e1, hR]
          have HTA : Hid _ := hTat
          clear hTat
          have hx24 : X1 ≤ 24 := by omega
          obtain ⟨R, hR⟩ : ∃ R, rowsP ⟨p.cells ++ [⟨14, (Y1 : Int), 0⟩], p.ctl, hq, p.dead⟩ ((tabs.drop X1).take Y1) = R := ⟨_, rfl⟩
          rw [hR] at HX
          have HR : Hid _ := hR
          clear hR
          have HI2 : Hid (PI ⟨p.cells ++ [⟨14, (Y1 : Int), 0⟩], p.ctl, hq, p.dead⟩) := HI.out.lay _ _ _ (by omega)
          go_enter Tryz.func160, Tryz.ntmps160
          go_wp2_with fail
          go_big_quiet (fail)
          go_wp2_with fail
          go_region
          go_wp2_with fail
          refine absW (fun W => Pd W pb cb x ⟨p.cells ++ [⟨14, (Y1 : Int), 0⟩], p.ctl, hq, p.dead⟩ ∧ Kp (P2 pb cb) w W) ?_ ?_
          · exact ⟨((((HP.out.setH hq).new ((Kp.refl _ _).alloc _)).drewM (nq + 1)).push HNC.out hl0 ⟨14, (Y1 : Int), 0⟩).new ((Kp.refl _ _).alloc _), ((((((((kp2 pb cb w).pp _).alloc _).drewM _).pc _).pc _).pc _).pp _).alloc _⟩
          rintro w5 ⟨hP5, hK5⟩
          have HP5 : Hid _ := hP5
          have HK5 : Hid _ := hK5
          clear c0 c51 c52 c53 e0 e1 e2 e3 e4 e5 e6 y0 y1 y2 z0 z1 z2 f0 f51 f52 f53 hP5 hK5
          rw [show X1 + Y1 - X1 = Y1 by omega]
          go_loopw [9] (fun ii w1 => ∃ (k : Nat) (q : PS), k ≤ Y1 ∧ ii = .int .i64 k ∧ Hid (Pd w1 pb cb x q ∧ PI q ∧ q.ctl.length = d + 1 ∧ q.cells.length = nc + 1 + k ∧ rowsP q (((tabs.drop X1).take Y1).drop k) = R) ∧ Hid (Kp (P2 pb cb) w w1)) (fun ii _ => Y1 + 1 - (intOf ii).toNat)
          case atStart => exact ⟨0, _, by omega, rfl, ⟨HP5.out, HI2.out, HCT.out, by simp; exact HNC.out, HR.out⟩, HK5.out⟩
          case round =>
            obtain ⟨k, q, hk, rfl, HQ, HK⟩ := hrel
            obtain ⟨hPq, hIq, hcq, hnq, hRq⟩ := HQ.out
            obtain ⟨c0, c51, c52, c53, ff, g, fs, gs, lC, n, _, pl5, cl5, _⟩ := hPq.cells
            rw [hcq] at c51
            rw [hnq] at c0
            have f53 := ff 53 (by decide)
            have HPq : Hid _ := hPq
            have HIq : Hid _ := hIq
            have HCq : Hid _ := hcq
            have HNq : Hid _ := hnq
            clear ff g fs gs lC n hPq hIq hcq hnq HQ c0 c52 HP5 HK5
            by_cases hlt : k < Y1
            · obtain ⟨t, ht⟩ : ∃ t, tabs[X1 + k]? = some t := ⟨_, List.getElem?_eq_getElem (by rw [HNT.out]; omega)⟩
              have hct := HTA.out _ (TabAt.keep HT.out HK.out (fun k hk => by unfold P2 at hk; omega)) (X1 + k) t ht
              have htr := HTR.out t (List.mem_of_getElem? ht)
              unfold u32R at htr
              obtain ⟨t, rfl⟩ := Int.eq_ofNat_of_zero_le htr.1
              have hdr : ((tabs.drop X1).take Y1).drop k = (t : Int) :: ((tabs.drop X1).take Y1).drop (k + 1) := by
                refine drop_cons ?_
                rw [List.getElem?_take_of_lt hlt, List.getElem?_drop]
                exact ht
              rw [hdr, rowsP] at hRq
              have HRq : Hid _ := hRq
              rw [HCq.out] at HRq
              clear hdr ht hRq
              have hkb : (k : Int) < (Y1 : Int) := by omega
              by_cases kge : d + 1 ≤ t
              · rw [if_pos (by omega)] at HRq
                have i5 : (d : Int) + 1 ≤ (t : Int) := by omega
                go_wp2_with fail
                go_big_quiet (fail)
                go_wp2
                go_ret
                rw [← HX.out, ← HRq.out]
                exact ⟨HK.out.drewM _, rfl, HPq.out.pw.new ((Kp.refl _ _).drewM _)⟩
              · rw [if_neg (by omega), Int.toNat_natCast] at HRq
                have i5 : decide ((d : Int) + 1 ≤ (t : Int)) = false := decide_eq_false (by omega)
                have hbr := HIq.out.branch (op := 225) (l := t) (by unfold isBr; omega) (by rw [HCq.out]; omega)
                have HBR : Hid _ := hbr
                clear hbr
                go_wp2_with fail
                go_big_quiet (fail)
                go_wp2_with (go_at_call 210; refine (branch_calls (HPq.out.drewM _) HIq.out (by rw [HNq.out]; omega) 225 t (by decide) (by rw [HCq.out]; omega)).mono ?_; rintro en w6 ⟨rfl, hk6, hp6⟩)
                go_light
                exact ⟨⟨k + 1, _, by omega, by go_num, ⟨hp6, HBR.out.1, by rw [HBR.out.2.1]; exact HCq.out, by rw [HBR.out.2.2.1, HNq.out]; omega, HRq.out⟩, (HK.out.drewM _).trans hk6⟩, by simp [intOf]; omega⟩
            · have hkY : k = Y1 := by omega
              subst hkY
              rw [List.drop_of_length_le (by simp; omega), rowsP] at hRq
              have HRq : Hid _ := hRq
              clear hRq
              go_wp2
              go_ret
              rw [← HX.out, ← HRq.out]
              exact ⟨HK.out.pp _, rfl, HPq.out.setDead 1⟩
end
end Go.Proofs.Qxb6500275aGreatDoor
