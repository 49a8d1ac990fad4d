import Derived.Test.Qxb6500275aGreatDoorPp5
set_option maxRecDepth 100000
set_option linter.unusedVariables false
set_option linter.unusedSimpArgs false
namespace Go.Proofs.Qxb6500275aGreatDoor
open Go Go.RowKit
section
variable {w : World} {mb pb cb x : Nat} {M : Mod} {p : PS}
theorem PI.setH (h : PI p) (n : Nat) (hn : n ≤ 10) : PI { p with h := n } := ⟨h.g, h.dj, h.z, hn, h.lC⟩
set_option maxHeartbeats 8000000 in
theorem br_calls (h : Pd w pb cb x p) (hI : PI p) (hl : p.cells.length < 121) (i : Ins) (hi : InsOk i) (ho : i.op = 12 ∨ i.op = 13) {f : PF} {r : List PF} (hc : p.ctl = f :: r) :
    Calls Tryz.prog 159 #[.pointer (some ⟨pb, 0, none⟩), i.val] w (PO pb cb x w (brP p i)) := by
  obtain ⟨X, hX⟩ : ∃ X, brP p i = X := ⟨_, rfl⟩
  rw [hX]
  unfold brP at hX
  have htop : p.top = f := by unfold PS.top; rw [hc]; rfl
  rw [htop] at hX
  obtain ⟨d, hd⟩ : ∃ d, r.length = d := ⟨_, rfl⟩
  obtain ⟨hh, hhe⟩ : ∃ hh, p.h = hh := ⟨_, rfl⟩
  obtain ⟨dd, hde⟩ : ∃ dd, p.dead = dd := ⟨_, rfl⟩
  obtain ⟨nc, hnc⟩ : ∃ nc, p.cells.length = nc := ⟨_, rfl⟩
  have hl' := hl
  rw [hnc] at hl
  have hctl : p.ctl.length = d + 1 := by rw [hc]; simp; exact hd
  have HW : Hid (∀ W, Pd W pb cb x p → PdW W pb cb nc d hh dd f) := fun W hW => hW.walk hc hnc hl hd hhe hde
  have hh10 := hI.h
  have hfl := (hI.g f (by rw [hc]; simp)).fl
  rw [hhe, hctl] at hX
  rw [hhe] at hh10
  have HX : Hid _ := hX
  have HP : Hid _ := h
  have HI : Hid _ := hI
  have HL : Hid _ := hl'
  have HCT : Hid _ := hctl
  have HHE : Hid _ := hhe
  obtain ⟨c0, c51, c52, c53, e0, e1, e2, e3, e4, e5, e6, h7, h7', ⟨v0, y0⟩, ⟨v1, y1⟩, ⟨v2, y2⟩, z0, z1, z2, f0, f51, f52, f53, pl, cl, ne, ne'⟩ := HW.out w h
  have hxr := hi.x
  unfold u32R at hxr
  obtain ⟨op, X1, Y1⟩ := i
  unfold Ins.val
  dsimp only at ho hxr HX ⊢
  obtain ⟨X1, rfl⟩ := Int.eq_ofNat_of_zero_le hxr.1
  rw [Int.toNat_natCast] at HX
  have hne1 : ¬ w.heap.size = pb := by omega
  have hne2 : ¬ w.heap.size = cb := by omega
  clear hX h hI hi hc htop hd hhe hnc hde hctl hl'
  rcases ho with rfl | rfl
  · rw [if_neg (by decide)] at HX
    by_cases k1 : d + 1 ≤ X1
    · rw [if_pos (.inl (by omega))] at HX
      have i1 : ((d : Int) + 1) ≤ (X1 : Int) := by omega
      go_enter Tryz.func159, Tryz.ntmps159
      go_wp2_with fail
      go_quiet (fail)
      go_wp2
      go_ret
      rw [← HX.out]
      exact ⟨((Kp.refl _ _).alloc _).drewM _, rfl, HP.out.pw.new (((Kp.refl _ _).alloc _).drewM _)⟩
    · have i1 : decide (((d : Int) + 1) ≤ (X1 : Int)) = false := decide_eq_false (by omega)
      by_cases k2 : hh < f.floor
      · rw [if_pos (.inr k2)] at HX
        go_enter Tryz.func159, Tryz.ntmps159
        go_wp2_with fail
        go_quiet (fail)
        go_wp2
        go_ret
        rw [← HX.out]
        exact ⟨((Kp.refl _ _).alloc _).drewM _, rfl, HP.out.pw.new (((Kp.refl _ _).alloc _).drewM _)⟩
      · rw [if_neg (by omega)] at HX
        have i2 : decide (hh < f.floor) = false := decide_eq_false (by omega)
        go_enter Tryz.func159, Tryz.ntmps159
        go_wp2_with fail
        go_quiet (fail)
        go_wp2_with (go_at_call 210; refine (branch_calls (HP.out.new (((Kp.refl _ _).alloc _).drewM _)) HI.out HL.out 12 X1 (by decide) (by rw [HCT.out]; omega)).mono ?_; rintro en w3 ⟨rfl, hk3, hp3⟩; have b0 : w3.cell? ⟨w.heap.size, 0, none⟩ = some (.int .u8 12) := by { rw [hk3.cell (p := ⟨w.heap.size, 0, none⟩) (by simp) (by unfold P2; dsimp only; omega)]; go_simp }; have HK3 : Hid _ := (((kp2 pb cb w).alloc _).drewM _).trans hk3; have HP3 : Hid _ := hp3; clear hk3 hp3; obtain ⟨_, _, _, c53', ff3, _, _, _, _, _, _, _, _, _⟩ := HP3.out.cells; have f53' := ff3 53 (by decide); clear ff3)
        go_ret
        rw [← HX.out]
        exact ⟨HK3.out.pp _, rfl, HP3.out.setDead 1⟩
  · rw [if_pos rfl] at HX
    by_cases k1 : d + 1 ≤ X1
    · rw [if_pos (.inl (by omega))] at HX
      have i1 : ((d : Int) + 1) ≤ (X1 : Int) := by omega
      go_enter Tryz.func159, Tryz.ntmps159
      go_wp2_with fail
      go_quiet (fail)
      go_wp2
      go_ret
      rw [← HX.out]
      exact ⟨(((kp2 pb cb w).pp _).alloc _).drewM _, rfl, ((HP.out.pw.set (i := 52) (by decide) (by decide) _).new ((Kp.refl _ _).alloc _)).new ((Kp.refl _ _).drewM _)⟩
    · have i1 : decide (((d : Int) + 1) ≤ (X1 : Int)) = false := decide_eq_false (by omega)
      by_cases k2 : hh < f.floor + 1
      · rw [if_pos (.inr k2)] at HX
        have i2 : (hh : Int) - 1 < (f.floor : Int) := by omega
        go_enter Tryz.func159, Tryz.ntmps159
        go_wp2_with fail
        go_quiet (fail)
        go_wp2
        go_ret
        rw [← HX.out]
        exact ⟨(((kp2 pb cb w).pp _).alloc _).drewM _, rfl, ((HP.out.pw.set (i := 52) (by decide) (by decide) _).new ((Kp.refl _ _).alloc _)).new ((Kp.refl _ _).drewM _)⟩
      · rw [if_neg (by omega)] at HX
        obtain ⟨hq, rfl⟩ : ∃ hq, hh = hq + 1 := ⟨hh - 1, by omega⟩
        rw [Nat.add_sub_cancel] at HX
        have i2 : decide (hq < f.floor) = false := decide_eq_false (by omega)
        have hbc := fun (W : World) (hW : Pd W pb cb x { p with h := hq }) => branch_calls hW (HI.out.setH hq (by omega)) HL.out 13 X1 (by decide) (by show X1 < p.ctl.length; rw [HCT.out]; omega)
        go_enter Tryz.func159, Tryz.ntmps159
        go_wp2_with fail
        go_quiet (fail)
        go_wp2_with (go_at_call 210; refine (hbc _ (((HP.out.setH hq).new ((Kp.refl _ _).alloc _)).drewM _)).mono ?_; rintro en w3 ⟨rfl, hk3, hp3⟩; have b0 : w3.cell? ⟨w.heap.size, 0, none⟩ = some (.int .u8 13) := by { rw [hk3.cell (p := ⟨w.heap.size, 0, none⟩) (by simp) (by unfold P2; dsimp only; omega)]; go_simp }; have HK3 : Hid _ := ((((kp2 pb cb w).pp _).alloc _).drewM _).trans hk3; have HP3 : Hid _ := hp3; clear hk3 hp3)
        go_ret
        rw [← HX.out]
        exact ⟨HK3.out, rfl, HP3.out⟩
end
end Go.Proofs.Qxb6500275aGreatDoor
