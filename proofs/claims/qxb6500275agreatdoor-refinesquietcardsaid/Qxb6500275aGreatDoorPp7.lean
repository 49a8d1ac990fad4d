import Derived.Test.Qxb6500275aGreatDoorPp5
set_option maxRecDepth 100000
set_option linter.unusedVariables false
set_option linter.unusedSimpArgs false
namespace Go.Proofs.Qxb6500275aGreatDoor
open Go Go.RowKit
section
variable {w : World} {mb pb cb x : Nat} {M : Mod} {p : PS}
/- the innermost block's cells are set -/
theorem Pd.setTop {d k : Nat} {f f' : PF} {r : List PF} {v : Value} (h : Pd w pb cb x p) (hc : p.ctl = f :: r) (hd : r.length = d) (hk : k < 7) (hv : ∀ F : Nat → Value, F (2 + d * 7) = .int .u8 f.op ∧ F (2 + d * 7 + 1) = .int .i64 f.floor ∧ F (2 + d * 7 + 2) = .int .i64 f.arity ∧ F (2 + d * 7 + 3) = .int .i64 f.start ∧ F (2 + d * 7 + 4) = .int .i64 (f.chain.headD 0 : Nat) ∧ F (2 + d * 7 + 5) = .int .i64 f.cond ∧ F (2 + d * 7 + 6) = .int .i64 f.jump →
      (upd F (2 + d * 7 + k) v) (2 + d * 7) = .int .u8 f'.op ∧ (upd F (2 + d * 7 + k) v) (2 + d * 7 + 1) = .int .i64 f'.floor ∧ (upd F (2 + d * 7 + k) v) (2 + d * 7 + 2) = .int .i64 f'.arity ∧ (upd F (2 + d * 7 + k) v) (2 + d * 7 + 3) = .int .i64 f'.start ∧ (upd F (2 + d * 7 + k) v) (2 + d * 7 + 4) = .int .i64 (f'.chain.headD 0 : Nat) ∧ (upd F (2 + d * 7 + k) v) (2 + d * 7 + 5) = .int .i64 f'.cond ∧ (upd F (2 + d * 7 + k) v) (2 + d * 7 + 6) = .int .i64 f'.jump) :
    Pd (w.setCell ⟨pb, 2 + d * 7 + k, none⟩ v) pb cb x { p with ctl := f' :: r } := by
  subst hd
  obtain ⟨⟨F, G, b1, b2, hl, hC⟩, ne⟩ := h
  have h7 := hC.lC
  rw [hc] at h7
  simp at h7
  refine ⟨⟨_, _, b1.set (by omega) _, b2.other (Ne.symm ne) _, hl.updF (by omega) _, ?_⟩, ne⟩
  have hd := hC.d
  rw [hc] at hd
  refine ⟨fun i g hg => ?_, by rw [upd_ne _ _ (by omega)]; simpa using hd, by rw [upd_ne _ _ (by omega)]; exact hC.h, by rw [upd_ne _ _ (by omega)]; exact hC.dead, by simp; omega⟩
  dsimp only at hg
  have hi := (List.getElem?_eq_some_iff.1 hg).1
  simp at hi
  rw [List.reverse_cons] at hg
  have hcr : p.ctl.reverse = r.reverse ++ [f] := by rw [hc, List.reverse_cons]
  by_cases e : i = r.length
  · subst e
    rw [List.getElem?_append_right (by simp)] at hg
    simp at hg
    subst hg
    exact hv F (hC.ctl r.length f (by rw [hcr]; simp))
  · rw [List.getElem?_append_left (by simp; omega)] at hg
    obtain ⟨a0, a1, a2, a3, a4, a5, a6⟩ := hC.ctl i g (by rw [hcr, List.getElem?_append_left (by simp; omega)]; exact hg)
    exact ⟨by rw [upd_ne _ _ (by omega)]; exact a0, by rw [upd_ne _ _ (by omega)]; exact a1, by rw [upd_ne _ _ (by omega)]; exact a2, by rw [upd_ne _ _ (by omega)]; exact a3, by rw [upd_ne _ _ (by omega)]; exact a4, by rw [upd_ne _ _ (by omega)]; exact a5, by rw [upd_ne _ _ (by omega)]; exact a6⟩
theorem Pd.setCond {d n : Nat} {f : PF} {r : List PF} (h : Pd w pb cb x p) (hc : p.ctl = f :: r) (hd : r.length = d) : Pd (w.setCell ⟨pb, 2 + d * 7 + 5, none⟩ (.int .i64 (n : Int))) pb cb x { p with ctl := { f with cond := n } :: r } :=
  h.setTop hc hd (k := 5) (by decide) fun F ⟨a0, a1, a2, a3, a4, a5, a6⟩ => ⟨by rw [upd_ne _ _ (by omega)]; exact a0, by rw [upd_ne _ _ (by omega)]; exact a1, by rw [upd_ne _ _ (by omega)]; exact a2, by rw [upd_ne _ _ (by omega)]; exact a3, by rw [upd_ne _ _ (by omega)]; exact a4, upd_same _ _ _, by rw [upd_ne _ _ (by omega)]; exact a6⟩
theorem Pd.setJump {d n : Nat} {f : PF} {r : List PF} (h : Pd w pb cb x p) (hc : p.ctl = f :: r) (hd : r.length = d) : Pd (w.setCell ⟨pb, 2 + d * 7 + 6, none⟩ (.int .i64 (n : Int))) pb cb x { p with ctl := { f with jump := n } :: r } :=
  h.setTop hc hd (k := 6) (by decide) fun F ⟨a0, a1, a2, a3, a4, a5, a6⟩ => ⟨by rw [upd_ne _ _ (by omega)]; exact a0, by rw [upd_ne _ _ (by omega)]; exact a1, by rw [upd_ne _ _ (by omega)]; exact a2, by rw [upd_ne _ _ (by omega)]; exact a3, by rw [upd_ne _ _ (by omega)]; exact a4, by rw [upd_ne _ _ (by omega)]; exact a5, upd_same _ _ _⟩
/- what stands at turn's last part: the if's cell learns where the other arm begins -/
structure PdT (W : World) (pb cb nc d co : Nat) (f : PF) : Prop where
  c0 : W.cell? ⟨pb, 0, none⟩ = some (.slice (some ⟨cb, 0, none⟩) nc 121)
  e1 : W.cell? ⟨pb, 2 + d * 7 + 1, none⟩ = some (.int .i64 f.floor)
  s5 : ∃ v, W.cell? ⟨pb, 2 + d * 7 + 5, none⟩ = some v
  r5 : W.frozen? ⟨pb, 2 + d * 7 + 5, none⟩ = false
  s52 : ∃ v, W.cell? ⟨pb, 52, none⟩ = some v
  r52 : W.frozen? ⟨pb, 52, none⟩ = false
  s53 : ∃ v, W.cell? ⟨pb, 53, none⟩ = some v
  r53 : W.frozen? ⟨pb, 53, none⟩ = false
  sx : ∃ v, W.cell? ⟨cb, co * 3 + 1, none⟩ = some v
  rx : W.frozen? ⟨cb, co * 3 + 1, none⟩ = false
  pl : pb < W.heap.size
  cl : cb < W.heap.size
theorem Pd.turnW {nc d co : Nat} {f : PF} {r : List PF} (h : Pd w pb cb x p) (hc : p.ctl = f :: r) (hd : r.length = d) (hn : p.cells.length = nc) (hco : co < nc) : PdT w pb cb nc d co f := by
  obtain ⟨⟨e0, e1, e2, e3, e4, e5, e6⟩, h7⟩ := h.top hc
  obtain ⟨c0, c51, c52, c53, ff, g, fs, gs, lC, n, n0, pl, cl, ne⟩ := h.cells
  subst hd hn
  exact ⟨c0, e1, fs _ (by omega), ff _ (by omega), fs _ (by omega), ff _ (by omega), fs _ (by omega), ff _ (by omega), gs _ (by omega), g _ (by omega), pl, cl⟩
set_option maxHeartbeats 8000000 in
theorem turn_calls (h : Pd w pb cb x p) (hI : PI p) (hl : p.cells.length < 121) {f : PF} {r : List PF} (hc : p.ctl = f :: r) (hdd : p.dead ≤ 1000) :
    Calls Tryz.prog 157 #[.pointer (some ⟨pb, 0, none⟩)] w (PO pb cb x w (turnP p)) := by
  obtain ⟨X, hX⟩ : ∃ X, turnP p = X := ⟨_, rfl⟩
  rw [hX]
  unfold turnP at hX
  have htop : p.top = f := by unfold PS.top; rw [hc]; rfl
  have htl : p.ctl.tail = r := by rw [hc]; rfl
  rw [htop, htl] at hX
  obtain ⟨d, hd⟩ : ∃ d, r.length = d := ⟨_, rfl⟩
  obtain ⟨hh, hhe⟩ : ∃ hh, p.h = hh := ⟨_, rfl⟩
  obtain ⟨dd, hde⟩ : ∃ dd, p.dead = dd := ⟨_, rfl⟩
  obtain ⟨nc, hnc⟩ : ∃ nc, p.cells.length = nc := ⟨_, rfl⟩
  rw [hnc] at hl
  have HW : Hid (∀ W, Pd W pb cb x p → PdW W pb cb nc d hh dd f) := fun W hW => hW.walk hc hnc hl hd hhe hde
  have hh10 := hI.h
  have hG := hI.g f (by rw [hc]; simp)
  have hfl := hG.fl
  have har := hG.ar
  rw [hhe, hde, hnc] at hX
  rw [hhe] at hh10
  rw [hde] at hdd
  have HX : Hid _ := hX
  have HP : Hid _ := h
  have HNC : Hid _ := hnc
  have HC : Hid _ := hc
  have HD : Hid _ := hd
  have HDE : Hid _ := hde
  obtain ⟨c0, c51, c52, c53, e0, e1, e2, e3, e4, e5, e6, h7, h7', ⟨v0, y0⟩, ⟨v1, y1⟩, ⟨v2, y2⟩, z0, z1, z2, f0, f51, f52, f53, pl, cl, ne, ne'⟩ := HW.out w h
  have n0 := h.cells.n0
  rw [hnc] at n0
  have hco : f.cond ≠ 0 → f.cond < nc := fun hne => by
    obtain ⟨y, hy, _⟩ := hG.co hne
    have := (List.getElem?_eq_some_iff.1 hy).1
    omega
  clear hX h hI hc htop htl hd hhe hnc hde hG
  obtain ⟨co, hcoe⟩ : ∃ co, f.cond = co := ⟨_, rfl⟩
  rw [hcoe] at e5 hco HX
  by_cases h0 : dd = 0
  · subst h0
    by_cases k1 : hh = f.floor + f.arity
    · rw [if_neg (by omega)] at HX
      have i1 : ((hh : Int) != (f.floor : Int) + (f.arity : Int)) = false := by
        have : (hh : Int) = (f.floor : Int) + (f.arity : Int) := by omega
        rw [this]; simp
      by_cases k2 : co = 0
      · rw [if_pos k2] at HX
        subst k2
        go_enter Tryz.func157, Tryz.ntmps157
        go_wp2_with fail
        go_quiet (fail)
        go_wp2
        go_ret
        rw [← HX.out]
        exact ⟨(kp2 pb cb w).drewM _, rfl, HP.out.pw.new ((Kp.refl _ _).drewM _)⟩
      · rw [if_neg k2, if_pos rfl] at HX
        have k2b : ((co : Int) == 0) = false := by rw [beq_eq_false_iff_ne]; omega
        have hco' := hco k2
        have r6 : w.frozen? ⟨pb, 2 + d * 7 + 6, none⟩ = false := (HP.out.slots h7 6 (by decide)).2
        go_enter Tryz.func157, Tryz.ntmps157
        go_wp2_with fail
        go_quiet (fail)
        go_wp2_with fail
        go_region
        go_wp2_with fail
        refine absW (fun W => Pd W pb cb x { p with ctl := { f with jump := nc } :: r, cells := p.cells ++ [⟨224, 0, 0⟩] } ∧ Kp (P2 pb cb) w W) ?_ ?_
        · exact ⟨(((HP.out.drewM (nq + 1)).setJump (n := nc) HC.out HD.out).push HNC.out hl ⟨224, 0, 0⟩).new ((Kp.refl _ _).alloc _), (((((((kp2 pb cb w).drewM (nq + 1)).pp _).pc _).pc _).pc _).pp _).alloc _⟩
        rintro w5 ⟨hP5, hK5⟩
        have HP5 : Hid _ := hP5
        have HK5 : Hid _ := hK5
        clear c0 c51 c52 c53 e0 e1 e2 e3 e4 e5 e6 y0 y1 y2 z0 z1 z2 f0 f51 f52 f53 hP5 hK5
        obtain ⟨c0, e1, ⟨s5, s5e⟩, r5, ⟨s52, s52e⟩, r52, ⟨s53, s53e⟩, r53, ⟨sx, sxe⟩, rx, pl5, cl5⟩ := HP5.out.turnW (co := co) (nc := nc + 1) rfl HD.out (by simp; exact HNC.out) (by omega)
        try dsimp only at e1
        have hcn : (co : Int) < (nc : Int) + 1 := by omega
        have hPX := (((HP5.out.setX (a := co) (here := nc) (by simp; rw [HNC.out]; omega) k2).setCond (n := 0) rfl HD.out).setH f.floor).setDead 0
        have HPX : Hid _ := hPX
        clear hPX
        go_region
        go_wp2
        go_ret
        rw [← HX.out]
        exact ⟨((((HK5.out.pc _).pp _).pp _).pp _).drew, rfl, HPX.out.new (Kp.refl _ _).drew⟩
    · rw [if_pos ⟨rfl, k1⟩] at HX
      have i1 : ((hh : Int) != (f.floor : Int) + (f.arity : Int)) = true := by rw [bne_iff_ne]; omega
      go_enter Tryz.func157, Tryz.ntmps157
      go_wp2_with fail
      go_quiet (fail)
      go_wp2
      go_ret
      rw [← HX.out]
      exact ⟨(kp2 pb cb w).drewM _, rfl, HP.out.pw.new ((Kp.refl _ _).drewM _)⟩
  · rw [if_neg (by omega)] at HX
    have h0b : ((dd : Int) == 0) = false := by rw [beq_eq_false_iff_ne]; omega
    by_cases k2 : co = 0
    · rw [if_pos k2] at HX
      subst k2
      go_enter Tryz.func157, Tryz.ntmps157
      go_wp2_with fail
      go_quiet (fail)
      go_wp2
      go_ret
      rw [← HX.out]
      exact ⟨(kp2 pb cb w).drewM _, rfl, HP.out.pw.new ((Kp.refl _ _).drewM _)⟩
    · rw [if_neg k2, if_neg h0] at HX
      have k2b : ((co : Int) == 0) = false := by rw [beq_eq_false_iff_ne]; omega
      have hco' := hco k2
      obtain ⟨nc, rfl⟩ : ∃ m, nc = m + 1 := ⟨nc - 1, by omega⟩
      rw [Nat.add_sub_cancel] at HX
      go_enter Tryz.func157, Tryz.ntmps157
      go_wp2_with fail
      go_quiet (fail)
      go_wp2_with fail
      refine absW (fun W => Pd W pb cb x p ∧ Kp (P2 pb cb) w W) ?_ ?_
      · exact ⟨HP.out.drewM _, (kp2 pb cb w).drewM _⟩
      rintro w5 ⟨hP5, hK5⟩
      have HP5 : Hid _ := hP5
      have HK5 : Hid _ := hK5
      clear c0 c51 c52 c53 e0 e1 e2 e3 e4 e5 e6 y0 y1 y2 z0 z1 z2 f0 f51 f52 f53 hP5 hK5
      obtain ⟨c0, e1, ⟨s5, s5e⟩, r5, ⟨s52, s52e⟩, r52, ⟨s53, s53e⟩, r53, ⟨sx, sxe⟩, rx, pl5, cl5⟩ := HP5.out.turnW (co := co) (nc := nc + 1) HC.out HD.out HNC.out (by omega)
      have hcn : (co : Int) < (nc : Int) + 1 := by omega
      have hPX := (((HP5.out.setX (a := co) (here := nc) (by rw [HNC.out]; omega) k2).setCond (n := 0) HC.out HD.out).setH f.floor).setDead 0
      have HPX : Hid _ := hPX
      clear hPX
      go_region
      go_wp2
      go_ret
      rw [← HX.out]
      exact ⟨((((HK5.out.pc _).pp _).pp _).pp _).drew, rfl, HPX.out.new (Kp.refl _ _).drew⟩
end
end Go.Proofs.Qxb6500275aGreatDoor
