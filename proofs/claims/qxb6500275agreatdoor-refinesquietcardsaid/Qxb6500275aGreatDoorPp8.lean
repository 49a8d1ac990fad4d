import Derived.Test.Qxb6500275aGreatDoorPp7
set_option maxRecDepth 100000
set_option linter.unusedVariables false
set_option linter.unusedSimpArgs false
namespace Go.Proofs.Qxb6500275aGreatDoor
open Go Go.RowKit
section
variable {w : World} {mb pb cb x : Nat} {M : Mod} {p : PS}
theorem Pd.shut1 {d : Nat} {f : PF} {r : List PF} (h : Pd w pb cb x p) (hc : p.ctl = f :: r) (hd : r.length = d) : Pd (w.setCell ⟨pb, 51, none⟩ (.int .i64 (d : Int))) pb cb x { p with ctl := r } := by
  subst hd
  obtain ⟨⟨F, G, b1, b2, hl, hC⟩, ne⟩ := h
  have h7 := hC.lC
  rw [hc] at h7
  simp at h7
  refine ⟨⟨_, _, b1.set (by omega) _, b2.other (Ne.symm ne) _, hl.updF (by omega) _, ?_⟩, ne⟩
  refine ⟨fun i g hg => ?_, upd_same _ _ _, by rw [upd_ne _ _ (by omega)]; exact hC.h, by rw [upd_ne _ _ (by omega)]; exact hC.dead, by show r.length ≤ 7; omega⟩
  have hi := (List.getElem?_eq_some_iff.1 hg).1
  simp at hi
  obtain ⟨a0, a1, a2, a3, a4, a5, a6⟩ := hC.ctl i g (by rw [hc, List.reverse_cons, List.getElem?_append_left (by simp; omega)]; exact hg)
  exact ⟨by rw [upd_ne _ _ (by omega)]; exact a0, by rw [upd_ne _ _ (by omega)]; exact a1, by rw [upd_ne _ _ (by omega)]; exact a2, by rw [upd_ne _ _ (by omega)]; exact a3, by rw [upd_ne _ _ (by omega)]; exact a4, by rw [upd_ne _ _ (by omega)]; exact a5, by rw [upd_ne _ _ (by omega)]; exact a6⟩
/- what stands behind the patching: the frame's copy in block n, the scratch of nc rows -/
structure PdS (W : World) (pb cb nc n : Nat) (f : PF) : Prop where
  c0 : W.cell? ⟨pb, 0, none⟩ = some (.slice (some ⟨cb, 0, none⟩) nc 121)
  f0 : W.frozen? ⟨pb, 0, none⟩ = false
  s51 : ∃ v, W.cell? ⟨pb, 51, none⟩ = some v
  r51 : W.frozen? ⟨pb, 51, none⟩ = false
  s52 : ∃ v, W.cell? ⟨pb, 52, none⟩ = some v
  r52 : W.frozen? ⟨pb, 52, none⟩ = false
  s53 : ∃ v, W.cell? ⟨pb, 53, none⟩ = some v
  r53 : W.frozen? ⟨pb, 53, none⟩ = false
  y0 : ∃ v, W.cell? ⟨cb, nc * 3, none⟩ = some v
  y1 : ∃ v, W.cell? ⟨cb, nc * 3 + 1, none⟩ = some v
  y2 : ∃ v, W.cell? ⟨cb, nc * 3 + 2, none⟩ = some v
  z0 : W.frozen? ⟨cb, nc * 3, none⟩ = false
  z1 : W.frozen? ⟨cb, nc * 3 + 1, none⟩ = false
  z2 : W.frozen? ⟨cb, nc * 3 + 2, none⟩ = false
  gs : ∀ a, a < nc → (∃ v, W.cell? ⟨cb, a * 3 + 1, none⟩ = some v) ∧ W.frozen? ⟨cb, a * 3 + 1, none⟩ = false
  pl : pb < W.heap.size
  cl : cb < W.heap.size
theorem Pd.shutW {nc n : Nat} {f : PF} (h : Pd w pb cb x p) (hn : p.cells.length = nc) (hl : nc < 121) : PdS w pb cb nc n f := by
  obtain ⟨c0, c51, c52, c53, ff, g, fs, gs, lC, _, n0, pl, cl, ne⟩ := h.cells
  subst hn
  exact ⟨c0, ff _ (by omega), fs _ (by omega), ff _ (by omega), fs _ (by omega), ff _ (by omega), fs _ (by omega), ff _ (by omega), gs _ (by omega), gs _ (by omega), gs _ (by omega), g _ (by omega), g _ (by omega), g _ (by omega), fun a ha => ⟨gs _ (by omega), g _ (by omega)⟩, pl, cl⟩
structure Frm (W : World) (n : Nat) (fo ar ch co ju : Nat) : Prop where
  b1 : W.cell? ⟨n, 1, none⟩ = some (.int .i64 fo)
  b2 : W.cell? ⟨n, 2, none⟩ = some (.int .i64 ar)
  b4 : W.cell? ⟨n, 4, none⟩ = some (.int .i64 ch)
  b5 : W.cell? ⟨n, 5, none⟩ = some (.int .i64 co)
  b6 : W.cell? ⟨n, 6, none⟩ = some (.int .i64 ju)
theorem Frm.keep {W W' : World} {n fo ar ch co ju : Nat} {S : Nat → Prop} (h : Frm W n fo ar ch co ju) (hk : Kp S W W') (hs : ¬ S n) : Frm W' n fo ar ch co ju := by
  obtain ⟨b1, b2, b4, b5, b6⟩ := h
  have hl := lt_of_cell b1
  exact ⟨by rw [hk.cell (p := ⟨n, 1, none⟩) hl hs]; exact b1, by rw [hk.cell (p := ⟨n, 2, none⟩) hl hs]; exact b2, by rw [hk.cell (p := ⟨n, 4, none⟩) hl hs]; exact b4, by rw [hk.cell (p := ⟨n, 5, none⟩) hl hs]; exact b5, by rw [hk.cell (p := ⟨n, 6, none⟩) hl hs]; exact b6⟩
set_option maxHeartbeats 64000000 in
theorem shut_calls (h : Pd w pb cb x p) (hI : PI p) (hl : p.cells.length < 121) {f : PF} {r : List PF} (hc : p.ctl = f :: r) (hdd : p.dead ≤ 1000) :
    Calls Tryz.prog 158 #[.pointer (some ⟨pb, 0, none⟩)] w (PO pb cb x w (shutP p)) := by
  obtain ⟨X, hX⟩ : ∃ X, shutP p = X := ⟨_, rfl⟩
  rw [hX]
  unfold shutP at hX
  have htop : p.top = f := by unfold PS.top; rw [hc]; rfl
  have htl : p.ctl.tail = r := by rw [hc]; rfl
  rw [htop, htl] at hX
  dsimp only at hX
  obtain ⟨d, hd⟩ : ∃ d, r.length = d := ⟨_, rfl⟩
  obtain ⟨hh, hhe⟩ : ∃ hh, p.h = hh := ⟨_, rfl⟩
  obtain ⟨dd, hde⟩ : ∃ dd, p.dead = dd := ⟨_, rfl⟩
  obtain ⟨nc, hnc⟩ : ∃ nc, p.cells.length = nc := ⟨_, rfl⟩
  rw [hnc] at hl
  have HW : Hid (∀ W, Pd W pb cb x p → PdW W pb cb nc d hh dd f) := fun W hW => hW.walk hc hnc hl hd hhe hde
  have hh10 := hI.h
  have hG := hI.g f (by rw [hc]; simp)
  have hfl := hG.fl
  have har := hG.ar
  rw [hhe, hde, hnc, hd] at hX
  rw [hhe] at hh10
  rw [hde] at hdd
  have HX : Hid _ := hX
  have HP : Hid _ := h
  have HNC : Hid _ := hnc
  have HC : Hid _ := hc
  have HD : Hid _ := hd
  have HCH : Hid _ := hG.ch
  have n0 := h.cells.n0
  rw [hnc] at n0
  have hco : f.cond ≠ 0 → f.cond < nc := fun hne => by
    obtain ⟨y, hy, _⟩ := hG.co hne
    have := (List.getElem?_eq_some_iff.1 hy).1
    omega
  have hju : f.jump ≠ 0 → f.jump < nc := fun hne => by
    obtain ⟨y, hy, _⟩ := hG.ju hne
    have := (List.getElem?_eq_some_iff.1 hy).1
    omega
  obtain ⟨c0, c51, c52, c53, e0, e1, e2, e3, e4, e5, e6, h7, h7', ⟨v0, y0⟩, ⟨v1, y1⟩, ⟨v2, y2⟩, z0, z1, z2, f0, f51, f52, f53, pl, cl, ne, ne'⟩ := HW.out w h
  clear hX h hI hc htop htl hd hhe hnc hde hG
  obtain ⟨co, hcoe⟩ : ∃ co, f.cond = co := ⟨_, rfl⟩
  obtain ⟨ju, hjue⟩ : ∃ ju, f.jump = ju := ⟨_, rfl⟩
  obtain ⟨ch, hche⟩ : ∃ ch, f.chain.headD 0 = ch := ⟨_, rfl⟩
  obtain ⟨fo, hfoe⟩ : ∃ fo, f.floor = fo := ⟨_, rfl⟩
  obtain ⟨ar, hare⟩ : ∃ ar, f.arity = ar := ⟨_, rfl⟩
  rw [hcoe] at e5 hco HX
  rw [hjue] at e6 hju HX
  rw [hche] at e4
  rw [hfoe] at e1 HX hfl
  rw [hare] at e2 HX har
  have HCHE : Hid _ := hche
  clear hcoe hjue hche hfoe hare
  obtain ⟨nm, rfl⟩ : ∃ m, nc = m + 1 := ⟨nc - 1, by omega⟩
  rw [Nat.add_sub_cancel] at HX
  have hne1 : ¬ w.heap.size = pb := by omega
  have hne2 : ¬ w.heap.size = cb := by omega
  by_cases h0 : dd = 0
  · subst h0
    by_cases k1 : hh = fo + ar
    · rw [if_neg (by omega)] at HX
      have i1 : ((hh : Int) != (fo : Int) + (ar : Int)) = false := by
        have : (hh : Int) = (fo : Int) + (ar : Int) := by omega
        rw [this]; simp
      by_cases k3 : 10 < fo + ar
      · exfalso; omega
      · rw [if_neg k3] at HX
        have i3 : (fo : Int) + (ar : Int) ≤ 10 := by omega
        have hpc := fun (W : World) (hW : Pd W pb cb x p) => patch_calls hW f.chain HCH.out nm (by omega)
        rw [HCHE.out] at hpc
        go_enter Tryz.func158, Tryz.ntmps158
        go_wp2_with fail
        go_quiet (fail)
        go_wp2_with fail
        refine (hpc _ (HP.out.new (((Kp.refl _ _).alloc _).drewM _))).mono ?_
        rintro en w3 ⟨rfl, hk3, hp3⟩
        have hfr : Frm w3 w.heap.size fo ar ch co ju := Frm.keep (W := (w.alloc (.cells #[.int .u8 f.op, .int .i64 fo, .int .i64 ar, .int .i64 f.start, .int .i64 ch, .int .i64 co, .int .i64 ju] 162)).drewN nq) ⟨by go_simp, by go_simp, by go_simp, by go_simp, by go_simp⟩ hk3 (by unfold P2; omega)
        have HK3 : Hid _ := (((kp2 pb cb w).alloc _).drewM _).trans hk3
        have HP3 : Hid _ := hp3
        clear hk3 hp3 hpc c0 c51 c52 c53 e0 e1 e2 e3 e4 e5 e6 y0 y1 y2 z0 z1 z2 f0 f51 f52 f53
        have hwl : w.heap.size < w3.heap.size := lt_of_cell hfr.b1
        have HFR : Hid _ := hfr
        obtain ⟨b1, b2, b4, b5, b6⟩ := hfr
        by_cases kc : co = 0
        · by_cases kj : ju = 0
          · by_cases kz : d = 0
            · obtain ⟨c0, f0, ⟨s51, s51e⟩, r51, ⟨s52, s52e⟩, r52, ⟨s53, s53e⟩, r53, ⟨v0, y0⟩, ⟨v1, y1⟩, ⟨v2, y2⟩, z0, z1, z2, gs, pl5, cl5⟩ := HP3.out.shutW (n := 0) (f := f) (nc := nm + 1) (by show (patchP p.cells nm f.chain).length = nm + 1; rw [patchP_len]; exact HNC.out) hl
              subst kc
              subst kj
              clear gs
              have hP4 := HP3.out
              have hK4 := HK3.out
              have hF4 := HFR.out
              obtain ⟨w4, hw4⟩ : ∃ W, W = w3 := ⟨_, rfl⟩
              rw [← hw4] at hP4 hK4 hF4 ⊢
              have HP4 : Hid _ := hP4
              have HK4 : Hid _ := hK4
              have HF4 : Hid _ := hF4
              clear hP4 hK4 c0 f0 s51e r51 s52e r52 s53e r53 y0 y1 y2 z0 z1 z2 b1 b2 b4 b5 b6 HP3 HK3 HFR hw4
              obtain ⟨c0, f0, ⟨s51, s51e⟩, r51, ⟨s52, s52e⟩, r52, ⟨s53, s53e⟩, r53, ⟨v0, y0⟩, ⟨v1, y1⟩, ⟨v2, y2⟩, z0, z1, z2, gs, pl5, cl5⟩ := HP4.out.shutW (n := 0) (f := f) (nc := nm + 1) (by show (patchP p.cells nm f.chain).length = nm + 1; rw [patchP_len]; exact HNC.out) hl
              obtain ⟨b1, b2, b4, b5, b6⟩ := hF4
              clear gs
              subst kz
              rw [if_pos rfl] at HX
              unfold setX0 at HX
              rw [if_pos rfl, if_pos rfl] at HX
              go_wp2
              go_ret
              rw [← HX.out]
              exact ⟨(((((((HK4.out.pp _).pp _).pp _).pc _).pc _).pc _).pp _).alloc _, rfl, ((((HP4.out.setH (fo + ar)).setDead 0).shut1 HC.out HD.out).push (by show (patchP p.cells nm f.chain).length = nm + 1; rw [patchP_len]; exact HNC.out) hl ⟨11, 0, 0⟩).new ((Kp.refl _ _).alloc _)⟩
            · obtain ⟨c0, f0, ⟨s51, s51e⟩, r51, ⟨s52, s52e⟩, r52, ⟨s53, s53e⟩, r53, ⟨v0, y0⟩, ⟨v1, y1⟩, ⟨v2, y2⟩, z0, z1, z2, gs, pl5, cl5⟩ := HP3.out.shutW (n := 0) (f := f) (nc := nm + 1) (by show (patchP p.cells nm f.chain).length = nm + 1; rw [patchP_len]; exact HNC.out) hl
              subst kc
              subst kj
              clear gs
              have hP4 := HP3.out
              have hK4 := HK3.out
              have hF4 := HFR.out
              obtain ⟨w4, hw4⟩ : ∃ W, W = w3 := ⟨_, rfl⟩
              rw [← hw4] at hP4 hK4 hF4 ⊢
              have HP4 : Hid _ := hP4
              have HK4 : Hid _ := hK4
              have HF4 : Hid _ := hF4
              clear hP4 hK4 c0 f0 s51e r51 s52e r52 s53e r53 y0 y1 y2 z0 z1 z2 b1 b2 b4 b5 b6 HP3 HK3 HFR hw4
              obtain ⟨c0, f0, ⟨s51, s51e⟩, r51, ⟨s52, s52e⟩, r52, ⟨s53, s53e⟩, r53, ⟨v0, y0⟩, ⟨v1, y1⟩, ⟨v2, y2⟩, z0, z1, z2, gs, pl5, cl5⟩ := HP4.out.shutW (n := 0) (f := f) (nc := nm + 1) (by show (patchP p.cells nm f.chain).length = nm + 1; rw [patchP_len]; exact HNC.out) hl
              obtain ⟨b1, b2, b4, b5, b6⟩ := hF4
              clear gs
              rw [if_neg kz] at HX
              have kzb : ((d : Int) == 0) = false := by rw [beq_eq_false_iff_ne]; omega
              unfold setX0 at HX
              rw [if_pos rfl, if_pos rfl] at HX
              go_wp2
              go_ret
              rw [← HX.out]
              exact ⟨((HK4.out.pp _).pp _).pp _, rfl, ((((HP4.out.setH (fo + ar)).setDead 0).shut1 HC.out HD.out))⟩
          · by_cases kz : d = 0
            · obtain ⟨c0, f0, ⟨s51, s51e⟩, r51, ⟨s52, s52e⟩, r52, ⟨s53, s53e⟩, r53, ⟨v0, y0⟩, ⟨v1, y1⟩, ⟨v2, y2⟩, z0, z1, z2, gs, pl5, cl5⟩ := HP3.out.shutW (n := 0) (f := f) (nc := nm + 1) (by show (patchP p.cells nm f.chain).length = nm + 1; rw [patchP_len]; exact HNC.out) hl
              subst kc
              obtain ⟨⟨sj, sje⟩, sjr⟩ := gs ju (hju kj)
              have hjn : (ju : Int) < (nm : Int) + 1 := by have := hju kj; omega
              have kjb : ((ju : Int) != 0) = true := by rw [bne_iff_ne]; omega
              clear gs
              have hP4 := HP3.out
              have hK4 := HK3.out
              have hF4 := HFR.out
              obtain ⟨w4, hw4⟩ : ∃ W, W = w3 := ⟨_, rfl⟩
              rw [← hw4] at hP4 hK4 hF4 ⊢
              have HP4 : Hid _ := hP4
              have HK4 : Hid _ := hK4
              have HF4 : Hid _ := hF4
              clear hP4 hK4 c0 f0 s51e r51 s52e r52 s53e r53 y0 y1 y2 z0 z1 z2 b1 b2 b4 b5 b6 HP3 HK3 HFR hw4 sje sjr
              obtain ⟨c0, f0, ⟨s51, s51e⟩, r51, ⟨s52, s52e⟩, r52, ⟨s53, s53e⟩, r53, ⟨v0, y0⟩, ⟨v1, y1⟩, ⟨v2, y2⟩, z0, z1, z2, gs, pl5, cl5⟩ := HP4.out.shutW (n := 0) (f := f) (nc := nm + 1) (by show (patchP p.cells nm f.chain).length = nm + 1; rw [patchP_len]; exact HNC.out) hl
              obtain ⟨b1, b2, b4, b5, b6⟩ := hF4
              obtain ⟨⟨sj, sje⟩, sjr⟩ := gs ju (hju kj)
              clear gs
              go_wp2_with fail
              go_region
              refine absW (fun W => Pd W pb cb x { p with cells := setX (patchP p.cells nm f.chain) ju nm } ∧ Kp (P2 pb cb) w W ∧ Frm W w.heap.size fo ar ch 0 ju) ?_ ?_
              · exact ⟨(HP4.out.setX (here := nm) (by show ju < (patchP p.cells nm f.chain).length; rw [patchP_len, HNC.out]; exact hju kj) kj).new (Kp.refl _ _).drew, (HK4.out.pc _).drew, HF4.out.keep (((kp2 pb cb w4).pc _).drew) (by unfold P2; omega)⟩
              rintro w6 ⟨hP6, hK6, hF6⟩
              have HP6 : Hid _ := hP6
              have HK6 : Hid _ := hK6
              clear hP6 hK6 c0 f0 s51e r51 s52e r52 s53e r53 y0 y1 y2 z0 z1 z2 b1 b2 b4 b5 b6 HP4 HK4 HF4 sje sjr
              obtain ⟨c0, f0, ⟨s51, s51e⟩, r51, ⟨s52, s52e⟩, r52, ⟨s53, s53e⟩, r53, ⟨v0, y0⟩, ⟨v1, y1⟩, ⟨v2, y2⟩, z0, z1, z2, gs, pl6, cl6⟩ := HP6.out.shutW (n := 0) (f := f) (nc := nm + 1) (by show (setX (patchP p.cells nm f.chain) ju nm).length = nm + 1; rw [setX_len]; rw [patchP_len]; exact HNC.out) hl
              obtain ⟨b1, b2, b4, b5, b6⟩ := hF6
              clear gs
              subst kz
              rw [if_pos rfl] at HX
              unfold setX0 at HX
              rw [if_neg kj, if_pos rfl] at HX
              go_wp2
              go_ret
              rw [← HX.out]
              exact ⟨(((((((HK6.out.pp _).pp _).pp _).pc _).pc _).pc _).pp _).alloc _, rfl, ((((HP6.out.setH (fo + ar)).setDead 0).shut1 HC.out HD.out).push (by show (setX (patchP p.cells nm f.chain) ju nm).length = nm + 1; rw [setX_len]; rw [patchP_len]; exact HNC.out) hl ⟨11, 0, 0⟩).new ((Kp.refl _ _).alloc _)⟩
            · obtain ⟨c0, f0, ⟨s51, s51e⟩, r51, ⟨s52, s52e⟩, r52, ⟨s53, s53e⟩, r53, ⟨v0, y0⟩, ⟨v1, y1⟩, ⟨v2, y2⟩, z0, z1, z2, gs, pl5, cl5⟩ := HP3.out.shutW (n := 0) (f := f) (nc := nm + 1) (by show (patchP p.cells nm f.chain).length = nm + 1; rw [patchP_len]; exact HNC.out) hl
              subst kc
              obtain ⟨⟨sj, sje⟩, sjr⟩ := gs ju (hju kj)
              have hjn : (ju : Int) < (nm : Int) + 1 := by have := hju kj; omega
              have kjb : ((ju : Int) != 0) = true := by rw [bne_iff_ne]; omega
              clear gs
              have hP4 := HP3.out
              have hK4 := HK3.out
              have hF4 := HFR.out
              obtain ⟨w4, hw4⟩ : ∃ W, W = w3 := ⟨_, rfl⟩
              rw [← hw4] at hP4 hK4 hF4 ⊢
              have HP4 : Hid _ := hP4
              have HK4 : Hid _ := hK4
              have HF4 : Hid _ := hF4
              clear hP4 hK4 c0 f0 s51e r51 s52e r52 s53e r53 y0 y1 y2 z0 z1 z2 b1 b2 b4 b5 b6 HP3 HK3 HFR hw4 sje sjr
              obtain ⟨c0, f0, ⟨s51, s51e⟩, r51, ⟨s52, s52e⟩, r52, ⟨s53, s53e⟩, r53, ⟨v0, y0⟩, ⟨v1, y1⟩, ⟨v2, y2⟩, z0, z1, z2, gs, pl5, cl5⟩ := HP4.out.shutW (n := 0) (f := f) (nc := nm + 1) (by show (patchP p.cells nm f.chain).length = nm + 1; rw [patchP_len]; exact HNC.out) hl
              obtain ⟨b1, b2, b4, b5, b6⟩ := hF4
              obtain ⟨⟨sj, sje⟩, sjr⟩ := gs ju (hju kj)
              clear gs
              go_wp2_with fail
              go_region
              refine absW (fun W => Pd W pb cb x { p with cells := setX (patchP p.cells nm f.chain) ju nm } ∧ Kp (P2 pb cb) w W ∧ Frm W w.heap.size fo ar ch 0 ju) ?_ ?_
              · exact ⟨(HP4.out.setX (here := nm) (by show ju < (patchP p.cells nm f.chain).length; rw [patchP_len, HNC.out]; exact hju kj) kj).new (Kp.refl _ _).drew, (HK4.out.pc _).drew, HF4.out.keep (((kp2 pb cb w4).pc _).drew) (by unfold P2; omega)⟩
              rintro w6 ⟨hP6, hK6, hF6⟩
              have HP6 : Hid _ := hP6
              have HK6 : Hid _ := hK6
              clear hP6 hK6 c0 f0 s51e r51 s52e r52 s53e r53 y0 y1 y2 z0 z1 z2 b1 b2 b4 b5 b6 HP4 HK4 HF4 sje sjr
              obtain ⟨c0, f0, ⟨s51, s51e⟩, r51, ⟨s52, s52e⟩, r52, ⟨s53, s53e⟩, r53, ⟨v0, y0⟩, ⟨v1, y1⟩, ⟨v2, y2⟩, z0, z1, z2, gs, pl6, cl6⟩ := HP6.out.shutW (n := 0) (f := f) (nc := nm + 1) (by show (setX (patchP p.cells nm f.chain) ju nm).length = nm + 1; rw [setX_len]; rw [patchP_len]; exact HNC.out) hl
              obtain ⟨b1, b2, b4, b5, b6⟩ := hF6
              clear gs
              rw [if_neg kz] at HX
              have kzb : ((d : Int) == 0) = false := by rw [beq_eq_false_iff_ne]; omega
              unfold setX0 at HX
              rw [if_neg kj, if_pos rfl] at HX
              go_wp2
              go_ret
              rw [← HX.out]
              exact ⟨((HK6.out.pp _).pp _).pp _, rfl, ((((HP6.out.setH (fo + ar)).setDead 0).shut1 HC.out HD.out))⟩
        · by_cases kj : ju = 0
          · by_cases kz : d = 0
            · obtain ⟨c0, f0, ⟨s51, s51e⟩, r51, ⟨s52, s52e⟩, r52, ⟨s53, s53e⟩, r53, ⟨v0, y0⟩, ⟨v1, y1⟩, ⟨v2, y2⟩, z0, z1, z2, gs, pl5, cl5⟩ := HP3.out.shutW (n := 0) (f := f) (nc := nm + 1) (by show (patchP p.cells nm f.chain).length = nm + 1; rw [patchP_len]; exact HNC.out) hl
              obtain ⟨⟨sx, sxe⟩, sxr⟩ := gs co (hco kc)
              have hcn : (co : Int) < (nm : Int) + 1 := by have := hco kc; omega
              have kcb : ((co : Int) != 0) = true := by rw [bne_iff_ne]; omega
              subst kj
              clear gs
              go_wp2_with fail
              go_region
              refine absW (fun W => Pd W pb cb x { p with cells := setX (patchP p.cells nm f.chain) co nm } ∧ Kp (P2 pb cb) w W ∧ Frm W w.heap.size fo ar ch co 0) ?_ ?_
              · exact ⟨(HP3.out.setX (here := nm) (by show co < (patchP p.cells nm f.chain).length; rw [patchP_len, HNC.out]; exact hco kc) kc).new (Kp.refl _ _).drew, (HK3.out.pc _).drew, HFR.out.keep (((kp2 pb cb w3).pc _).drew) (by unfold P2; omega)⟩
              rintro w4 ⟨hP4, hK4, hF4⟩
              have HP4 : Hid _ := hP4
              have HK4 : Hid _ := hK4
              have HF4 : Hid _ := hF4
              clear hP4 hK4 c0 f0 s51e r51 s52e r52 s53e r53 y0 y1 y2 z0 z1 z2 b1 b2 b4 b5 b6 HP3 HK3 HFR sxe sxr
              obtain ⟨c0, f0, ⟨s51, s51e⟩, r51, ⟨s52, s52e⟩, r52, ⟨s53, s53e⟩, r53, ⟨v0, y0⟩, ⟨v1, y1⟩, ⟨v2, y2⟩, z0, z1, z2, gs, pl5, cl5⟩ := HP4.out.shutW (n := 0) (f := f) (nc := nm + 1) (by show (setX (patchP p.cells nm f.chain) co nm).length = nm + 1; rw [setX_len]; rw [patchP_len]; exact HNC.out) hl
              obtain ⟨b1, b2, b4, b5, b6⟩ := hF4
              clear gs
              subst kz
              rw [if_pos rfl] at HX
              unfold setX0 at HX
              rw [if_pos rfl, if_neg kc] at HX
              go_wp2
              go_ret
              rw [← HX.out]
              exact ⟨(((((((HK4.out.pp _).pp _).pp _).pc _).pc _).pc _).pp _).alloc _, rfl, ((((HP4.out.setH (fo + ar)).setDead 0).shut1 HC.out HD.out).push (by show (setX (patchP p.cells nm f.chain) co nm).length = nm + 1; rw [setX_len]; rw [patchP_len]; exact HNC.out) hl ⟨11, 0, 0⟩).new ((Kp.refl _ _).alloc _)⟩
            · obtain ⟨c0, f0, ⟨s51, s51e⟩, r51, ⟨s52, s52e⟩, r52, ⟨s53, s53e⟩, r53, ⟨v0, y0⟩, ⟨v1, y1⟩, ⟨v2, y2⟩, z0, z1, z2, gs, pl5, cl5⟩ := HP3.out.shutW (n := 0) (f := f) (nc := nm + 1) (by show (patchP p.cells nm f.chain).length = nm + 1; rw [patchP_len]; exact HNC.out) hl
              obtain ⟨⟨sx, sxe⟩, sxr⟩ := gs co (hco kc)
              have hcn : (co : Int) < (nm : Int) + 1 := by have := hco kc; omega
              have kcb : ((co : Int) != 0) = true := by rw [bne_iff_ne]; omega
              subst kj
              clear gs
              go_wp2_with fail
              go_region
              refine absW (fun W => Pd W pb cb x { p with cells := setX (patchP p.cells nm f.chain) co nm } ∧ Kp (P2 pb cb) w W ∧ Frm W w.heap.size fo ar ch co 0) ?_ ?_
              · exact ⟨(HP3.out.setX (here := nm) (by show co < (patchP p.cells nm f.chain).length; rw [patchP_len, HNC.out]; exact hco kc) kc).new (Kp.refl _ _).drew, (HK3.out.pc _).drew, HFR.out.keep (((kp2 pb cb w3).pc _).drew) (by unfold P2; omega)⟩
              rintro w4 ⟨hP4, hK4, hF4⟩
              have HP4 : Hid _ := hP4
              have HK4 : Hid _ := hK4
              have HF4 : Hid _ := hF4
              clear hP4 hK4 c0 f0 s51e r51 s52e r52 s53e r53 y0 y1 y2 z0 z1 z2 b1 b2 b4 b5 b6 HP3 HK3 HFR sxe sxr
              obtain ⟨c0, f0, ⟨s51, s51e⟩, r51, ⟨s52, s52e⟩, r52, ⟨s53, s53e⟩, r53, ⟨v0, y0⟩, ⟨v1, y1⟩, ⟨v2, y2⟩, z0, z1, z2, gs, pl5, cl5⟩ := HP4.out.shutW (n := 0) (f := f) (nc := nm + 1) (by show (setX (patchP p.cells nm f.chain) co nm).length = nm + 1; rw [setX_len]; rw [patchP_len]; exact HNC.out) hl
              obtain ⟨b1, b2, b4, b5, b6⟩ := hF4
              clear gs
              rw [if_neg kz] at HX
              have kzb : ((d : Int) == 0) = false := by rw [beq_eq_false_iff_ne]; omega
              unfold setX0 at HX
              rw [if_pos rfl, if_neg kc] at HX
              go_wp2
              go_ret
              rw [← HX.out]
              exact ⟨((HK4.out.pp _).pp _).pp _, rfl, ((((HP4.out.setH (fo + ar)).setDead 0).shut1 HC.out HD.out))⟩
          · by_cases kz : d = 0
            · obtain ⟨c0, f0, ⟨s51, s51e⟩, r51, ⟨s52, s52e⟩, r52, ⟨s53, s53e⟩, r53, ⟨v0, y0⟩, ⟨v1, y1⟩, ⟨v2, y2⟩, z0, z1, z2, gs, pl5, cl5⟩ := HP3.out.shutW (n := 0) (f := f) (nc := nm + 1) (by show (patchP p.cells nm f.chain).length = nm + 1; rw [patchP_len]; exact HNC.out) hl
              obtain ⟨⟨sx, sxe⟩, sxr⟩ := gs co (hco kc)
              have hcn : (co : Int) < (nm : Int) + 1 := by have := hco kc; omega
              have kcb : ((co : Int) != 0) = true := by rw [bne_iff_ne]; omega
              obtain ⟨⟨sj, sje⟩, sjr⟩ := gs ju (hju kj)
              have hjn : (ju : Int) < (nm : Int) + 1 := by have := hju kj; omega
              have kjb : ((ju : Int) != 0) = true := by rw [bne_iff_ne]; omega
              clear gs
              go_wp2_with fail
              go_region
              refine absW (fun W => Pd W pb cb x { p with cells := setX (patchP p.cells nm f.chain) co nm } ∧ Kp (P2 pb cb) w W ∧ Frm W w.heap.size fo ar ch co ju) ?_ ?_
              · exact ⟨(HP3.out.setX (here := nm) (by show co < (patchP p.cells nm f.chain).length; rw [patchP_len, HNC.out]; exact hco kc) kc).new (Kp.refl _ _).drew, (HK3.out.pc _).drew, HFR.out.keep (((kp2 pb cb w3).pc _).drew) (by unfold P2; omega)⟩
              rintro w4 ⟨hP4, hK4, hF4⟩
              have HP4 : Hid _ := hP4
              have HK4 : Hid _ := hK4
              have HF4 : Hid _ := hF4
              clear hP4 hK4 c0 f0 s51e r51 s52e r52 s53e r53 y0 y1 y2 z0 z1 z2 b1 b2 b4 b5 b6 HP3 HK3 HFR sxe sxr sje sjr
              obtain ⟨c0, f0, ⟨s51, s51e⟩, r51, ⟨s52, s52e⟩, r52, ⟨s53, s53e⟩, r53, ⟨v0, y0⟩, ⟨v1, y1⟩, ⟨v2, y2⟩, z0, z1, z2, gs, pl5, cl5⟩ := HP4.out.shutW (n := 0) (f := f) (nc := nm + 1) (by show (setX (patchP p.cells nm f.chain) co nm).length = nm + 1; rw [setX_len]; rw [patchP_len]; exact HNC.out) hl
              obtain ⟨b1, b2, b4, b5, b6⟩ := hF4
              obtain ⟨⟨sj, sje⟩, sjr⟩ := gs ju (hju kj)
              clear gs
              go_wp2_with fail
              go_region
              refine absW (fun W => Pd W pb cb x { p with cells := setX (setX (patchP p.cells nm f.chain) co nm) ju nm } ∧ Kp (P2 pb cb) w W ∧ Frm W w.heap.size fo ar ch co ju) ?_ ?_
              · exact ⟨(HP4.out.setX (here := nm) (by show ju < (setX (patchP p.cells nm f.chain) co nm).length; rw [setX_len]; rw [patchP_len, HNC.out]; exact hju kj) kj).new (Kp.refl _ _).drew, (HK4.out.pc _).drew, HF4.out.keep (((kp2 pb cb w4).pc _).drew) (by unfold P2; omega)⟩
              rintro w6 ⟨hP6, hK6, hF6⟩
              have HP6 : Hid _ := hP6
              have HK6 : Hid _ := hK6
              clear hP6 hK6 c0 f0 s51e r51 s52e r52 s53e r53 y0 y1 y2 z0 z1 z2 b1 b2 b4 b5 b6 HP4 HK4 HF4 sje sjr
              obtain ⟨c0, f0, ⟨s51, s51e⟩, r51, ⟨s52, s52e⟩, r52, ⟨s53, s53e⟩, r53, ⟨v0, y0⟩, ⟨v1, y1⟩, ⟨v2, y2⟩, z0, z1, z2, gs, pl6, cl6⟩ := HP6.out.shutW (n := 0) (f := f) (nc := nm + 1) (by show (setX (setX (patchP p.cells nm f.chain) co nm) ju nm).length = nm + 1; rw [setX_len]; rw [setX_len]; rw [patchP_len]; exact HNC.out) hl
              obtain ⟨b1, b2, b4, b5, b6⟩ := hF6
              clear gs
              subst kz
              rw [if_pos rfl] at HX
              unfold setX0 at HX
              rw [if_neg kj, if_neg kc] at HX
              go_wp2
              go_ret
              rw [← HX.out]
              exact ⟨(((((((HK6.out.pp _).pp _).pp _).pc _).pc _).pc _).pp _).alloc _, rfl, ((((HP6.out.setH (fo + ar)).setDead 0).shut1 HC.out HD.out).push (by show (setX (setX (patchP p.cells nm f.chain) co nm) ju nm).length = nm + 1; rw [setX_len]; rw [setX_len]; rw [patchP_len]; exact HNC.out) hl ⟨11, 0, 0⟩).new ((Kp.refl _ _).alloc _)⟩
            · obtain ⟨c0, f0, ⟨s51, s51e⟩, r51, ⟨s52, s52e⟩, r52, ⟨s53, s53e⟩, r53, ⟨v0, y0⟩, ⟨v1, y1⟩, ⟨v2, y2⟩, z0, z1, z2, gs, pl5, cl5⟩ := HP3.out.shutW (n := 0) (f := f) (nc := nm + 1) (by show (patchP p.cells nm f.chain).length = nm + 1; rw [patchP_len]; exact HNC.out) hl
              obtain ⟨⟨sx, sxe⟩, sxr⟩ := gs co (hco kc)
              have hcn : (co : Int) < (nm : Int) + 1 := by have := hco kc; omega
              have kcb : ((co : Int) != 0) = true := by rw [bne_iff_ne]; omega
              obtain ⟨⟨sj, sje⟩, sjr⟩ := gs ju (hju kj)
              have hjn : (ju : Int) < (nm : Int) + 1 := by have := hju kj; omega
              have kjb : ((ju : Int) != 0) = true := by rw [bne_iff_ne]; omega
              clear gs
              go_wp2_with fail
              go_region
              refine absW (fun W => Pd W pb cb x { p with cells := setX (patchP p.cells nm f.chain) co nm } ∧ Kp (P2 pb cb) w W ∧ Frm W w.heap.size fo ar ch co ju) ?_ ?_
              · exact ⟨(HP3.out.setX (here := nm) (by show co < (patchP p.cells nm f.chain).length; rw [patchP_len, HNC.out]; exact hco kc) kc).new (Kp.refl _ _).drew, (HK3.out.pc _).drew, HFR.out.keep (((kp2 pb cb w3).pc _).drew) (by unfold P2; omega)⟩
              rintro w4 ⟨hP4, hK4, hF4⟩
              have HP4 : Hid _ := hP4
              have HK4 : Hid _ := hK4
              have HF4 : Hid _ := hF4
              clear hP4 hK4 c0 f0 s51e r51 s52e r52 s53e r53 y0 y1 y2 z0 z1 z2 b1 b2 b4 b5 b6 HP3 HK3 HFR sxe sxr sje sjr
              obtain ⟨c0, f0, ⟨s51, s51e⟩, r51, ⟨s52, s52e⟩, r52, ⟨s53, s53e⟩, r53, ⟨v0, y0⟩, ⟨v1, y1⟩, ⟨v2, y2⟩, z0, z1, z2, gs, pl5, cl5⟩ := HP4.out.shutW (n := 0) (f := f) (nc := nm + 1) (by show (setX (patchP p.cells nm f.chain) co nm).length = nm + 1; rw [setX_len]; rw [patchP_len]; exact HNC.out) hl
              obtain ⟨b1, b2, b4, b5, b6⟩ := hF4
              obtain ⟨⟨sj, sje⟩, sjr⟩ := gs ju (hju kj)
              clear gs
              go_wp2_with fail
              go_region
              refine absW (fun W => Pd W pb cb x { p with cells := setX (setX (patchP p.cells nm f.chain) co nm) ju nm } ∧ Kp (P2 pb cb) w W ∧ Frm W w.heap.size fo ar ch co ju) ?_ ?_
              · exact ⟨(HP4.out.setX (here := nm) (by show ju < (setX (patchP p.cells nm f.chain) co nm).length; rw [setX_len]; rw [patchP_len, HNC.out]; exact hju kj) kj).new (Kp.refl _ _).drew, (HK4.out.pc _).drew, HF4.out.keep (((kp2 pb cb w4).pc _).drew) (by unfold P2; omega)⟩
              rintro w6 ⟨hP6, hK6, hF6⟩
              have HP6 : Hid _ := hP6
              have HK6 : Hid _ := hK6
              clear hP6 hK6 c0 f0 s51e r51 s52e r52 s53e r53 y0 y1 y2 z0 z1 z2 b1 b2 b4 b5 b6 HP4 HK4 HF4 sje sjr
              obtain ⟨c0, f0, ⟨s51, s51e⟩, r51, ⟨s52, s52e⟩, r52, ⟨s53, s53e⟩, r53, ⟨v0, y0⟩, ⟨v1, y1⟩, ⟨v2, y2⟩, z0, z1, z2, gs, pl6, cl6⟩ := HP6.out.shutW (n := 0) (f := f) (nc := nm + 1) (by show (setX (setX (patchP p.cells nm f.chain) co nm) ju nm).length = nm + 1; rw [setX_len]; rw [setX_len]; rw [patchP_len]; exact HNC.out) hl
              obtain ⟨b1, b2, b4, b5, b6⟩ := hF6
              clear gs
              rw [if_neg kz] at HX
              have kzb : ((d : Int) == 0) = false := by rw [beq_eq_false_iff_ne]; omega
              unfold setX0 at HX
              rw [if_neg kj, if_neg kc] at HX
              go_wp2
              go_ret
              rw [← HX.out]
              exact ⟨((HK6.out.pp _).pp _).pp _, rfl, ((((HP6.out.setH (fo + ar)).setDead 0).shut1 HC.out HD.out))⟩
    · rw [if_pos ⟨rfl, k1⟩] at HX
      have i1 : ((hh : Int) != (fo : Int) + (ar : Int)) = true := by rw [bne_iff_ne]; omega
      go_enter Tryz.func158, Tryz.ntmps158
      go_wp2_with fail
      go_quiet (fail)
      go_wp2
      go_ret
      rw [← HX.out]
      exact ⟨((kp2 pb cb w).alloc _).drewM _, rfl, HP.out.pw.new (((Kp.refl _ _).alloc _).drewM _)⟩
  · rw [if_neg (by omega)] at HX
    have h0b : ((dd : Int) == 0) = false := by rw [beq_eq_false_iff_ne]; omega
    by_cases k3 : 10 < fo + ar
    · rw [if_pos k3] at HX
      have i3 : (10 : Int) < (fo : Int) + (ar : Int) := by omega
      go_enter Tryz.func158, Tryz.ntmps158
      go_wp2_with fail
      go_quiet (fail)
      go_wp2
      go_ret
      rw [← HX.out]
      exact ⟨((kp2 pb cb w).alloc _).drewM _, rfl, HP.out.pw.new (((Kp.refl _ _).alloc _).drewM _)⟩
    · rw [if_neg k3] at HX
      have i3 : (fo : Int) + (ar : Int) ≤ 10 := by omega
      have hpc := fun (W : World) (hW : Pd W pb cb x p) => patch_calls hW f.chain HCH.out nm (by omega)
      rw [HCHE.out] at hpc
      go_enter Tryz.func158, Tryz.ntmps158
      go_wp2_with fail
      go_quiet (fail)
      go_wp2_with fail
      refine (hpc _ (HP.out.new (((Kp.refl _ _).alloc _).drewM _))).mono ?_
      rintro en w3 ⟨rfl, hk3, hp3⟩
      have hfr : Frm w3 w.heap.size fo ar ch co ju := Frm.keep (W := (w.alloc (.cells #[.int .u8 f.op, .int .i64 fo, .int .i64 ar, .int .i64 f.start, .int .i64 ch, .int .i64 co, .int .i64 ju] 162)).drewN nq) ⟨by go_simp, by go_simp, by go_simp, by go_simp, by go_simp⟩ hk3 (by unfold P2; omega)
      have HK3 : Hid _ := (((kp2 pb cb w).alloc _).drewM _).trans hk3
      have HP3 : Hid _ := hp3
      clear hk3 hp3 hpc c0 c51 c52 c53 e0 e1 e2 e3 e4 e5 e6 y0 y1 y2 z0 z1 z2 f0 f51 f52 f53
      have hwl : w.heap.size < w3.heap.size := lt_of_cell hfr.b1
      have HFR : Hid _ := hfr
      obtain ⟨b1, b2, b4, b5, b6⟩ := hfr
      by_cases kc : co = 0
      · by_cases kj : ju = 0
        · by_cases kz : d = 0
          · obtain ⟨c0, f0, ⟨s51, s51e⟩, r51, ⟨s52, s52e⟩, r52, ⟨s53, s53e⟩, r53, ⟨v0, y0⟩, ⟨v1, y1⟩, ⟨v2, y2⟩, z0, z1, z2, gs, pl5, cl5⟩ := HP3.out.shutW (n := 0) (f := f) (nc := nm + 1) (by show (patchP p.cells nm f.chain).length = nm + 1; rw [patchP_len]; exact HNC.out) hl
            subst kc
            subst kj
            clear gs
            have hP4 := HP3.out
            have hK4 := HK3.out
            have hF4 := HFR.out
            obtain ⟨w4, hw4⟩ : ∃ W, W = w3 := ⟨_, rfl⟩
            rw [← hw4] at hP4 hK4 hF4 ⊢
            have HP4 : Hid _ := hP4
            have HK4 : Hid _ := hK4
            have HF4 : Hid _ := hF4
            clear hP4 hK4 c0 f0 s51e r51 s52e r52 s53e r53 y0 y1 y2 z0 z1 z2 b1 b2 b4 b5 b6 HP3 HK3 HFR hw4
            obtain ⟨c0, f0, ⟨s51, s51e⟩, r51, ⟨s52, s52e⟩, r52, ⟨s53, s53e⟩, r53, ⟨v0, y0⟩, ⟨v1, y1⟩, ⟨v2, y2⟩, z0, z1, z2, gs, pl5, cl5⟩ := HP4.out.shutW (n := 0) (f := f) (nc := nm + 1) (by show (patchP p.cells nm f.chain).length = nm + 1; rw [patchP_len]; exact HNC.out) hl
            obtain ⟨b1, b2, b4, b5, b6⟩ := hF4
            clear gs
            subst kz
            rw [if_pos rfl] at HX
            unfold setX0 at HX
            rw [if_pos rfl, if_pos rfl] at HX
            go_wp2
            go_ret
            rw [← HX.out]
            exact ⟨(((((((HK4.out.pp _).pp _).pp _).pc _).pc _).pc _).pp _).alloc _, rfl, ((((HP4.out.setH (fo + ar)).setDead 0).shut1 HC.out HD.out).push (by show (patchP p.cells nm f.chain).length = nm + 1; rw [patchP_len]; exact HNC.out) hl ⟨11, 0, 0⟩).new ((Kp.refl _ _).alloc _)⟩
          · obtain ⟨c0, f0, ⟨s51, s51e⟩, r51, ⟨s52, s52e⟩, r52, ⟨s53, s53e⟩, r53, ⟨v0, y0⟩, ⟨v1, y1⟩, ⟨v2, y2⟩, z0, z1, z2, gs, pl5, cl5⟩ := HP3.out.shutW (n := 0) (f := f) (nc := nm + 1) (by show (patchP p.cells nm f.chain).length = nm + 1; rw [patchP_len]; exact HNC.out) hl
            subst kc
            subst kj
            clear gs
            have hP4 := HP3.out
            have hK4 := HK3.out
            have hF4 := HFR.out
            obtain ⟨w4, hw4⟩ : ∃ W, W = w3 := ⟨_, rfl⟩
            rw [← hw4] at hP4 hK4 hF4 ⊢
            have HP4 : Hid _ := hP4
            have HK4 : Hid _ := hK4
            have HF4 : Hid _ := hF4
            clear hP4 hK4 c0 f0 s51e r51 s52e r52 s53e r53 y0 y1 y2 z0 z1 z2 b1 b2 b4 b5 b6 HP3 HK3 HFR hw4
            obtain ⟨c0, f0, ⟨s51, s51e⟩, r51, ⟨s52, s52e⟩, r52, ⟨s53, s53e⟩, r53, ⟨v0, y0⟩, ⟨v1, y1⟩, ⟨v2, y2⟩, z0, z1, z2, gs, pl5, cl5⟩ := HP4.out.shutW (n := 0) (f := f) (nc := nm + 1) (by show (patchP p.cells nm f.chain).length = nm + 1; rw [patchP_len]; exact HNC.out) hl
            obtain ⟨b1, b2, b4, b5, b6⟩ := hF4
            clear gs
            rw [if_neg kz] at HX
            have kzb : ((d : Int) == 0) = false := by rw [beq_eq_false_iff_ne]; omega
            unfold setX0 at HX
            rw [if_pos rfl, if_pos rfl] at HX
            go_wp2
            go_ret
            rw [← HX.out]
            exact ⟨((HK4.out.pp _).pp _).pp _, rfl, ((((HP4.out.setH (fo + ar)).setDead 0).shut1 HC.out HD.out))⟩
        · by_cases kz : d = 0
          · obtain ⟨c0, f0, ⟨s51, s51e⟩, r51, ⟨s52, s52e⟩, r52, ⟨s53, s53e⟩, r53, ⟨v0, y0⟩, ⟨v1, y1⟩, ⟨v2, y2⟩, z0, z1, z2, gs, pl5, cl5⟩ := HP3.out.shutW (n := 0) (f := f) (nc := nm + 1) (by show (patchP p.cells nm f.chain).length = nm + 1; rw [patchP_len]; exact HNC.out) hl
            subst kc
            obtain ⟨⟨sj, sje⟩, sjr⟩ := gs ju (hju kj)
            have hjn : (ju : Int) < (nm : Int) + 1 := by have := hju kj; omega
            have kjb : ((ju : Int) != 0) = true := by rw [bne_iff_ne]; omega
            clear gs
            have hP4 := HP3.out
            have hK4 := HK3.out
            have hF4 := HFR.out
            obtain ⟨w4, hw4⟩ : ∃ W, W = w3 := ⟨_, rfl⟩
            rw [← hw4] at hP4 hK4 hF4 ⊢
            have HP4 : Hid _ := hP4
            have HK4 : Hid _ := hK4
            have HF4 : Hid _ := hF4
            clear hP4 hK4 c0 f0 s51e r51 s52e r52 s53e r53 y0 y1 y2 z0 z1 z2 b1 b2 b4 b5 b6 HP3 HK3 HFR hw4 sje sjr
            obtain ⟨c0, f0, ⟨s51, s51e⟩, r51, ⟨s52, s52e⟩, r52, ⟨s53, s53e⟩, r53, ⟨v0, y0⟩, ⟨v1, y1⟩, ⟨v2, y2⟩, z0, z1, z2, gs, pl5, cl5⟩ := HP4.out.shutW (n := 0) (f := f) (nc := nm + 1) (by show (patchP p.cells nm f.chain).length = nm + 1; rw [patchP_len]; exact HNC.out) hl
            obtain ⟨b1, b2, b4, b5, b6⟩ := hF4
            obtain ⟨⟨sj, sje⟩, sjr⟩ := gs ju (hju kj)
            clear gs
            go_wp2_with fail
            go_region
            refine absW (fun W => Pd W pb cb x { p with cells := setX (patchP p.cells nm f.chain) ju nm } ∧ Kp (P2 pb cb) w W ∧ Frm W w.heap.size fo ar ch 0 ju) ?_ ?_
            · exact ⟨(HP4.out.setX (here := nm) (by show ju < (patchP p.cells nm f.chain).length; rw [patchP_len, HNC.out]; exact hju kj) kj).new (Kp.refl _ _).drew, (HK4.out.pc _).drew, HF4.out.keep (((kp2 pb cb w4).pc _).drew) (by unfold P2; omega)⟩
            rintro w6 ⟨hP6, hK6, hF6⟩
            have HP6 : Hid _ := hP6
            have HK6 : Hid _ := hK6
            clear hP6 hK6 c0 f0 s51e r51 s52e r52 s53e r53 y0 y1 y2 z0 z1 z2 b1 b2 b4 b5 b6 HP4 HK4 HF4 sje sjr
            obtain ⟨c0, f0, ⟨s51, s51e⟩, r51, ⟨s52, s52e⟩, r52, ⟨s53, s53e⟩, r53, ⟨v0, y0⟩, ⟨v1, y1⟩, ⟨v2, y2⟩, z0, z1, z2, gs, pl6, cl6⟩ := HP6.out.shutW (n := 0) (f := f) (nc := nm + 1) (by show (setX (patchP p.cells nm f.chain) ju nm).length = nm + 1; rw [setX_len]; rw [patchP_len]; exact HNC.out) hl
            obtain ⟨b1, b2, b4, b5, b6⟩ := hF6
            clear gs
            subst kz
            rw [if_pos rfl] at HX
            unfold setX0 at HX
            rw [if_neg kj, if_pos rfl] at HX
            go_wp2
            go_ret
            rw [← HX.out]
            exact ⟨(((((((HK6.out.pp _).pp _).pp _).pc _).pc _).pc _).pp _).alloc _, rfl, ((((HP6.out.setH (fo + ar)).setDead 0).shut1 HC.out HD.out).push (by show (setX (patchP p.cells nm f.chain) ju nm).length = nm + 1; rw [setX_len]; rw [patchP_len]; exact HNC.out) hl ⟨11, 0, 0⟩).new ((Kp.refl _ _).alloc _)⟩
          · obtain ⟨c0, f0, ⟨s51, s51e⟩, r51, ⟨s52, s52e⟩, r52, ⟨s53, s53e⟩, r53, ⟨v0, y0⟩, ⟨v1, y1⟩, ⟨v2, y2⟩, z0, z1, z2, gs, pl5, cl5⟩ := HP3.out.shutW (n := 0) (f := f) (nc := nm + 1) (by show (patchP p.cells nm f.chain).length = nm + 1; rw [patchP_len]; exact HNC.out) hl
            subst kc
            obtain ⟨⟨sj, sje⟩, sjr⟩ := gs ju (hju kj)
            have hjn : (ju : Int) < (nm : Int) + 1 := by have := hju kj; omega
            have kjb : ((ju : Int) != 0) = true := by rw [bne_iff_ne]; omega
            clear gs
            have hP4 := HP3.out
            have hK4 := HK3.out
            have hF4 := HFR.out
            obtain ⟨w4, hw4⟩ : ∃ W, W = w3 := ⟨_, rfl⟩
            rw [← hw4] at hP4 hK4 hF4 ⊢
            have HP4 : Hid _ := hP4
            have HK4 : Hid _ := hK4
            have HF4 : Hid _ := hF4
            clear hP4 hK4 c0 f0 s51e r51 s52e r52 s53e r53 y0 y1 y2 z0 z1 z2 b1 b2 b4 b5 b6 HP3 HK3 HFR hw4 sje sjr
            obtain ⟨c0, f0, ⟨s51, s51e⟩, r51, ⟨s52, s52e⟩, r52, ⟨s53, s53e⟩, r53, ⟨v0, y0⟩, ⟨v1, y1⟩, ⟨v2, y2⟩, z0, z1, z2, gs, pl5, cl5⟩ := HP4.out.shutW (n := 0) (f := f) (nc := nm + 1) (by show (patchP p.cells nm f.chain).length = nm + 1; rw [patchP_len]; exact HNC.out) hl
            obtain ⟨b1, b2, b4, b5, b6⟩ := hF4
            obtain ⟨⟨sj, sje⟩, sjr⟩ := gs ju (hju kj)
            clear gs
            go_wp2_with fail
            go_region
            refine absW (fun W => Pd W pb cb x { p with cells := setX (patchP p.cells nm f.chain) ju nm } ∧ Kp (P2 pb cb) w W ∧ Frm W w.heap.size fo ar ch 0 ju) ?_ ?_
            · exact ⟨(HP4.out.setX (here := nm) (by show ju < (patchP p.cells nm f.chain).length; rw [patchP_len, HNC.out]; exact hju kj) kj).new (Kp.refl _ _).drew, (HK4.out.pc _).drew, HF4.out.keep (((kp2 pb cb w4).pc _).drew) (by unfold P2; omega)⟩
            rintro w6 ⟨hP6, hK6, hF6⟩
            have HP6 : Hid _ := hP6
            have HK6 : Hid _ := hK6
            clear hP6 hK6 c0 f0 s51e r51 s52e r52 s53e r53 y0 y1 y2 z0 z1 z2 b1 b2 b4 b5 b6 HP4 HK4 HF4 sje sjr
            obtain ⟨c0, f0, ⟨s51, s51e⟩, r51, ⟨s52, s52e⟩, r52, ⟨s53, s53e⟩, r53, ⟨v0, y0⟩, ⟨v1, y1⟩, ⟨v2, y2⟩, z0, z1, z2, gs, pl6, cl6⟩ := HP6.out.shutW (n := 0) (f := f) (nc := nm + 1) (by show (setX (patchP p.cells nm f.chain) ju nm).length = nm + 1; rw [setX_len]; rw [patchP_len]; exact HNC.out) hl
            obtain ⟨b1, b2, b4, b5, b6⟩ := hF6
            clear gs
            rw [if_neg kz] at HX
            have kzb : ((d : Int) == 0) = false := by rw [beq_eq_false_iff_ne]; omega
            unfold setX0 at HX
            rw [if_neg kj, if_pos rfl] at HX
            go_wp2
            go_ret
            rw [← HX.out]
            exact ⟨((HK6.out.pp _).pp _).pp _, rfl, ((((HP6.out.setH (fo + ar)).setDead 0).shut1 HC.out HD.out))⟩
      · by_cases kj : ju = 0
        · by_cases kz : d = 0
          · obtain ⟨c0, f0, ⟨s51, s51e⟩, r51, ⟨s52, s52e⟩, r52, ⟨s53, s53e⟩, r53, ⟨v0, y0⟩, ⟨v1, y1⟩, ⟨v2, y2⟩, z0, z1, z2, gs, pl5, cl5⟩ := HP3.out.shutW (n := 0) (f := f) (nc := nm + 1) (by show (patchP p.cells nm f.chain).length = nm + 1; rw [patchP_len]; exact HNC.out) hl
            obtain ⟨⟨sx, sxe⟩, sxr⟩ := gs co (hco kc)
            have hcn : (co : Int) < (nm : Int) + 1 := by have := hco kc; omega
            have kcb : ((co : Int) != 0) = true := by rw [bne_iff_ne]; omega
            subst kj
            clear gs
            go_wp2_with fail
            go_region
            refine absW (fun W => Pd W pb cb x { p with cells := setX (patchP p.cells nm f.chain) co nm } ∧ Kp (P2 pb cb) w W ∧ Frm W w.heap.size fo ar ch co 0) ?_ ?_
            · exact ⟨(HP3.out.setX (here := nm) (by show co < (patchP p.cells nm f.chain).length; rw [patchP_len, HNC.out]; exact hco kc) kc).new (Kp.refl _ _).drew, (HK3.out.pc _).drew, HFR.out.keep (((kp2 pb cb w3).pc _).drew) (by unfold P2; omega)⟩
            rintro w4 ⟨hP4, hK4, hF4⟩
            have HP4 : Hid _ := hP4
            have HK4 : Hid _ := hK4
            have HF4 : Hid _ := hF4
            clear hP4 hK4 c0 f0 s51e r51 s52e r52 s53e r53 y0 y1 y2 z0 z1 z2 b1 b2 b4 b5 b6 HP3 HK3 HFR sxe sxr
            obtain ⟨c0, f0, ⟨s51, s51e⟩, r51, ⟨s52, s52e⟩, r52, ⟨s53, s53e⟩, r53, ⟨v0, y0⟩, ⟨v1, y1⟩, ⟨v2, y2⟩, z0, z1, z2, gs, pl5, cl5⟩ := HP4.out.shutW (n := 0) (f := f) (nc := nm + 1) (by show (setX (patchP p.cells nm f.chain) co nm).length = nm + 1; rw [setX_len]; rw [patchP_len]; exact HNC.out) hl
            obtain ⟨b1, b2, b4, b5, b6⟩ := hF4
            clear gs
            subst kz
            rw [if_pos rfl] at HX
            unfold setX0 at HX
            rw [if_pos rfl, if_neg kc] at HX
            go_wp2
            go_ret
            rw [← HX.out]
            exact ⟨(((((((HK4.out.pp _).pp _).pp _).pc _).pc _).pc _).pp _).alloc _, rfl, ((((HP4.out.setH (fo + ar)).setDead 0).shut1 HC.out HD.out).push (by show (setX (patchP p.cells nm f.chain) co nm).length = nm + 1; rw [setX_len]; rw [patchP_len]; exact HNC.out) hl ⟨11, 0, 0⟩).new ((Kp.refl _ _).alloc _)⟩
          · obtain ⟨c0, f0, ⟨s51, s51e⟩, r51, ⟨s52, s52e⟩, r52, ⟨s53, s53e⟩, r53, ⟨v0, y0⟩, ⟨v1, y1⟩, ⟨v2, y2⟩, z0, z1, z2, gs, pl5, cl5⟩ := HP3.out.shutW (n := 0) (f := f) (nc := nm + 1) (by show (patchP p.cells nm f.chain).length = nm + 1; rw [patchP_len]; exact HNC.out) hl
            obtain ⟨⟨sx, sxe⟩, sxr⟩ := gs co (hco kc)
            have hcn : (co : Int) < (nm : Int) + 1 := by have := hco kc; omega
            have kcb : ((co : Int) != 0) = true := by rw [bne_iff_ne]; omega
            subst kj
            clear gs
            go_wp2_with fail
            go_region
            refine absW (fun W => Pd W pb cb x { p with cells := setX (patchP p.cells nm f.chain) co nm } ∧ Kp (P2 pb cb) w W ∧ Frm W w.heap.size fo ar ch co 0) ?_ ?_
            · exact ⟨(HP3.out.setX (here := nm) (by show co < (patchP p.cells nm f.chain).length; rw [patchP_len, HNC.out]; exact hco kc) kc).new (Kp.refl _ _).drew, (HK3.out.pc _).drew, HFR.out.keep (((kp2 pb cb w3).pc _).drew) (by unfold P2; omega)⟩
            rintro w4 ⟨hP4, hK4, hF4⟩
            have HP4 : Hid _ := hP4
            have HK4 : Hid _ := hK4
            have HF4 : Hid _ := hF4
            clear hP4 hK4 c0 f0 s51e r51 s52e r52 s53e r53 y0 y1 y2 z0 z1 z2 b1 b2 b4 b5 b6 HP3 HK3 HFR sxe sxr
            obtain ⟨c0, f0, ⟨s51, s51e⟩, r51, ⟨s52, s52e⟩, r52, ⟨s53, s53e⟩, r53, ⟨v0, y0⟩, ⟨v1, y1⟩, ⟨v2, y2⟩, z0, z1, z2, gs, pl5, cl5⟩ := HP4.out.shutW (n := 0) (f := f) (nc := nm + 1) (by show (setX (patchP p.cells nm f.chain) co nm).length = nm + 1; rw [setX_len]; rw [patchP_len]; exact HNC.out) hl
            obtain ⟨b1, b2, b4, b5, b6⟩ := hF4
            clear gs
            rw [if_neg kz] at HX
            have kzb : ((d : Int) == 0) = false := by rw [beq_eq_false_iff_ne]; omega
            unfold setX0 at HX
            rw [if_pos rfl, if_neg kc] at HX
            go_wp2
            go_ret
            rw [← HX.out]
            exact ⟨((HK4.out.pp _).pp _).pp _, rfl, ((((HP4.out.setH (fo + ar)).setDead 0).shut1 HC.out HD.out))⟩
        · by_cases kz : d = 0
          · obtain ⟨c0, f0, ⟨s51, s51e⟩, r51, ⟨s52, s52e⟩, r52, ⟨s53, s53e⟩, r53, ⟨v0, y0⟩, ⟨v1, y1⟩, ⟨v2, y2⟩, z0, z1, z2, gs, pl5, cl5⟩ := HP3.out.shutW (n := 0) (f := f) (nc := nm + 1) (by show (patchP p.cells nm f.chain).length = nm + 1; rw [patchP_len]; exact HNC.out) hl
            obtain ⟨⟨sx, sxe⟩, sxr⟩ := gs co (hco kc)
            have hcn : (co : Int) < (nm : Int) + 1 := by have := hco kc; omega
            have kcb : ((co : Int) != 0) = true := by rw [bne_iff_ne]; omega
            obtain ⟨⟨sj, sje⟩, sjr⟩ := gs ju (hju kj)
            have hjn : (ju : Int) < (nm : Int) + 1 := by have := hju kj; omega
            have kjb : ((ju : Int) != 0) = true := by rw [bne_iff_ne]; omega
            clear gs
            go_wp2_with fail
            go_region
            refine absW (fun W => Pd W pb cb x { p with cells := setX (patchP p.cells nm f.chain) co nm } ∧ Kp (P2 pb cb) w W ∧ Frm W w.heap.size fo ar ch co ju) ?_ ?_
            · exact ⟨(HP3.out.setX (here := nm) (by show co < (patchP p.cells nm f.chain).length; rw [patchP_len, HNC.out]; exact hco kc) kc).new (Kp.refl _ _).drew, (HK3.out.pc _).drew, HFR.out.keep (((kp2 pb cb w3).pc _).drew) (by unfold P2; omega)⟩
            rintro w4 ⟨hP4, hK4, hF4⟩
            have HP4 : Hid _ := hP4
            have HK4 : Hid _ := hK4
            have HF4 : Hid _ := hF4
            clear hP4 hK4 c0 f0 s51e r51 s52e r52 s53e r53 y0 y1 y2 z0 z1 z2 b1 b2 b4 b5 b6 HP3 HK3 HFR sxe sxr sje sjr
            obtain ⟨c0, f0, ⟨s51, s51e⟩, r51, ⟨s52, s52e⟩, r52, ⟨s53, s53e⟩, r53, ⟨v0, y0⟩, ⟨v1, y1⟩, ⟨v2, y2⟩, z0, z1, z2, gs, pl5, cl5⟩ := HP4.out.shutW (n := 0) (f := f) (nc := nm + 1) (by show (setX (patchP p.cells nm f.chain) co nm).length = nm + 1; rw [setX_len]; rw [patchP_len]; exact HNC.out) hl
            obtain ⟨b1, b2, b4, b5, b6⟩ := hF4
            obtain ⟨⟨sj, sje⟩, sjr⟩ := gs ju (hju kj)
            clear gs
            go_wp2_with fail
            go_region
            refine absW (fun W => Pd W pb cb x { p with cells := setX (setX (patchP p.cells nm f.chain) co nm) ju nm } ∧ Kp (P2 pb cb) w W ∧ Frm W w.heap.size fo ar ch co ju) ?_ ?_
            · exact ⟨(HP4.out.setX (here := nm) (by show ju < (setX (patchP p.cells nm f.chain) co nm).length; rw [setX_len]; rw [patchP_len, HNC.out]; exact hju kj) kj).new (Kp.refl _ _).drew, (HK4.out.pc _).drew, HF4.out.keep (((kp2 pb cb w4).pc _).drew) (by unfold P2; omega)⟩
            rintro w6 ⟨hP6, hK6, hF6⟩
            have HP6 : Hid _ := hP6
            have HK6 : Hid _ := hK6
            clear hP6 hK6 c0 f0 s51e r51 s52e r52 s53e r53 y0 y1 y2 z0 z1 z2 b1 b2 b4 b5 b6 HP4 HK4 HF4 sje sjr
            obtain ⟨c0, f0, ⟨s51, s51e⟩, r51, ⟨s52, s52e⟩, r52, ⟨s53, s53e⟩, r53, ⟨v0, y0⟩, ⟨v1, y1⟩, ⟨v2, y2⟩, z0, z1, z2, gs, pl6, cl6⟩ := HP6.out.shutW (n := 0) (f := f) (nc := nm + 1) (by show (setX (setX (patchP p.cells nm f.chain) co nm) ju nm).length = nm + 1; rw [setX_len]; rw [setX_len]; rw [patchP_len]; exact HNC.out) hl
            obtain ⟨b1, b2, b4, b5, b6⟩ := hF6
            clear gs
            subst kz
            rw [if_pos rfl] at HX
            unfold setX0 at HX
            rw [if_neg kj, if_neg kc] at HX
            go_wp2
            go_ret
            rw [← HX.out]
            exact ⟨(((((((HK6.out.pp _).pp _).pp _).pc _).pc _).pc _).pp _).alloc _, rfl, ((((HP6.out.setH (fo + ar)).setDead 0).shut1 HC.out HD.out).push (by show (setX (setX (patchP p.cells nm f.chain) co nm) ju nm).length = nm + 1; rw [setX_len]; rw [setX_len]; rw [patchP_len]; exact HNC.out) hl ⟨11, 0, 0⟩).new ((Kp.refl _ _).alloc _)⟩
          · obtain ⟨c0, f0, ⟨s51, s51e⟩, r51, ⟨s52, s52e⟩, r52, ⟨s53, s53e⟩, r53, ⟨v0, y0⟩, ⟨v1, y1⟩, ⟨v2, y2⟩, z0, z1, z2, gs, pl5, cl5⟩ := HP3.out.shutW (n := 0) (f := f) (nc := nm + 1) (by show (patchP p.cells nm f.chain).length = nm + 1; rw [patchP_len]; exact HNC.out) hl
            obtain ⟨⟨sx, sxe⟩, sxr⟩ := gs co (hco kc)
            have hcn : (co : Int) < (nm : Int) + 1 := by have := hco kc; omega
            have kcb : ((co : Int) != 0) = true := by rw [bne_iff_ne]; omega
            obtain ⟨⟨sj, sje⟩, sjr⟩ := gs ju (hju kj)
            have hjn : (ju : Int) < (nm : Int) + 1 := by have := hju kj; omega
            have kjb : ((ju : Int) != 0) = true := by rw [bne_iff_ne]; omega
            clear gs
            go_wp2_with fail
            go_region
            refine absW (fun W => Pd W pb cb x { p with cells := setX (patchP p.cells nm f.chain) co nm } ∧ Kp (P2 pb cb) w W ∧ Frm W w.heap.size fo ar ch co ju) ?_ ?_
            · exact ⟨(HP3.out.setX (here := nm) (by show co < (patchP p.cells nm f.chain).length; rw [patchP_len, HNC.out]; exact hco kc) kc).new (Kp.refl _ _).drew, (HK3.out.pc _).drew, HFR.out.keep (((kp2 pb cb w3).pc _).drew) (by unfold P2; omega)⟩
            rintro w4 ⟨hP4, hK4, hF4⟩
            have HP4 : Hid _ := hP4
            have HK4 : Hid _ := hK4
            have HF4 : Hid _ := hF4
            clear hP4 hK4 c0 f0 s51e r51 s52e r52 s53e r53 y0 y1 y2 z0 z1 z2 b1 b2 b4 b5 b6 HP3 HK3 HFR sxe sxr sje sjr
            obtain ⟨c0, f0, ⟨s51, s51e⟩, r51, ⟨s52, s52e⟩, r52, ⟨s53, s53e⟩, r53, ⟨v0, y0⟩, ⟨v1, y1⟩, ⟨v2, y2⟩, z0, z1, z2, gs, pl5, cl5⟩ := HP4.out.shutW (n := 0) (f := f) (nc := nm + 1) (by show (setX (patchP p.cells nm f.chain) co nm).length = nm + 1; rw [setX_len]; rw [patchP_len]; exact HNC.out) hl
            obtain ⟨b1, b2, b4, b5, b6⟩ := hF4
            obtain ⟨⟨sj, sje⟩, sjr⟩ := gs ju (hju kj)
            clear gs
            go_wp2_with fail
            go_region
            refine absW (fun W => Pd W pb cb x { p with cells := setX (setX (patchP p.cells nm f.chain) co nm) ju nm } ∧ Kp (P2 pb cb) w W ∧ Frm W w.heap.size fo ar ch co ju) ?_ ?_
            · exact ⟨(HP4.out.setX (here := nm) (by show ju < (setX (patchP p.cells nm f.chain) co nm).length; rw [setX_len]; rw [patchP_len, HNC.out]; exact hju kj) kj).new (Kp.refl _ _).drew, (HK4.out.pc _).drew, HF4.out.keep (((kp2 pb cb w4).pc _).drew) (by unfold P2; omega)⟩
            rintro w6 ⟨hP6, hK6, hF6⟩
            have HP6 : Hid _ := hP6
            have HK6 : Hid _ := hK6
            clear hP6 hK6 c0 f0 s51e r51 s52e r52 s53e r53 y0 y1 y2 z0 z1 z2 b1 b2 b4 b5 b6 HP4 HK4 HF4 sje sjr
            obtain ⟨c0, f0, ⟨s51, s51e⟩, r51, ⟨s52, s52e⟩, r52, ⟨s53, s53e⟩, r53, ⟨v0, y0⟩, ⟨v1, y1⟩, ⟨v2, y2⟩, z0, z1, z2, gs, pl6, cl6⟩ := HP6.out.shutW (n := 0) (f := f) (nc := nm + 1) (by show (setX (setX (patchP p.cells nm f.chain) co nm) ju nm).length = nm + 1; rw [setX_len]; rw [setX_len]; rw [patchP_len]; exact HNC.out) hl
            obtain ⟨b1, b2, b4, b5, b6⟩ := hF6
            clear gs
            rw [if_neg kz] at HX
            have kzb : ((d : Int) == 0) = false := by rw [beq_eq_false_iff_ne]; omega
            unfold setX0 at HX
            rw [if_neg kj, if_neg kc] at HX
            go_wp2
            go_ret
            rw [← HX.out]
            exact ⟨((HK6.out.pp _).pp _).pp _, rfl, ((((HP6.out.setH (fo + ar)).setDead 0).shut1 HC.out HD.out))⟩
end
end Go.Proofs.Qxb6500275aGreatDoor
