import Derived.Test.Qxb6500275aGreatDoorPp3
set_option maxRecDepth 100000
set_option linter.unusedVariables false
set_option linter.unusedSimpArgs false
namespace Go.Proofs.Qxb6500275aGreatDoor
open Go Go.RowKit
/- a world is told by what is known of it -/
theorem absW {F : World → Prop} {W : World} (Q : World → Prop) (hQ : Q W) (h : ∀ W', Q W' → F W') : F W := h W hQ
section
variable {w : World} {mb pb cb x : Nat} {M : Mod} {p : PS}
theorem pack_or : ∀ k : Nat, k ≤ 1 → ∀ h : Nat, h ≤ 10 → bits .or .u64 ((k : Int) * 4294967296) (h : Int) = packP k h := by
  intro k hk h hh
  rcases (by omega : k = 0 ∨ k = 1) with rfl | rfl
  all_goals
    rcases (by omega : h = 0 ∨ h = 1 ∨ h = 2 ∨ h = 3 ∨ h = 4 ∨ h = 5 ∨ h = 6 ∨ h = 7 ∨ h = 8 ∨ h = 9 ∨ h = 10) with rfl | rfl | rfl | rfl | rfl | rfl | rfl | rfl | rfl | rfl | rfl
    all_goals rfl
set_option maxHeartbeats 4000000 in
theorem pack_calls (k h : Nat) (hk : k ≤ 1) (hh : h ≤ 10) : Calls Tryz.prog 264 #[.int .i64 k, .int .i64 h] w (Qt w (.int .u64 (packP k h))) := by
  have hp := pack_or k hk h hh
  go_enter Tryz.func264, Tryz.ntmps264
  go_wp2
  go_ret
  exact ⟨by rw [← hp]; rfl, 0, rfl⟩
/- all that a walk reads, at block l -/
structure PdB (w : World) (pb cb nc j l : Nat) (f : PF) : Prop where
  c0 : w.cell? ⟨pb, 0, none⟩ = some (.slice (some ⟨cb, 0, none⟩) nc 121)
  c51 : w.cell? ⟨pb, 51, none⟩ = some (.int .i64 ((j : Int) + (l : Int) + 1))
  e0 : w.cell? ⟨pb, 2 + j * 7, none⟩ = some (.int .u8 f.op)
  e1 : w.cell? ⟨pb, 2 + j * 7 + 1, none⟩ = some (.int .i64 f.floor)
  e2 : w.cell? ⟨pb, 2 + j * 7 + 2, none⟩ = some (.int .i64 f.arity)
  e3 : w.cell? ⟨pb, 2 + j * 7 + 3, none⟩ = some (.int .i64 f.start)
  e4 : w.cell? ⟨pb, 2 + j * 7 + 4, none⟩ = some (.int .i64 (f.chain.headD 0 : Nat))
  e5 : w.cell? ⟨pb, 2 + j * 7 + 5, none⟩ = some (.int .i64 f.cond)
  e6 : w.cell? ⟨pb, 2 + j * 7 + 6, none⟩ = some (.int .i64 f.jump)
  h7 : j + l < 7
  h7' : (j : Int) < 7
  y0 : ∃ v, w.cell? ⟨cb, nc * 3, none⟩ = some v
  y1 : ∃ v, w.cell? ⟨cb, nc * 3 + 1, none⟩ = some v
  y2 : ∃ v, w.cell? ⟨cb, nc * 3 + 2, none⟩ = some v
  z0 : w.frozen? ⟨cb, nc * 3, none⟩ = false
  z1 : w.frozen? ⟨cb, nc * 3 + 1, none⟩ = false
  z2 : w.frozen? ⟨cb, nc * 3 + 2, none⟩ = false
  f0 : w.frozen? ⟨pb, 0, none⟩ = false
  fp : w.frozen? ⟨pb, 2 + j * 7 + 4, none⟩ = false
  pl : pb < w.heap.size
  cl : cb < w.heap.size
  ne : ¬ pb = cb
  ne' : ¬ cb = pb
theorem Pd.walkB {nc j l : Nat} {f : PF} (h : Pd w pb cb x p) (hf : p.ctl[l]? = some f) (hj : j + l + 1 = p.ctl.length) (hn : p.cells.length = nc) (hl : nc < 121) : PdB w pb cb nc j l f := by
  obtain ⟨⟨e0, e1, e2, e3, e4, e5, e6⟩, h7⟩ := h.at_ hf hj
  obtain ⟨c0, c51, c52, c53, ff, g, fs, gs, lC, n, n0, pl, cl, ne⟩ := h.cells
  subst hn
  exact ⟨c0, by rw [c51, ← hj]; simp, e0, e1, e2, e3, e4, e5, e6, by omega, by omega, gs _ (by omega), gs _ (by omega), gs _ (by omega), g _ (by omega), g _ (by omega), g _ (by omega), ff _ (by decide), ff _ (by omega), pl, cl, ne, Ne.symm ne⟩
/- a block's chain has a new head -/
theorem Pd.setHead {n j l : Nat} {f : PF} (h : Pd w pb cb x p) (hf : p.ctl[l]? = some f) (hj : j + l + 1 = p.ctl.length) : Pd (w.setCell ⟨pb, 2 + j * 7 + 4, none⟩ (.int .i64 (n : Int))) pb cb x { p with ctl := p.ctl.modify l (fun f => { f with chain := n :: f.chain }) } := by
  obtain ⟨⟨F, G, b1, b2, hl, hc⟩, ne⟩ := h
  have h7 := hc.lC
  refine ⟨⟨_, _, b1.set (by omega) _, b2.other (Ne.symm ne) _, hl.updF (by omega) _, ?_⟩, ne⟩
  refine ⟨fun i g hg => ?_, by rw [upd_ne _ _ (by omega)]; simpa using hc.d, by rw [upd_ne _ _ (by omega)]; exact hc.h, by rw [upd_ne _ _ (by omega)]; exact hc.dead, by simpa using hc.lC⟩
  have hi := (List.getElem?_eq_some_iff.1 hg).1
  simp at hi
  have hlen : (p.ctl.modify l (fun f => { f with chain := n :: f.chain })).length = p.ctl.length := by simp
  dsimp only at hg
  rw [List.getElem?_reverse (by simpa using hi), hlen] at hg
  by_cases e : i = j
  · subst e
    rw [show p.ctl.length - 1 - i = l by omega] at hg
    simp [List.getElem?_modify, hf] at hg
    subst hg
    have hr : p.ctl.reverse[i]? = some f := by
      rw [List.getElem?_reverse (by omega), show p.ctl.length - 1 - i = l by omega]; exact hf
    obtain ⟨a0, a1, a2, a3, a4, a5, a6⟩ := hc.ctl i f hr
    exact ⟨by rw [upd_ne _ _ (by omega)]; exact a0, by rw [upd_ne _ _ (by omega)]; exact a1, by rw [upd_ne _ _ (by omega)]; exact a2, by rw [upd_ne _ _ (by omega)]; exact a3, upd_same _ _ _, by rw [upd_ne _ _ (by omega)]; exact a5, by rw [upd_ne _ _ (by omega)]; exact a6⟩
  · have hne : ¬ l = p.ctl.length - 1 - i := by omega
    simp [List.getElem?_modify, hne] at hg
    have hr : p.ctl.reverse[i]? = some g := by rw [List.getElem?_reverse (by omega)]; exact hg
    obtain ⟨a0, a1, a2, a3, a4, a5, a6⟩ := hc.ctl i g hr
    exact ⟨by rw [upd_ne _ _ (by omega)]; exact a0, by rw [upd_ne _ _ (by omega)]; exact a1, by rw [upd_ne _ _ (by omega)]; exact a2, by rw [upd_ne _ _ (by omega)]; exact a3, by rw [upd_ne _ _ (by omega)]; exact a4, by rw [upd_ne _ _ (by omega)]; exact a5, by rw [upd_ne _ _ (by omega)]; exact a6⟩
set_option maxHeartbeats 8000000 in
theorem branch_calls (h : Pd w pb cb x p) (hI : PI p) (hl : p.cells.length < 121) (op l : Nat) (ho : op < 256) (hll : l < p.ctl.length) :
    Calls Tryz.prog 210 #[.pointer (some ⟨pb, 0, none⟩), .int .u8 op, .int .i64 l] w (fun en w' => en = .returned (.tuple #[]) ∧ Kp (P2 pb cb) w w' ∧ Pd w' pb cb x (branchP p op l)) := by
  obtain ⟨X, hX⟩ : ∃ X, branchP p op l = X := ⟨_, rfl⟩
  rw [hX]
  obtain ⟨f, hf⟩ : ∃ f, p.ctl[l]? = some f := ⟨_, List.getElem?_eq_getElem hll⟩
  have hfd : p.ctl.getD l PF.zero = f := by rw [List.getD_eq_getElem?_getD, hf]; rfl
  unfold branchP at hX
  rw [hfd] at hX
  dsimp only at hX
  have hG := hI.g f (List.mem_of_getElem? hf)
  obtain ⟨j, hj⟩ : ∃ j, j + l + 1 = p.ctl.length := ⟨p.ctl.length - 1 - l, by omega⟩
  obtain ⟨nc, hnc⟩ : ∃ nc, p.cells.length = nc := ⟨_, rfl⟩
  rw [hnc] at hl
  have HW : Hid (∀ W, Pd W pb cb x p → PdB W pb cb nc j l f) := fun W hW => hW.walkB hf hj hnc hl
  have hfl := hG.fl
  have har := hG.ar
  have hst := hG.st
  have hlp := hG.lp
  have hfo := hG.op
  rw [hnc] at hst hX
  have HX : Hid _ := hX
  have HP : Hid _ := h
  have HF : Hid _ := hf
  have HJ : Hid _ := hj
  have HNC : Hid _ := hnc
  have hch : f.chain.headD 0 < nc := by
    have hpos := hI.pos
    rw [hnc] at hpos
    cases hcc : f.chain with
    | nil => exact hpos
    | cons a r =>
      have := hG.ch.mem a (by rw [hcc]; simp)
      obtain ⟨_, y, hy, _⟩ := this
      have := (List.getElem?_eq_some_iff.1 hy).1
      show a < nc
      omega
  obtain ⟨c0, c51, e0, e1, e2, e3, e4, e5, e6, h7, h7', ⟨v0, y0⟩, ⟨v1, y1⟩, ⟨v2, y2⟩, z0, z1, z2, f0, fp, pl, cl, ne, ne'⟩ := HW.out w h
  have hsub : (j : Int) + (l : Int) + 1 - 1 - (l : Int) = (j : Int) := by omega
  obtain ⟨hd0, hhd⟩ : ∃ hd0, f.chain.headD 0 = hd0 := ⟨_, rfl⟩
  rw [hhd] at e4 hch HX
  clear hX h hI hf hj hnc hfd hG hhd
  by_cases h3 : f.op = 3
  · rw [if_pos h3] at HX
    have hs1 := (hlp h3).1
    rw [h3] at e0
    obtain ⟨st, hst'⟩ : ∃ st, f.start = st + 1 := ⟨f.start - 1, by omega⟩
    rw [hst'] at e3 hst HX
    rw [show ((st + 1 : Nat) : Int) - 1 = (st : Int) by omega] at HX
    clear hlp hst' hs1
    have hpk := fun (w' : World) => pack_calls (w := w') 0 f.floor (by omega) hfl
    go_enter Tryz.func210, Tryz.ntmps210
    go_wp2_with (go_at_call 264; refine (hpk _).mono ?_; rintro en w2 ⟨rfl, m2, rfl⟩)
    have hne1 : ¬ w.heap.size = pb := by omega
    have hne2 : ¬ w.heap.size = cb := by omega
    go_region
    refine absW (fun W => Pd W pb cb x { p with cells := p.cells ++ [⟨op, (st : Int), packP 0 f.floor⟩] } ∧ Kp (P2 pb cb) w W) ?_ ?_
    · exact ⟨((((HP.out.new ((Kp.refl _ _).alloc _)).drewM m2).push HNC.out hl ⟨op, (st : Int), packP 0 f.floor⟩).new ((Kp.refl _ _).alloc _)).new (Kp.refl _ _).drew, (((((((kp2 pb cb w).alloc _).drewM m2).pc _).pc _).pc _).pp _ |>.alloc _).drew⟩
    rintro w5 ⟨hP5, hK5⟩
    go_wp2
    refine bodyPost_ret (results_none rfl _ _ _) rfl ?_
    exact ⟨rfl, hK5, by rw [← HX.out]; exact hP5⟩
  · rw [if_neg h3] at HX
    have h3b : ((f.op : Int) == 3) = false := by rw [beq_eq_false_iff_ne]; omega
    have hpk := fun (w' : World) => pack_calls (w := w') f.arity f.floor har hfl
    go_enter Tryz.func210, Tryz.ntmps210
    go_wp2_with (go_at_call 264; refine (hpk _).mono ?_; rintro en w2 ⟨rfl, m2, rfl⟩)
    have hne1 : ¬ w.heap.size = pb := by omega
    have hne2 : ¬ w.heap.size = cb := by omega
    go_region
    go_wp2_with fail
    refine absW (fun W => (Pd W pb cb x { p with ctl := p.ctl.modify l (fun f => { f with chain := nc :: f.chain }) } ∧ Kp (P2 pb cb) w W) ∧ W.cell? ⟨w.heap.size, 4, none⟩ = some (.int .i64 (hd0 : Int))) ?_ ?_
    · refine ⟨⟨((HP.out.new ((Kp.refl _ _).alloc _)).drewM (m2 + 1)).setHead HF.out HJ.out, (((kp2 pb cb w).alloc _).drewM (m2 + 1)).pp _⟩, ?_⟩
      go_simp
    rintro w5 ⟨⟨hP5, hK5⟩, b4⟩
    have HP5 : Hid _ := hP5
    have HK5 : Hid _ := hK5
    clear c0 c51 e0 e1 e2 e3 e4 e5 e6 y0 y1 y2 z0 z1 z2 f0 fp hP5 hK5
    obtain ⟨c0, c51, e0, e1, e2, e3, e4, e5, e6, _, _, ⟨v0, y0⟩, ⟨v1, y1⟩, ⟨v2, y2⟩, z0, z1, z2, f0, fp, pl5, cl5, _, _⟩ := HP5.out.walkB (l := l) (j := j) (f := { f with chain := nc :: f.chain }) (by simp [List.getElem?_modify, HF.out]) (by simpa using HJ.out) HNC.out hl
    clear c51 e0 e1 e2 e3 e4 e5 e6 fp
    go_region
    refine absW (fun W => Pd W pb cb x { p with ctl := p.ctl.modify l (fun f => { f with chain := nc :: f.chain }), cells := p.cells ++ [⟨op, (hd0 : Int), packP f.arity f.floor⟩] } ∧ Kp (P2 pb cb) w W) ?_ ?_
    · exact ⟨((HP5.out.push HNC.out hl ⟨op, (hd0 : Int), packP f.arity f.floor⟩).new ((Kp.refl _ _).alloc _)).new (Kp.refl _ _).drew, (((((HK5.out.pc _).pc _).pc _).pp _).alloc _).drew⟩
    rintro w6 ⟨hP6, hK6⟩
    go_wp2
    go_end0
    exact ⟨rfl, hK6, by rw [← HX.out]; exact hP6⟩
end
end Go.Proofs.Qxb6500275aGreatDoor
