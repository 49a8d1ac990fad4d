import Derived.Test.Qxb6500275aGreatDoorPp4
set_option maxRecDepth 100000
set_option linter.unusedVariables false
set_option linter.unusedSimpArgs false
namespace Go.Proofs.Qxb6500275aGreatDoor
open Go Go.RowKit
section
variable {w : World} {mb pb cb x : Nat} {M : Mod} {p : PS}
theorem PL.setX {F G : Nat → Value} {cells : List Ins} (h : PL cb F G cells x) {a here : Nat} (ha : a < cells.length) (h0 : a ≠ 0) : PL cb F (upd G (a * 3 + 1) (.int .u32 (here : Int))) (setX cells a here) x := by
  refine ⟨by rw [setX_len]; exact h.sl, h.hi, fun i h1 h2 h3 => ?_, fun i y hy => ?_, by rw [setX_ne (Ne.symm h0)]; exact h.z, by rw [setX_len]; exact h.n⟩
  · rw [setX_len] at h2
    obtain ⟨a0, a1, a2⟩ := h.zr i h1 h2 h3
    refine ⟨?_, ?_, ?_⟩
    · show upd _ _ _ (i * 3 + 0) = _
      rw [upd_ne _ _ (by omega)]; exact a0
    · show upd _ _ _ (i * 3 + 1) = _
      rw [upd_ne _ _ (by omega)]; exact a1
    · show upd _ _ _ (i * 3 + 2) = _
      rw [upd_ne _ _ (by omega)]; exact a2
  · by_cases e : i = a
    · subst e
      obtain ⟨c, hc⟩ : ∃ c, cells[i]? = some c := ⟨_, List.getElem?_eq_getElem ha⟩
      rw [setX_at hc] at hy
      simp at hy
      subst hy
      obtain ⟨a0, a1, a2⟩ := h.cl i c hc
      refine ⟨?_, ?_, ?_⟩
      · show upd _ _ _ (i * 3 + 0) = _
        rw [upd_ne _ _ (by omega)]; exact a0
      · show upd _ _ _ (i * 3 + 1) = _
        rw [upd_same]
      · show upd _ _ _ (i * 3 + 2) = _
        rw [upd_ne _ _ (by omega)]; exact a2
    · rw [setX_ne e] at hy
      obtain ⟨a0, a1, a2⟩ := h.cl i y hy
      refine ⟨?_, ?_, ?_⟩
      · show upd _ _ _ (i * 3 + 0) = _
        rw [upd_ne _ _ (by omega)]; exact a0
      · show upd _ _ _ (i * 3 + 1) = _
        rw [upd_ne _ _ (by omega)]; exact a1
      · show upd _ _ _ (i * 3 + 2) = _
        rw [upd_ne _ _ (by omega)]; exact a2
theorem Pd.setX {a here : Nat} (h : Pd w pb cb x p) (ha : a < p.cells.length) (h0 : a ≠ 0) : Pd (w.setCell ⟨cb, a * 3 + 1, none⟩ (.int .u32 (here : Int))) pb cb x { p with cells := Go.Proofs.Qxb6500275aGreatDoor.setX p.cells a here } := by
  obtain ⟨⟨F, G, b1, b2, hl, hc⟩, ne⟩ := h
  have hn := hl.n
  exact ⟨⟨_, _, b1.other ne _, b2.set (by omega) _, hl.setX ha h0, ⟨hc.ctl, hc.d, hc.h, hc.dead, hc.lC⟩⟩, ne⟩
set_option maxHeartbeats 8000000 in
theorem patch_calls (h : Pd w pb cb x p) (l : List Nat) (hch : Chain p.cells l) (here : Nat) (hh : here < 4294967296) :
    Calls Tryz.prog 209 #[.pointer (some ⟨pb, 0, none⟩), .int .i64 (l.headD 0 : Nat), .int .u32 here] w (fun en w' => en = .returned (.tuple #[]) ∧ Kp (P2 pb cb) w w' ∧ Pd w' pb cb x { p with cells := patchP p.cells here l }) := by
  obtain ⟨X, hX⟩ : ∃ X, patchP p.cells here l = X := ⟨_, rfl⟩
  rw [hX]
  have HS : Hid (Pd w pb cb x p ∧ Chain p.cells l ∧ patchP p.cells here l = X) := ⟨h, hch, hX⟩
  clear h hch hX
  go_enter Tryz.func209, Tryz.ntmps209
  go_wp2
  go_loopw [1] (fun ii w1 => ∃ (l : List Nat) (c : List Ins), ii = .int .i64 (l.headD 0 : Nat) ∧ Hid (Pd w1 pb cb x { p with cells := c } ∧ Chain c l ∧ patchP c here l = X) ∧ Hid (Kp (P2 pb cb) w w1)) (fun ii _ => (intOf ii).toNat)
  case atStart => exact ⟨l, p.cells, rfl, HS, Kp.refl _ _⟩
  case round =>
    clear HS
    obtain ⟨l, c, rfl, HS, HK⟩ := hrel
    obtain ⟨hP, hC, hX⟩ := HS.out
    obtain ⟨c0, c51, c52, c53, ff, g, fs, gs, lC, n, n0, pl, cl, ne⟩ := hP.cells
    have HP : Hid _ := hP
    dsimp only at c0 n n0
    obtain ⟨nc, hnc⟩ : ∃ nc, c.length = nc := ⟨_, rfl⟩
    rw [hnc] at c0 n n0
    have hz : c[0]? = some Ins.zero := by
      obtain ⟨⟨F, G, b1, b2, hl, hc⟩, _⟩ := hP
      exact hl.z
    cases l with
    | nil =>
      obtain ⟨a0, a1, a2⟩ := hP.ins (i := 0) hz
      rw [Nat.zero_mul, Nat.zero_add] at a1 a2
      rw [Nat.zero_mul] at a0
      rw [patchP] at hX
      have HX : Hid _ := hX
      unfold Ins.zero at a0 a1 a2
      dsimp only at a0 a1 a2
      have n0' : (0 : Int) < (nc : Int) := by omega
      clear hP hC hX hz hnc HS c51 c52 c53 ff g fs gs lC
      go_wp2
      refine bodyPost_ret (results_none rfl _ _ _) rfl ?_
      exact ⟨rfl, HK.out.alloc _, by rw [← HX.out]; exact HP.out.new ((Kp.refl _ _).alloc _)⟩
    | cons a r =>
      obtain ⟨⟨h0, y, hy, hbr, hyx⟩, hdec, hCr⟩ := hC
      obtain ⟨a0, a1, a2⟩ := hP.ins (i := a) hy
      rw [hyx] at a1
      rw [patchP] at hX
      have HX : Hid _ := hX
      have HCr : Hid _ := hCr
      have hal := (List.getElem?_eq_some_iff.1 hy).1
      rw [hnc] at hal
      have HPX : Hid (∀ W, Pd W pb cb x { p with cells := c } → Pd (W.setCell ⟨cb, a * 3 + 1, none⟩ (.int .u32 (here : Int))) pb cb x { p with cells := setX c a here }) := fun W hW => hW.setX (by show a < c.length; rw [hnc]; exact hal) (by omega)
      have HCX : Hid (Chain (setX c a here) r) := hCr.setX (fun hm => by have := hdec a hm; omega)
      obtain ⟨nx, hnx⟩ : ∃ nx, r.headD 0 = nx := ⟨_, rfl⟩
      have hnxa : nx < a := by
        rw [← hnx]
        cases r with
        | nil => exact h0
        | cons b r' => exact hdec b (by simp)
      rw [hnx] at a1
      have HNX : Hid _ := hnx
      have z1 := g (a * 3 + 1) (by omega)
      have hob : ((y.op : Int) == 0) = false := by
        rw [beq_eq_false_iff_ne]
        unfold isBr at hbr
        omega
      have hab : (a : Int) < (nc : Int) := by omega
      have hhd : (a :: r).headD 0 = a := rfl
      rw [hhd]
      clear hP hX hz hnc HS c51 c52 c53 ff g fs gs lC hy hyx hdec hCr hnx hhd hbr
      go_wp2
      exact ⟨⟨r, setX c a here, by rw [HNX.out], ⟨(HPX.out _ HP.out).new ((Kp.refl _ _).alloc _), HCX.out, HX.out⟩, (HK.out.pc _).alloc _⟩, by simp [intOf]; omega⟩
/- a block opens -/
theorem Pd.open1 {d : Nat} (h : Pd w pb cb x p) (hd : p.ctl.length = d) (hl : d < 7) (g : PF) (hg : g.chain = []) (hj : g.jump = 0) : Pd ((((((((w.setCell ⟨pb, 2 + d * 7, none⟩ (.int .u8 g.op)).setCell ⟨pb, 2 + d * 7 + 1, none⟩ (.int .i64 g.floor)).setCell ⟨pb, 2 + d * 7 + 2, none⟩ (.int .i64 g.arity)).setCell ⟨pb, 2 + d * 7 + 3, none⟩ (.int .i64 g.start)).setCell ⟨pb, 2 + d * 7 + 4, none⟩ (.int .i64 0)).setCell ⟨pb, 2 + d * 7 + 5, none⟩ (.int .i64 g.cond)).setCell ⟨pb, 2 + d * 7 + 6, none⟩ (.int .i64 0)).setCell ⟨pb, 51, none⟩ (.int .i64 ((d : Int) + 1))) pb cb x { p with ctl := g :: p.ctl } := by
  subst hd
  obtain ⟨⟨F, G, b1, b2, hL, hc⟩, ne⟩ := h
  refine ⟨⟨_, _, (((((((b1.set (by omega) _).set (by omega) _).set (by omega) _).set (by omega) _).set (by omega) _).set (by omega) _).set (by omega) _).set (by omega) _, (((((((b2.other (Ne.symm ne) _).other (Ne.symm ne) _).other (Ne.symm ne) _).other (Ne.symm ne) _).other (Ne.symm ne) _).other (Ne.symm ne) _).other (Ne.symm ne) _).other (Ne.symm ne) _, (((((((hL.updF (by omega) _).updF (by omega) _).updF (by omega) _).updF (by omega) _).updF (by omega) _).updF (by omega) _).updF (by omega) _).updF (by omega) _, ?_⟩, ne⟩
  refine ⟨fun i g' hg' => ?_, by rw [upd_same]; simp, ?_, ?_, by simp; omega⟩
  · dsimp only at hg'
    have hi := (List.getElem?_eq_some_iff.1 hg').1
    simp at hi
    rw [List.reverse_cons] at hg'
    by_cases e : i = p.ctl.length
    · subst e
      rw [List.getElem?_append_right (by simp)] at hg'
      simp at hg'
      subst hg'
      rw [hg, hj]
      refine ⟨?_, ?_, ?_, ?_, ?_, ?_, ?_⟩
      · rw [upd_ne _ _ (by omega), upd_ne _ _ (by omega), upd_ne _ _ (by omega), upd_ne _ _ (by omega), upd_ne _ _ (by omega), upd_ne _ _ (by omega), upd_ne _ _ (by omega), upd_same]
      · rw [upd_ne _ _ (by omega), upd_ne _ _ (by omega), upd_ne _ _ (by omega), upd_ne _ _ (by omega), upd_ne _ _ (by omega), upd_ne _ _ (by omega), upd_same]
      · rw [upd_ne _ _ (by omega), upd_ne _ _ (by omega), upd_ne _ _ (by omega), upd_ne _ _ (by omega), upd_ne _ _ (by omega), upd_same]
      · rw [upd_ne _ _ (by omega), upd_ne _ _ (by omega), upd_ne _ _ (by omega), upd_ne _ _ (by omega), upd_same]
      · rw [upd_ne _ _ (by omega), upd_ne _ _ (by omega), upd_ne _ _ (by omega), upd_same]; rfl
      · rw [upd_ne _ _ (by omega), upd_ne _ _ (by omega), upd_same]
      · rw [upd_ne _ _ (by omega), upd_same]; rfl
    · rw [List.getElem?_append_left (by simp; omega)] at hg'
      obtain ⟨a0, a1, a2, a3, a4, a5, a6⟩ := hc.ctl i g' hg'
      have u : ∀ k, k < 2 + p.ctl.length * 7 → upd (upd (upd (upd (upd (upd (upd (upd F (2 + p.ctl.length * 7) (.int .u8 g.op)) (2 + p.ctl.length * 7 + 1) (.int .i64 g.floor)) (2 + p.ctl.length * 7 + 2) (.int .i64 g.arity)) (2 + p.ctl.length * 7 + 3) (.int .i64 g.start)) (2 + p.ctl.length * 7 + 4) (.int .i64 0)) (2 + p.ctl.length * 7 + 5) (.int .i64 g.cond)) (2 + p.ctl.length * 7 + 6) (.int .i64 0)) 51 (.int .i64 ((p.ctl.length : Int) + 1)) k = F k := fun k hk => by
        rw [upd_ne _ _ (by omega), upd_ne _ _ (by omega), upd_ne _ _ (by omega), upd_ne _ _ (by omega), upd_ne _ _ (by omega), upd_ne _ _ (by omega), upd_ne _ _ (by omega), upd_ne _ _ (by omega)]
      exact ⟨by rw [u _ (by omega)]; exact a0, by rw [u _ (by omega)]; exact a1, by rw [u _ (by omega)]; exact a2, by rw [u _ (by omega)]; exact a3, by rw [u _ (by omega)]; exact a4, by rw [u _ (by omega)]; exact a5, by rw [u _ (by omega)]; exact a6⟩
  · rw [upd_ne _ _ (by omega), upd_ne _ _ (by omega), upd_ne _ _ (by omega), upd_ne _ _ (by omega), upd_ne _ _ (by omega), upd_ne _ _ (by omega), upd_ne _ _ (by omega), upd_ne _ _ (by omega)]; exact hc.h
  · rw [upd_ne _ _ (by omega), upd_ne _ _ (by omega), upd_ne _ _ (by omega), upd_ne _ _ (by omega), upd_ne _ _ (by omega), upd_ne _ _ (by omega), upd_ne _ _ (by omega), upd_ne _ _ (by omega)]; exact hc.dead
/- the struct's cells of block number d, whatever they hold -/
theorem Pd.slots {d : Nat} (h : Pd w pb cb x p) (hd : d < 7) : ∀ k, k < 7 → (∃ v, w.cell? ⟨pb, 2 + d * 7 + k, none⟩ = some v) ∧ w.frozen? ⟨pb, 2 + d * 7 + k, none⟩ = false := fun k hk => by
  obtain ⟨c0, c51, c52, c53, ff, g, fs, gs, lC, n, n0, pl, cl, ne⟩ := h.cells
  exact ⟨fs _ (by omega), ff _ (by omega)⟩
set_option maxHeartbeats 8000000 in
theorem open_calls (h : Pd w pb cb x p) (hI : PI p) (hl : p.cells.length < 121) (i : Ins) (hi : InsOk i) (ho : i.op = 2 ∨ i.op = 3 ∨ i.op = 4) {f : PF} {r : List PF} (hc : p.ctl = f :: r) :
    Calls Tryz.prog 156 #[.pointer (some ⟨pb, 0, none⟩), i.val] w (PO pb cb x w (openP p i)) := by
  obtain ⟨X, hX⟩ : ∃ X, openP p i = X := ⟨_, rfl⟩
  rw [hX]
  unfold openP at hX
  have htop : p.top = f := by unfold PS.top; rw [hc]; rfl
  rw [htop] at hX
  obtain ⟨d, hd⟩ : ∃ d, r.length = d := ⟨_, rfl⟩
  obtain ⟨hh, hhe⟩ : ∃ hh, p.h = hh := ⟨_, rfl⟩
  obtain ⟨dd, hde⟩ : ∃ dd, p.dead = dd := ⟨_, rfl⟩
  obtain ⟨nc, hnc⟩ : ∃ nc, p.cells.length = nc := ⟨_, rfl⟩
  rw [hnc] at hl
  have hctl : p.ctl.length = d + 1 := by rw [hc]; simp; exact hd
  have HW : Hid (∀ W, Pd W pb cb x p → PdW W pb cb nc d hh dd f) := fun W hW => hW.walk hc hnc hl hd hhe hde
  have hh10 := hI.h
  have hfl := (hI.g f (by rw [hc]; simp)).fl
  rw [hhe] at hX hh10
  rw [hctl, hnc] at hX
  have HX : Hid _ := hX
  have HP : Hid _ := h
  have HNC : Hid _ := hnc
  have HCT : Hid _ := hctl
  have HHE : Hid _ := hhe
  obtain ⟨c0, c51, c52, c53, e0, e1, e2, e3, e4, e5, e6, h7, h7', ⟨v0, y0⟩, ⟨v1, y1⟩, ⟨v2, y2⟩, z0, z1, z2, f0, f51, f52, f53, pl, cl, ne, ne'⟩ := HW.out w h
  have hxr := hi.x
  unfold u32R at hxr
  obtain ⟨op, X1, Y1⟩ := i
  unfold Ins.val
  dsimp only at ho hxr HX ⊢
  obtain ⟨X1, rfl⟩ := Int.eq_ofNat_of_zero_le hxr.1
  clear hX h hI hi hc htop hd hhe hnc hde hctl
  by_cases h6 : d = 6
  · rw [if_pos (by omega)] at HX
    subst h6
    go_enter Tryz.func156, Tryz.ntmps156
    go_wp2
    go_ret
    rw [← HX.out]
    exact ⟨(Kp.refl _ _).alloc _, rfl, HP.out.pw.new ((Kp.refl _ _).alloc _)⟩
  · rw [if_neg (by omega)] at HX
    have h6b : (((d : Int) + 1) == 7) = false := by rw [beq_eq_false_iff_ne]; omega
    have hd7 : (d : Int) + 1 < 7 := by omega
    obtain ⟨ar, har⟩ : ∃ ar, (if (X1 : Int) = 64 then 0 else 1 : Nat) = ar := ⟨_, rfl⟩
    rw [har] at HX
    have har2 : (X1 = 64 ∧ ar = 0) ∨ (¬ X1 = 64 ∧ ar = 1) := by
      by_cases e : X1 = 64
      · rw [if_pos (by omega)] at har; exact .inl ⟨e, har.symm⟩
      · rw [if_neg (by omega)] at har; exact .inr ⟨e, har.symm⟩
    clear har
    have HS : Hid (∀ W q, Pd W pb cb x q → ∀ k, k < 7 → (∃ v, W.cell? ⟨pb, 2 + (d + 1) * 7 + k, none⟩ = some v) ∧ W.frozen? ⟨pb, 2 + (d + 1) * 7 + k, none⟩ = false) := fun W q hW => hW.slots (by omega)
    by_cases h4 : op = 4
    · subst h4
      rw [if_pos rfl] at HX
      by_cases k1 : hh < f.floor + 1
      · rw [if_pos k1] at HX
        have i1 : (hh : Int) - 1 < (f.floor : Int) := by omega
        go_enter Tryz.func156, Tryz.ntmps156
        go_wp2_with fail
        go_quiet (fail)
        go_wp2
        go_ret
        rw [← HX.out]
        exact ⟨(((kp2 pb cb w).pp _).alloc _).drewM _, rfl, ((HP.out.pw.set (i := 52) (by decide) (by decide) _).new ((Kp.refl _ _).alloc _)).new ((Kp.refl _ _).drewM _)⟩
      · rw [if_neg k1] at HX
        obtain ⟨hq, rfl⟩ : ∃ hq, hh = hq + 1 := ⟨hh - 1, by omega⟩
        rw [Nat.add_sub_cancel] at HX
        have i1 : decide (hq < f.floor) = false := decide_eq_false (by omega)
        rcases har2 with hA | hA
        · obtain ⟨rfl, rfl⟩ := hA
          go_enter Tryz.func156, Tryz.ntmps156
          go_wp2_with fail
          go_quiet (fail)
          go_wp2_with fail
          refine absW (fun W => (Pd W pb cb x { p with h := hq, cells := p.cells ++ [⟨4, 0, 0⟩] } ∧ Kp (P2 pb cb) w W) ∧ W.cell? ⟨w.heap.size, 0, none⟩ = some (.int .u8 4)) ?_ ?_
          · refine ⟨⟨((((HP.out.setH hq).new ((Kp.refl _ _).alloc _)).drewM nq).push HNC.out hl ⟨4, 0, 0⟩).new ((Kp.refl _ _).alloc _), ((((((((kp2 pb cb w).pp _).alloc _).drewM _).pc _).pc _).pc _).pp _).alloc _⟩, ?_⟩
            have hne1 : ¬ w.heap.size = pb := by omega
            have hne2 : ¬ w.heap.size = cb := by omega
            go_simp
          rintro w5 ⟨⟨hP5, hK5⟩, b0⟩
          have HP5 : Hid _ := hP5
          have HK5 : Hid _ := hK5
          clear c0 c51 c52 c53 e0 e1 e2 e3 e4 e5 e6 y0 y1 y2 z0 z1 z2 f0 f51 f52 f53 hP5 hK5
          obtain ⟨c0, c51, c52, c53, ff, _, _, _, _, _, _, pl5, cl5, _⟩ := HP5.out.cells
          have f51 := ff 51 (by decide)
          have hs := HS.out w5 _ HP5.out
          obtain ⟨⟨u0, q0⟩, r0⟩ := hs 0 (by decide)
          obtain ⟨⟨u1, q1⟩, r1⟩ := hs 1 (by decide)
          obtain ⟨⟨u2, q2⟩, r2⟩ := hs 2 (by decide)
          obtain ⟨⟨u3, q3⟩, r3⟩ := hs 3 (by decide)
          obtain ⟨⟨u4, q4⟩, r4⟩ := hs 4 (by decide)
          obtain ⟨⟨u5, q5⟩, r5⟩ := hs 5 (by decide)
          obtain ⟨⟨u6, q6⟩, r6⟩ := hs 6 (by decide)
          try dsimp only at c0 c51 c52 c53
          rw [List.length_append, HNC.out] at c0
          rw [HCT.out] at c51
          simp only [List.length_cons, List.length_nil, Nat.zero_add] at c0
          rw [Nat.add_zero] at q0 r0
          clear hs ff
          go_region
          go_wp2
          go_ret
          rw [← HX.out]
          exact ⟨((((((((HK5.out.pp _).pp _).pp _).pp _).pp _).pp _).pp _).pp _).drew, rfl, (HP5.out.open1 (d := d + 1) HCT.out (by omega) ⟨4, hq, 0, nc + 1, [], nc, 0⟩ rfl rfl).new (Kp.refl _ _).drew⟩
        · obtain ⟨hx, rfl⟩ := hA
          have hxb : ((X1 : Int) == 64) = false := by rw [beq_eq_false_iff_ne]; omega
          go_enter Tryz.func156, Tryz.ntmps156
          go_wp2_with fail
          go_quiet (fail)
          go_wp2_with fail
          refine absW (fun W => (Pd W pb cb x { p with h := hq, cells := p.cells ++ [⟨4, 0, 0⟩] } ∧ Kp (P2 pb cb) w W) ∧ W.cell? ⟨w.heap.size, 0, none⟩ = some (.int .u8 4)) ?_ ?_
          · refine ⟨⟨((((HP.out.setH hq).new ((Kp.refl _ _).alloc _)).drewM nq).push HNC.out hl ⟨4, 0, 0⟩).new ((Kp.refl _ _).alloc _), ((((((((kp2 pb cb w).pp _).alloc _).drewM _).pc _).pc _).pc _).pp _).alloc _⟩, ?_⟩
            have hne1 : ¬ w.heap.size = pb := by omega
            have hne2 : ¬ w.heap.size = cb := by omega
            go_simp
          rintro w5 ⟨⟨hP5, hK5⟩, b0⟩
          have HP5 : Hid _ := hP5
          have HK5 : Hid _ := hK5
          clear c0 c51 c52 c53 e0 e1 e2 e3 e4 e5 e6 y0 y1 y2 z0 z1 z2 f0 f51 f52 f53 hP5 hK5
          obtain ⟨c0, c51, c52, c53, ff, _, _, _, _, _, _, pl5, cl5, _⟩ := HP5.out.cells
          have f51 := ff 51 (by decide)
          have hs := HS.out w5 _ HP5.out
          obtain ⟨⟨u0, q0⟩, r0⟩ := hs 0 (by decide)
          obtain ⟨⟨u1, q1⟩, r1⟩ := hs 1 (by decide)
          obtain ⟨⟨u2, q2⟩, r2⟩ := hs 2 (by decide)
          obtain ⟨⟨u3, q3⟩, r3⟩ := hs 3 (by decide)
          obtain ⟨⟨u4, q4⟩, r4⟩ := hs 4 (by decide)
          obtain ⟨⟨u5, q5⟩, r5⟩ := hs 5 (by decide)
          obtain ⟨⟨u6, q6⟩, r6⟩ := hs 6 (by decide)
          try dsimp only at c0 c51 c52 c53
          rw [List.length_append, HNC.out] at c0
          rw [HCT.out] at c51
          simp only [List.length_cons, List.length_nil, Nat.zero_add] at c0
          rw [Nat.add_zero] at q0 r0
          clear hs ff
          go_region
          go_wp2
          go_ret
          rw [← HX.out]
          exact ⟨((((((((HK5.out.pp _).pp _).pp _).pp _).pp _).pp _).pp _).pp _).drew, rfl, (HP5.out.open1 (d := d + 1) HCT.out (by omega) ⟨4, hq, 1, nc + 1, [], nc, 0⟩ rfl rfl).new (Kp.refl _ _).drew⟩
    · rw [if_neg h4] at HX
      rcases (by omega : op = 2 ∨ op = 3) with rfl | rfl
      · rcases har2 with hA | hA
        · obtain ⟨rfl, rfl⟩ := hA
          go_enter Tryz.func156, Tryz.ntmps156
          go_wp2_with fail
          refine absW (fun W => (Pd W pb cb x p ∧ Kp (P2 pb cb) w W) ∧ W.cell? ⟨w.heap.size, 0, none⟩ = some (.int .u8 2)) ?_ ?_
          · refine ⟨⟨HP.out.new ((Kp.refl _ _).alloc _), (kp2 pb cb w).alloc _⟩, ?_⟩
            go_simp
          rintro w5 ⟨⟨hP5, hK5⟩, b0⟩
          have HP5 : Hid _ := hP5
          have HK5 : Hid _ := hK5
          clear c0 c51 c52 c53 e0 e1 e2 e3 e4 e5 e6 y0 y1 y2 z0 z1 z2 f0 f51 f52 f53 hP5 hK5
          obtain ⟨c0, c51, c52, c53, ff, _, _, _, _, _, _, pl5, cl5, _⟩ := HP5.out.cells
          have f51 := ff 51 (by decide)
          have hs := HS.out w5 _ HP5.out
          obtain ⟨⟨u0, q0⟩, r0⟩ := hs 0 (by decide)
          obtain ⟨⟨u1, q1⟩, r1⟩ := hs 1 (by decide)
          obtain ⟨⟨u2, q2⟩, r2⟩ := hs 2 (by decide)
          obtain ⟨⟨u3, q3⟩, r3⟩ := hs 3 (by decide)
          obtain ⟨⟨u4, q4⟩, r4⟩ := hs 4 (by decide)
          obtain ⟨⟨u5, q5⟩, r5⟩ := hs 5 (by decide)
          obtain ⟨⟨u6, q6⟩, r6⟩ := hs 6 (by decide)
          try dsimp only at c0 c51 c52 c53
          rw [HNC.out] at c0
          rw [HCT.out] at c51
          rw [HHE.out] at c52
          rw [Nat.add_zero] at q0 r0
          clear hs ff
          go_region
          go_wp2
          go_ret
          rw [← HX.out]
          have hO := (HP5.out.open1 (d := d + 1) HCT.out (by omega) ⟨2, hh, 0, nc, [], 0, 0⟩ rfl rfl).new (Kp.refl _ _).drew
          exact ⟨((((((((HK5.out.pp _).pp _).pp _).pp _).pp _).pp _).pp _).pp _).drew, rfl, by rw [← HHE.out] at hO ⊢; exact hO⟩
        · obtain ⟨hx, rfl⟩ := hA
          have hxb : ((X1 : Int) == 64) = false := by rw [beq_eq_false_iff_ne]; omega
          go_enter Tryz.func156, Tryz.ntmps156
          go_wp2_with fail
          refine absW (fun W => (Pd W pb cb x p ∧ Kp (P2 pb cb) w W) ∧ W.cell? ⟨w.heap.size, 0, none⟩ = some (.int .u8 2)) ?_ ?_
          · refine ⟨⟨HP.out.new ((Kp.refl _ _).alloc _), (kp2 pb cb w).alloc _⟩, ?_⟩
            go_simp
          rintro w5 ⟨⟨hP5, hK5⟩, b0⟩
          have HP5 : Hid _ := hP5
          have HK5 : Hid _ := hK5
          clear c0 c51 c52 c53 e0 e1 e2 e3 e4 e5 e6 y0 y1 y2 z0 z1 z2 f0 f51 f52 f53 hP5 hK5
          obtain ⟨c0, c51, c52, c53, ff, _, _, _, _, _, _, pl5, cl5, _⟩ := HP5.out.cells
          have f51 := ff 51 (by decide)
          have hs := HS.out w5 _ HP5.out
          obtain ⟨⟨u0, q0⟩, r0⟩ := hs 0 (by decide)
          obtain ⟨⟨u1, q1⟩, r1⟩ := hs 1 (by decide)
          obtain ⟨⟨u2, q2⟩, r2⟩ := hs 2 (by decide)
          obtain ⟨⟨u3, q3⟩, r3⟩ := hs 3 (by decide)
          obtain ⟨⟨u4, q4⟩, r4⟩ := hs 4 (by decide)
          obtain ⟨⟨u5, q5⟩, r5⟩ := hs 5 (by decide)
          obtain ⟨⟨u6, q6⟩, r6⟩ := hs 6 (by decide)
          try dsimp only at c0 c51 c52 c53
          rw [HNC.out] at c0
          rw [HCT.out] at c51
          rw [HHE.out] at c52
          rw [Nat.add_zero] at q0 r0
          clear hs ff
          go_region
          go_wp2
          go_ret
          rw [← HX.out]
          have hO := (HP5.out.open1 (d := d + 1) HCT.out (by omega) ⟨2, hh, 1, nc, [], 0, 0⟩ rfl rfl).new (Kp.refl _ _).drew
          exact ⟨((((((((HK5.out.pp _).pp _).pp _).pp _).pp _).pp _).pp _).pp _).drew, rfl, by rw [← HHE.out] at hO ⊢; exact hO⟩
      · rcases har2 with hA | hA
        · obtain ⟨rfl, rfl⟩ := hA
          go_enter Tryz.func156, Tryz.ntmps156
          go_wp2_with fail
          refine absW (fun W => (Pd W pb cb x p ∧ Kp (P2 pb cb) w W) ∧ W.cell? ⟨w.heap.size, 0, none⟩ = some (.int .u8 3)) ?_ ?_
          · refine ⟨⟨HP.out.new ((Kp.refl _ _).alloc _), (kp2 pb cb w).alloc _⟩, ?_⟩
            go_simp
          rintro w5 ⟨⟨hP5, hK5⟩, b0⟩
          have HP5 : Hid _ := hP5
          have HK5 : Hid _ := hK5
          clear c0 c51 c52 c53 e0 e1 e2 e3 e4 e5 e6 y0 y1 y2 z0 z1 z2 f0 f51 f52 f53 hP5 hK5
          obtain ⟨c0, c51, c52, c53, ff, _, _, _, _, _, _, pl5, cl5, _⟩ := HP5.out.cells
          have f51 := ff 51 (by decide)
          have hs := HS.out w5 _ HP5.out
          obtain ⟨⟨u0, q0⟩, r0⟩ := hs 0 (by decide)
          obtain ⟨⟨u1, q1⟩, r1⟩ := hs 1 (by decide)
          obtain ⟨⟨u2, q2⟩, r2⟩ := hs 2 (by decide)
          obtain ⟨⟨u3, q3⟩, r3⟩ := hs 3 (by decide)
          obtain ⟨⟨u4, q4⟩, r4⟩ := hs 4 (by decide)
          obtain ⟨⟨u5, q5⟩, r5⟩ := hs 5 (by decide)
          obtain ⟨⟨u6, q6⟩, r6⟩ := hs 6 (by decide)
          try dsimp only at c0 c51 c52 c53
          rw [HNC.out] at c0
          rw [HCT.out] at c51
          rw [HHE.out] at c52
          rw [Nat.add_zero] at q0 r0
          clear hs ff
          go_region
          go_wp2
          go_ret
          rw [← HX.out]
          have hO := (HP5.out.open1 (d := d + 1) HCT.out (by omega) ⟨3, hh, 0, nc, [], 0, 0⟩ rfl rfl).new (Kp.refl _ _).drew
          exact ⟨((((((((HK5.out.pp _).pp _).pp _).pp _).pp _).pp _).pp _).pp _).drew, rfl, by rw [← HHE.out] at hO ⊢; exact hO⟩
        · obtain ⟨hx, rfl⟩ := hA
          have hxb : ((X1 : Int) == 64) = false := by rw [beq_eq_false_iff_ne]; omega
          go_enter Tryz.func156, Tryz.ntmps156
          go_wp2_with fail
          refine absW (fun W => (Pd W pb cb x p ∧ Kp (P2 pb cb) w W) ∧ W.cell? ⟨w.heap.size, 0, none⟩ = some (.int .u8 3)) ?_ ?_
          · refine ⟨⟨HP.out.new ((Kp.refl _ _).alloc _), (kp2 pb cb w).alloc _⟩, ?_⟩
            go_simp
          rintro w5 ⟨⟨hP5, hK5⟩, b0⟩
          have HP5 : Hid _ := hP5
          have HK5 : Hid _ := hK5
          clear c0 c51 c52 c53 e0 e1 e2 e3 e4 e5 e6 y0 y1 y2 z0 z1 z2 f0 f51 f52 f53 hP5 hK5
          obtain ⟨c0, c51, c52, c53, ff, _, _, _, _, _, _, pl5, cl5, _⟩ := HP5.out.cells
          have f51 := ff 51 (by decide)
          have hs := HS.out w5 _ HP5.out
          obtain ⟨⟨u0, q0⟩, r0⟩ := hs 0 (by decide)
          obtain ⟨⟨u1, q1⟩, r1⟩ := hs 1 (by decide)
          obtain ⟨⟨u2, q2⟩, r2⟩ := hs 2 (by decide)
          obtain ⟨⟨u3, q3⟩, r3⟩ := hs 3 (by decide)
          obtain ⟨⟨u4, q4⟩, r4⟩ := hs 4 (by decide)
          obtain ⟨⟨u5, q5⟩, r5⟩ := hs 5 (by decide)
          obtain ⟨⟨u6, q6⟩, r6⟩ := hs 6 (by decide)
          try dsimp only at c0 c51 c52 c53
          rw [HNC.out] at c0
          rw [HCT.out] at c51
          rw [HHE.out] at c52
          rw [Nat.add_zero] at q0 r0
          clear hs ff
          go_region
          go_wp2
          go_ret
          rw [← HX.out]
          have hO := (HP5.out.open1 (d := d + 1) HCT.out (by omega) ⟨3, hh, 1, nc, [], 0, 0⟩ rfl rfl).new (Kp.refl _ _).drew
          exact ⟨((((((((HK5.out.pp _).pp _).pp _).pp _).pp _).pp _).pp _).pp _).drew, rfl, by rw [← HHE.out] at hO ⊢; exact hO⟩
end
end Go.Proofs.Qxb6500275aGreatDoor
