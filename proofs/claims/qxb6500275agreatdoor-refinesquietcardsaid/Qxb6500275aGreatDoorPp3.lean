import Derived.Test.Qxb6500275aGreatDoorPp2
import Derived.Deep.RegionLaw
set_option maxRecDepth 100000
set_option linter.unusedVariables false
set_option linter.unusedSimpArgs false
namespace Go.Proofs.Qxb6500275aGreatDoor
open Go Go.RowKit
section
variable {w : World} {mb pb cb x : Nat} {M : Mod} {p : PS}
def encK (o : Option PS) : Value := .bool o.isSome
set_option maxHeartbeats 8000000 in
theorem skip_calls (h : Pd w pb cb x p) (hd : p.dead ≤ 1000) (op : Nat) (ho : op < 256) : Calls Tryz.prog 155 #[.pointer (some ⟨pb, 0, none⟩), .int .u8 op] w (fun en w' => en = .returned (encK (skipP p op)) ∧ Kp (P2 pb cb) w w' ∧ Pd w' pb cb x ((skipP p op).getD p)) := by
  obtain ⟨X, hX⟩ : ∃ X, skipP p op = X := ⟨_, rfl⟩
  rw [hX]
  unfold skipP at hX
  have HX : Hid _ := hX
  have HP : Hid _ := h
  have HC : Hid (∀ n : Nat, Pd (w.setCell ⟨pb, 53, none⟩ (.int .i64 (n : Int))) pb cb x { p with dead := n }) := fun n => h.setDead n
  obtain ⟨c0, c51, c52, c53, f, g, fs, gs, lC, n, n0, pl, cl, ne⟩ := h.cells
  have f53 := f 53 (by decide)
  obtain ⟨d, hd'⟩ : ∃ d, p.dead = d := ⟨_, rfl⟩
  rw [hd'] at c53 hd HX
  have HD : Hid _ := hd'
  clear hX h f g fs gs hd' c0 c51 c52
  by_cases h0 : d = 0
  · subst h0
    rw [if_pos rfl] at HX
    go_enter Tryz.func155, Tryz.ntmps155
    go_wp2
    go_ret
    rw [← HX.out]
    exact ⟨rfl, Kp.refl _ _, HP.out⟩
  · have h0b : ((d : Int) == 0) = false := by rw [beq_eq_false_iff_ne]; omega
    rw [if_neg h0] at HX
    by_cases h1 : op = 2 ∨ op = 3 ∨ op = 4
    · rw [if_pos h1] at HX
      rcases h1 with rfl | rfl | rfl
      all_goals
        go_enter Tryz.func155, Tryz.ntmps155
        go_wp2
        go_ret
        rw [← HX.out]
        exact ⟨rfl, (kp2 pb cb _).pp _, HC.out (d + 1)⟩
    · rw [if_neg h1] at HX
      by_cases h5 : op = 5
      · rw [if_pos h5] at HX
        subst h5
        by_cases hd1 : 1 < d
        · rw [if_pos hd1] at HX
          have hb : (1 : Int) < (d : Int) := by omega
          go_enter Tryz.func155, Tryz.ntmps155
          go_wp2
          go_ret
          rw [← HX.out]
          exact ⟨by simp [encK, hb], Kp.refl _ _, HP.out⟩
        · rw [if_neg hd1] at HX
          have hb : ¬ (1 : Int) < (d : Int) := by omega
          go_enter Tryz.func155, Tryz.ntmps155
          go_wp2
          go_ret
          rw [← HX.out]
          exact ⟨by simp [encK, hb], Kp.refl _ _, HP.out⟩
      · rw [if_neg h5] at HX
        have b2 : ((op : Int) == 2) = false := by rw [beq_eq_false_iff_ne]; omega
        have b3 : ((op : Int) == 3) = false := by rw [beq_eq_false_iff_ne]; omega
        have b4 : ((op : Int) == 4) = false := by rw [beq_eq_false_iff_ne]; omega
        have b5 : ((op : Int) == 5) = false := by rw [beq_eq_false_iff_ne]; omega
        by_cases h11 : op = 11
        · rw [if_pos h11] at HX
          subst h11
          by_cases hd1 : d = 1
          · rw [if_pos hd1] at HX
            subst hd1
            go_enter Tryz.func155, Tryz.ntmps155
            go_wp2
            go_ret
            rw [← HX.out]
            exact ⟨rfl, Kp.refl _ _, HP.out⟩
          · rw [if_neg hd1] at HX
            have hb : ((d : Int) == 1) = false := by rw [beq_eq_false_iff_ne]; omega
            obtain ⟨e, rfl⟩ : ∃ e, d = e + 1 := ⟨d - 1, by omega⟩
            rw [Nat.add_sub_cancel] at HX
            have he : ((e + 1 : Nat) : Int) - 1 = (e : Int) := by omega
            go_enter Tryz.func155, Tryz.ntmps155
            go_wp2
            go_ret
            rw [← HX.out]
            have := HC.out e
            refine ⟨rfl, (kp2 pb cb _).pp _, ?_⟩
            simpa using this
        · rw [if_neg h11] at HX
          have b11 : ((op : Int) == 11) = false := by rw [beq_eq_false_iff_ne]; omega
          go_enter Tryz.func155, Tryz.ntmps155
          go_wp2
          go_ret
          rw [← HX.out]
          exact ⟨rfl, Kp.refl _ _, HP.out⟩
set_option maxHeartbeats 8000000 in
theorem pplain_calls (hM : ModOk M) (hm : Md w mb M) (h : Pd w pb cb x p) (hlt : pb < mb ∧ cb < mb) (hI : PI p) (hl : p.cells.length < 121) (i : Ins) (hi : InsOk i) {f : PF} {r : List PF} (hc : p.ctl = f :: r) :
    Calls Tryz.prog 161 #[.pointer (some ⟨pb, 0, none⟩), .pointer (some ⟨mb, 0, none⟩), i.val] w (PO pb cb x w (plainP M p i)) := by
  obtain ⟨X, hX⟩ : ∃ X, plainP M p i = X := ⟨_, rfl⟩
  rw [hX]
  unfold plainP at hX
  have hec := effect_calls hM (w := w.alloc (.cells #[.int .u8 i.op, .int .u32 i.x, .int .u64 i.y] 129)) (hm.keep ((Kp.refl (fun _ => False) _).alloc _) (fun k hk => hk.elim)) i hi
  have hh := hI.h
  have hfl := (hI.g f (by rw [hc]; simp)).fl
  have HP : Hid _ := h
  have hpl := h.cells.pl
  have hcl := h.cells.cl
  have hop : i.op < 256 := by
    have := hi.op
    unfold opOk at this
    omega
  have hle := fun t g => effectP_le hM (i := i) hop (t := t) (g := g)
  have htop : p.top = f := by unfold PS.top; rw [hc]; rfl
  rw [htop] at hX
  obtain ⟨d, hd⟩ : ∃ d, r.length = d := ⟨_, rfl⟩
  obtain ⟨hh', hhe⟩ : ∃ hh', p.h = hh' := ⟨_, rfl⟩
  obtain ⟨dd, hde⟩ : ∃ dd, p.dead = dd := ⟨_, rfl⟩
  obtain ⟨nc, hnc⟩ : ∃ nc, p.cells.length = nc := ⟨_, rfl⟩
  rw [hnc] at hl
  have HW : Hid (∀ W, Pd W pb cb x p → PdW W pb cb nc d hh' dd f) := fun W hW => hW.walk hc hnc hl hd hhe hde
  rw [hhe] at hX hh
  have HX : Hid _ := hX
  have HNC : Hid _ := hnc
  generalize effectP M i = E at *
  obtain ⟨op, X1, Y1⟩ := i
  unfold Ins.val at hec ⊢
  dsimp only at hop hec HX ⊢
  clear hX h hm hI hi hc htop hd hhe hnc hde
  cases E with
  | none =>
    dsimp only at HX
    go_enter Tryz.func161, Tryz.ntmps161
    go_wp2_with (go_at_call 211; refine hec.mono ?_; rintro en w3 ⟨hk3, a, b, rfl⟩)
    go_ret
    rw [← HX.out]
    exact ⟨(((Kp.refl _ _).alloc _).trans hk3).none, rfl, HP.out.pw.new (((Kp.refl _ _).alloc _).trans hk3)⟩
  | some tg =>
    obtain ⟨take, give⟩ := tg
    dsimp only at HX
    obtain ⟨ht5, hg1⟩ := hle take give rfl
    clear hle
    go_enter Tryz.func161, Tryz.ntmps161
    go_wp2_with (go_at_call 211; refine hec.mono ?_; rintro en w3 ⟨hk3, rfl⟩; have hb : (w3.cell? ⟨w.heap.size, 0, none⟩ = some (.int .u8 (op : Int)) ∧ w3.cell? ⟨w.heap.size, 1, none⟩ = some (.int .u32 X1) ∧ w3.cell? ⟨w.heap.size, 2, none⟩ = some (.int .u64 Y1)) ∧ w.heap.size < w3.heap.size := ⟨⟨by rw [hk3.cell (p := ⟨w.heap.size, 0, none⟩) (by simp) (fun h => h), World.cell?_alloc_at _ _ _ _ rfl]; rfl, by rw [hk3.cell (p := ⟨w.heap.size, 1, none⟩) (by simp) (fun h => h), World.cell?_alloc_at _ _ _ _ rfl]; rfl, by rw [hk3.cell (p := ⟨w.heap.size, 2, none⟩) (by simp) (fun h => h), World.cell?_alloc_at _ _ _ _ rfl]; rfl⟩, by have := hk3.size; simp at this; omega⟩; have HP3 : Hid _ := HP.out.new (((Kp.refl _ _).alloc _).trans hk3); have HK3 : Hid _ := ((Kp.refl (fun _ => False) w).alloc (.cells #[.int .u8 (op : Int), .int .u32 X1, .int .u64 Y1] 129)).trans hk3; clear hk3; obtain ⟨⟨b0, b1, b2⟩, hb3⟩ := hb; obtain ⟨c0, c51, c52, c53, e0, e1, e2, e3, e4, e5, e6, h7, h7', ⟨v0, y0⟩, ⟨v1, y1⟩, ⟨v2, y2⟩, z0, z1, z2, f0, f51, f52, f53, pl, cl, ne, ne'⟩ := HW.out w3 HP3.out)
    by_cases k1 : hh' < f.floor + take
    · rw [if_pos (.inl k1)] at HX
      have i1 : (hh' : Int) - (take : Int) < (f.floor : Int) := by omega
      go_quiet (fail)
      go_wp2
      go_ret
      rw [← HX.out]
      exact ⟨(HK3.out.drewM _).none, rfl, HP3.out.pw.new ((Kp.refl _ _).drewM _)⟩
    · obtain ⟨low, hlo⟩ : ∃ low, hh' = low + take := ⟨hh' - take, by omega⟩
      have hl2 : hh' - take = low := by omega
      rw [hl2] at HX
      have hlow : (hh' : Int) - (take : Int) = (low : Int) := by omega
      rw [hlow]
      have k1' : f.floor ≤ low := by omega
      have k1'' : low ≤ 10 := by omega
      have hlt5 : take ≤ hh' := by omega
      clear hlow hl2 k1
      have HLO : Hid _ := hlo
      clear hlo
      have i1 : decide (low < f.floor) = false := decide_eq_false (by omega)
      by_cases k2 : 10 < low + give
      · rw [if_pos (.inr k2)] at HX
        have i2 : (10 : Int) < (low : Int) + (give : Int) := by omega
        go_quiet (fail)
        go_wp2
        go_ret
        rw [← HX.out]
        exact ⟨(HK3.out.drewM _).none, rfl, HP3.out.pw.new ((Kp.refl _ _).drewM _)⟩
      · rw [if_neg (by have := HLO.out; omega)] at HX
        have i2 : decide ((10 : Int) < (low : Int) + (give : Int)) = false := decide_eq_false (by omega)
        go_quiet (fail)
        go_wp2_with fail
        have hWW : ¬ w.heap.size = pb := by omega
        have hWC : ¬ w.heap.size = cb := by omega
        go_region
        have hP5 := (((HP3.out.drewM nq).setH (low + give)).push HNC.out hl ⟨op, X1, Y1⟩).new (((Kp.refl _ _).alloc (.cells #[.int .u8 (op : Int), .int .u32 X1, .int .u64 Y1] 129)).drew)
        have hK5 : Kp (P2 pb cb) w _ := ((((((((HK3.out.drewM nq).none).pp (i := 52) (.int .i64 ((low + give : Nat) : Int))).pc (i := nc * 3) (.int .u8 (op : Int))).pc (i := nc * 3 + 1) (.int .u32 X1)).pc (i := nc * 3 + 2) (.int .u64 Y1)).pp (i := 0) (.slice (some ⟨cb, 0, none⟩) (nc + 1) 121)).alloc (.cells #[.int .u8 (op : Int), .int .u32 X1, .int .u64 Y1] 129)).drew
        rw [Int.natCast_add] at hP5 hK5
        have hb5 : (((((((w3.drewN nq).setCell ⟨pb, 52, none⟩ (.int .i64 ((low : Int) + (give : Int)))).setCell ⟨cb, nc * 3, none⟩ (.int .u8 (op : Int))).setCell ⟨cb, nc * 3 + 1, none⟩ (.int .u32 X1)).setCell ⟨cb, nc * 3 + 2, none⟩ (.int .u64 Y1)).setCell ⟨pb, 0, none⟩ (.slice (some ⟨cb, 0, none⟩) (nc + 1) 121)).alloc (.cells #[.int .u8 (op : Int), .int .u32 X1, .int .u64 Y1] 129)).drew.cell? ⟨w.heap.size, 0, none⟩ = some (.int .u8 (op : Int)) := by
          go_simp
        have HP5 : Hid _ := hP5
        have HK5 : Hid _ := hK5
        clear hP5 hK5 HP3 HK3 c0 c51 c52 c53 e0 e1 e2 e3 e4 e5 e6 y0 y1 y2 z0 z1 z2 f0 f51 f52 f53 b0 b1 b2
        generalize (((((((w3.drewN nq).setCell ⟨pb, 52, none⟩ (.int .i64 ((low : Int) + (give : Int)))).setCell ⟨cb, nc * 3, none⟩ (.int .u8 (op : Int))).setCell ⟨cb, nc * 3 + 1, none⟩ (.int .u32 X1)).setCell ⟨cb, nc * 3 + 2, none⟩ (.int .u64 Y1)).setCell ⟨pb, 0, none⟩ (.slice (some ⟨cb, 0, none⟩) (nc + 1) 121)).alloc (.cells #[.int .u8 (op : Int), .int .u32 X1, .int .u64 Y1] 129)).drew = w5 at HP5 HK5 hb5 ⊢
        obtain ⟨_, _, _, c53, ff, _, _, _, _, _, _, _, _, _⟩ := HP5.out.cells
        have f53 := ff 53 (by decide)
        clear ff
        by_cases h0 : op = 0
        · subst h0
          go_wp2
          go_ret
          rw [← HX.out]
          exact ⟨HK5.out.pp _, rfl, HP5.out.setDead 1⟩
        · rw [if_neg h0] at HX
          have h0b : ((op : Int) == 0) = false := by rw [beq_eq_false_iff_ne]; omega
          go_wp2
          go_ret
          rw [← HX.out]
          exact ⟨HK5.out, rfl, HP5.out⟩
end
end Go.Proofs.Qxb6500275aGreatDoor
