import Derived.Test.Qxb6500275aGreatDoorWr17
import Derived.Deep.DeepCutAuto
set_option maxRecDepth 100000
set_option linter.unusedVariables false
set_option linter.unusedSimpArgs false
set_option linter.unusedSectionVars false
namespace Go.Proofs.Qxb6500275aGreatDoor
open Go Go.RowKit
variable [Inhabited TV]
section
variable {w w1 w2 : World} {b : Nat} {s : ByteArray} {p q q2 e bb ib tb fb nf fo : Nat} {ty : List Int} {opn : List Nat} {ins : List Ins} {tabs : List Int} {F : Nat → Value}
set_option maxHeartbeats 8000000 in
theorem body_calls (h : Rd w b s p e bb) (hB : Bt w bb ib tb ty) (hne : b ≠ bb ∧ b ≠ ib ∧ b ≠ tb) (hfe : fb ≠ b ∧ fb ≠ bb ∧ fb ≠ ib ∧ fb ≠ tb) (hf : Blk w fb nf F) (hfo : fo + 4 ≤ nf) (hft : F (fo + 3) = .slice none 0 0) :
    Calls Tryz.prog 119 #[.pointer (some ⟨b, 0, none⟩), .pointer (some ⟨fb, fo, none⟩)] w (BP (bodyS s p e) b s e bb ib tb ty fb nf fo F w) := by
  obtain ⟨opn0, ins0, tabs0, hB⟩ := hB
  have hI0 : BI w (((w.setCell ⟨bb, 17, none⟩ (.int .i64 0)).setCell ⟨bb, 19, none⟩ (.int .i64 0)).setCell ⟨bb, 15, none⟩ (.int .i64 0)) b s p e bb ib tb ty [] [] [] fb nf F := by
    have h0 : BI w w b s p e bb ib tb ty opn0 ins0 tabs0 fb nf F := ⟨h, hB, Kp.refl _ _, hf, hne, hfe⟩
    exact h0.scr ((((Kp.refl _ _).setCell (p := ⟨bb, 17, none⟩) (.inl (.inl rfl)) _).setCell (p := ⟨bb, 19, none⟩) (.inl (.inl rfl)) _).setCell (p := ⟨bb, 15, none⟩) (.inl (.inl rfl)) _) hB.reset
  have c3 := h.c3
  have hbc := hB.all
  obtain ⟨c15, _, c17, _, c19, f15, f17, f19, _, _, _⟩ := hbc
  have HI0 : Hid _ := hI0
  have hle := h.le
  have hfl : fb < w.heap.size := hf.lt (by omega)
  obtain ⟨X, hX⟩ : ∃ X, bodyS s p e = X := ⟨_, rfl⟩
  have HS : Hid (X = bodyL s e (e - p + 1) p [] [] []) := hX.symm
  rw [hX]
  have HF : Hid _ := hft
  clear hI0 h hB hf hX hft
  go_enter Tryz.func119, Tryz.ntmps119
  go_wp2
  generalize ((w.setCell ⟨bb, 17, none⟩ (.int .i64 0)).setCell ⟨bb, 19, none⟩ (.int .i64 0)).setCell ⟨bb, 15, none⟩ (.int .i64 0) = w0 at *
  clear c3 c15 c17 c19 f15 f17 f19
  go_loopw [] (fun w1 => ∃ (q : Nat) (opn : List Nat) (ins : List Ins) (tabs : List Int), BI w w1 b s q e bb ib tb ty opn ins tabs fb nf F ∧ Hid (X = bodyL s e (e - q + 1) q opn ins tabs)) (fun w1 => e - posOf w1 b)
  case atStart => exact ⟨p, [], [], [], HI0.out, HS⟩
  case round =>
    clear HI0 HS
    obtain ⟨q, opn, ins, tabs, hI, HS⟩ := hrel
    have c1 := hI.rd.c1
    have hpos : Hid (posOf wr b = q) := posOf_rd hI.rd
    have hqe := hI.rd.le
    have HI : Hid _ := hI
    clear hI
    rw [bodyL] at HS
    go_wp2_with fail
    refine RP.step HS (next_calls HI.out.rd) (fun c a w4 hX hK => ⟨rfl, BP.mkErr hX (HI.out.kp.trans (hK.mono fun j hj => .inl hj)) rfl (HI.out.bt.keep hK (fun e => hne.1 e.symm) (fun e => hne.2.1 e.symm) (fun e => hne.2.2 e.symm))⟩) ?_
    clear HS
    intro op q1 w2 hop HS hK2 hR2
    unfold encB
    dsimp only at HS
    have hI2 := HI.out.read hK2 hR2
    have hq1 : q < e ∧ q1 = q + 1 ∧ op < 256 := by
      have := hop.out
      unfold nextS at this
      split at this
      · simp at this
        obtain ⟨rfl, rfl⟩ := this
        exact ⟨by assumption, rfl, bAt_lt _ _⟩
      · simp at this
    clear c1 HI hK2 hR2 hop
    have HI : Hid _ := hI2
    clear hI2
    go_wp2_with fail
    refine QP.step HS (rest_calls HI.out.rd HI.out.bn hne op hq1.2.2 q) (fun c a w4 hX hK ⟨t, hb⟩ => ⟨rfl, BP.mkErr hX (HI.out.kp.trans (hK.mono fun j hj => by unfold S4; omega)) rfl ⟨_, _, _, hb⟩⟩) ?_
    clear HS
    intro x q3 t w3 hx HS hK3 hR3 hB3
    dsimp only at HS
    have hI3 := HI.out.rest hK3 hR3 hB3
    have hq3 := (restS_ok hx.out).1
    clear HI hK3 hR3 hB3 hx
    unfold Ins.val
    have hbc := hI3.bn.all
    obtain ⟨c15, c16, c17, c18, c19, f15, f17, f19, lO, lI, lL⟩ := hbc
    have HI : Hid _ := hI3
    have hbl := hI3.bn.lts
    have hd1 : ¬ bb = ib := hI3.bn.d1
    have hd1' : ¬ ib = bb := fun h => hI3.bn.d1 h.symm
    obtain ⟨m, hm⟩ : ∃ m, ins.length = m := ⟨_, rfl⟩
    have HM : Hid _ := hm
    rw [hm] at c17 lI
    clear hI3
    by_cases h96 : 96 ≤ m
    · rw [if_pos (by omega)] at HS
      clear hm
      go_wp2
      go_light
      have hI4 := HI.out.new (w2 := w3.alloc (.cells #[.int .u8 x.op, .int .u32 x.x, .int .u64 x.y] 129)) ((Kp.refl _ _).alloc _)
      exact ⟨rfl, BP.mkErr HS.out hI4.kp rfl hI4.bt⟩
    · rw [if_neg (by omega)] at HS
      obtain ⟨⟨z0, hz0⟩, hg0⟩ := HI.out.bn.insCell (i := m * 3) (by omega)
      obtain ⟨⟨z1, hz1⟩, hg1⟩ := HI.out.bn.insCell (i := m * 3 + 1) (by omega)
      obtain ⟨⟨z2, hz2⟩, hg2⟩ := HI.out.bn.insCell (i := m * 3 + 2) (by omega)
      have hm96 : m < 96 := by omega
      clear hm
      go_wp2
      go_region
      obtain ⟨hL, g0, g1, g2⟩ := HI.out.lay HM.out hm96 x #[.int .u8 x.op, .int .u32 x.x, .int .u64 x.y] 129
      generalize ((((w3.setCell ⟨ib, m * 3, none⟩ (.int .u8 (x.op : Int))).setCell ⟨ib, m * 3 + 1, none⟩ (.int .u32 x.x)).setCell ⟨ib, m * 3 + 2, none⟩ (.int .u64 x.y)).alloc (.cells #[.int .u8 (x.op : Int), .int .u32 x.x, .int .u64 x.y] 129)).drew = W at *
      clear HI hz0 hg0 hz1 hg1 hz2 hg2 c15 c16 c17 c18 c19 f15 f17 f19
      have hN : BI w (W.setCell ⟨bb, 17, none⟩ (.int .i64 ((m : Int) + 1))) b s q3 e bb ib tb ty opn (ins ++ [x]) t fb nf F := by
        refine hL.scr ((Kp.refl _ W).setCell (p := ⟨bb, 17, none⟩) (.inl (.inl rfl)) _) ?_
        have hp := hL.bn.pushIns2 x (by rw [HM.out]; exact hm96) (by rw [HM.out]; exact g0) (by rw [HM.out]; exact g1) (by rw [HM.out]; exact g2)
        rw [HM.out] at hp
        exact hp
      have hbc := hL.bn.all
      obtain ⟨c15, c16, c17, c18, c19, f15, f17, f19, _, _, _⟩ := hbc
      rw [HM.out] at c17
      have HN : Hid _ := hN
      clear hN hL g0 g1 g2
      obtain ⟨o, ho⟩ : ∃ o, opn.length = o := ⟨_, rfl⟩
      rw [ho] at c15 lO
      have HO : Hid _ := ho
      have HM2 : Hid _ := hm96
      have HQ : Hid (q < e ∧ q + 1 ≤ q3) := ⟨hq1.1, by omega⟩
      have hbbW : bb < W.heap.size := lt_of_cell c15
      clear ho h96 hm96 lI hbl hq1
      by_cases hA : op = 2 ∨ op = 3 ∨ op = 4
      · rw [if_pos hA] at HS
        by_cases h6 : 6 ≤ o
        · rw [if_pos (by rw [HO.out]; exact h6)] at HS
          rcases hA with rfl | rfl | rfl
          all_goals
            go_wp2
            go_light
            exact ⟨rfl, BP.mkErr HS.out HN.out.kp rfl HN.out.bt⟩
        · rw [if_neg (by rw [HO.out]; exact h6)] at HS
          have ho6 : o < 6 := by omega
          obtain ⟨⟨z9, hz9⟩, hg9⟩ := HN.out.bn.opnCell (i := o) ho6
          have hz9' : W.cell? ⟨bb, 9 + o, none⟩ = some z9 := by
            rw [World.cell?_setCell_other _ _ _ _ (by simp)] at hz9
            exact hz9
          rw [World.frozen?_setCell] at hg9
          have hP := HN.out.bn.pushOpen op (by rw [HO.out]; exact ho6)
          rw [HO.out] at hP
          have HP : Hid (BI w (((W.setCell ⟨bb, 17, none⟩ (.int .i64 ((m : Int) + 1))).setCell ⟨bb, 9 + o, none⟩ (.int .u8 (op : Int))).setCell ⟨bb, 15, none⟩ (.int .i64 ((o : Int) + 1))) b s q3 e bb ib tb ty (opn ++ [op]) (ins ++ [x]) t fb nf F) := HN.out.scr (((Kp.refl _ _).setCell (p := ⟨bb, 9 + o, none⟩) (.inl (.inl rfl)) _).setCell (p := ⟨bb, 15, none⟩) (.inl (.inl rfl)) _) hP
          clear hz9 hP
          rcases hA with rfl | rfl | rfl
          all_goals
            go_wp2
            go_region
            go_wp2
            go_light
            exact bi_next (HP.out.new (Kp.refl _ _).drew) HS.out HQ.out.1 HQ.out.2 hpos.out
      · rw [if_neg hA] at HS
        by_cases h5 : op = 5
        · subst h5
          rw [if_pos rfl] at HS
          clear hA
          rcases List.eq_nil_or_concat opn with hn | ⟨l, u, hn⟩
          · subst hn
            rw [if_neg (by simp)] at HS
            have ho0 : o = 0 := by have := HO.out; simpa using this.symm
            subst ho0
            clear lO
            go_wp2
            go_region
            go_wp2
            go_light
            exact ⟨rfl, BP.mkErr HS.out (HN.out.new (Kp.refl _ _).drew).kp rfl (HN.out.new (Kp.refl _ _).drew).bt⟩
          · subst hn
            have hoa : o = l.length + 1 := by have := HO.out; rw [List.concat_eq_append, List.length_append] at this; exact this.symm
            obtain ⟨a, ha⟩ : ∃ a, l.length = a := ⟨_, rfl⟩
            rw [ha] at hoa
            rw [List.concat_eq_append] at HN HS
            subst hoa
            have HA : Hid _ := ha
            have hat := HN.out.bn.opnAt
            rw [ha, World.cell?_setCell_other _ _ _ _ (by simp), World.frozen?_setCell] at hat
            obtain ⟨h9, g9⟩ := hat
            have c15' : W.cell? ⟨bb, 15, none⟩ = some (.int .i64 ((a : Int) + 1)) := by rw [c15]; simp
            have haL : a < 6 := by omega
            clear c15 ha lO HO
            have hb1 : (((a : Int) + 1) == 0) = false := by rw [beq_eq_false_iff_ne]; omega
            by_cases hu : u = 4
            · subst hu
              rw [if_pos (by simp), List.dropLast_concat] at HS
              have hP := HN.out.bn.setTop 5
              rw [HA.out] at hP
              have HP : Hid (BI w ((W.setCell ⟨bb, 17, none⟩ (.int .i64 ((m : Int) + 1))).setCell ⟨bb, 9 + a, none⟩ (.int .u8 5)) b s q3 e bb ib tb ty (l ++ [5]) (ins ++ [x]) t fb nf F) := HN.out.scr ((Kp.refl _ _).setCell (p := ⟨bb, 9 + a, none⟩) (.inl (.inl rfl)) _) hP
              clear hP
              go_wp2_with fail
              go_quiet (fail)
              go_wp2
              go_region
              go_wp2
              go_light
              exact bi_next (HP.out.new ((Kp.refl (fun _ => False) _).drewN _).drew) HS.out HQ.out.1 HQ.out.2 hpos.out
            · rw [if_neg (by simp; exact hu)] at HS
              have hu4 : ((u : Int) != 4) = true := by rw [bne_iff_ne]; omega
              go_wp2_with fail
              go_quiet (fail)
              go_wp2
              go_light
              exact ⟨rfl, BP.mkErr HS.out (HN.out.new ((Kp.refl (fun _ => False) _).drewN _)).kp rfl (HN.out.new ((Kp.refl (fun _ => False) _).drewN _)).bt⟩
        · rw [if_neg h5] at HS
          by_cases h11 : op = 11
          · subst h11
            rw [if_pos rfl] at HS
            clear hA h5
            rcases List.eq_nil_or_concat opn with hn | ⟨l, u, hn⟩
            · subst hn
              rw [if_pos rfl] at HS
              have ho0 : o = 0 := by have := HO.out; simpa using this.symm
              subst ho0
              have hz2 : W.cell? ⟨fb, fo + 2, none⟩ = some (F (fo + 2)) := by
                have := HN.out.fk.cell (i := fo + 2) (by omega)
                rwa [World.cell?_setCell_other _ _ _ _ (by simp)] at this
              have hg2 : W.frozen? ⟨fb, fo + 2, none⟩ = false := by
                have := HN.out.fk.fz (i := fo + 2) (by omega)
                rwa [World.frozen?_setCell] at this
              have hfW : fb < W.heap.size := lt_of_cell hz2
              have hm96 := HM2.out
              have hfb1 : ¬ fb = bb := hfe.2.1
              have hfb2 : ¬ bb = fb := fun h => hfe.2.1 h.symm
              clear lO
              go_wp2
              rw [mk102 _ m (by omega)]
              go_wp2_with fail
              have hE := HN.out.toE.setF (i := fo + 2) (by omega) (.slice (some ⟨W.heap.size, 0, none⟩) (m + 1) (m + 1))
              have hlts := hE.lts (by omega)
              have hwk := hE.kp.size
              rw [World.size_setCell, World.size_setCell] at hlts
              rw [World.size_setCell, World.size_setCell] at hwk
              have hE2 := hE.new (w2 := ((W.setCell ⟨bb, 17, none⟩ (.int .i64 ((m : Int) + 1))).setCell ⟨fb, fo + 2, none⟩ (.slice (some ⟨W.heap.size, 0, none⟩) (m + 1) (m + 1))).alloc (.cells (madeCells Z102 ((m + 1) * 3)) 129)) ((Kp.refl _ _).alloc _)
              have hD := blk_made ((W.setCell ⟨bb, 17, none⟩ (.int .i64 ((m : Int) + 1))).setCell ⟨fb, fo + 2, none⟩ (.slice (some ⟨W.heap.size, 0, none⟩) (m + 1) (m + 1))) Z102 ((m + 1) * 3) 129
              rw [World.size_setCell, World.size_setCell] at hD
              generalize ((W.setCell ⟨bb, 17, none⟩ (.int .i64 ((m : Int) + 1))).setCell ⟨fb, fo + 2, none⟩ (.slice (some ⟨W.heap.size, 0, none⟩) (m + 1) (m + 1))).alloc (.cells (madeCells Z102 ((m + 1) * 3)) 129) = W2 at *
              generalize W.heap.size = K at *
              clear hE hz2 hg2 c15 c16 c17 c18 c19 f15 f17 f19 hbbW hfW HN
              have hbc := hE2.bn.all
              obtain ⟨c15, c16, c17, c18, c19, f15, f17, f19, _, _, lL2⟩ := hbc
              have hlen : (ins ++ [x]).length = m + 1 := by rw [List.length_append, HM.out]; rfl
              have hz2 := hE2.fk.cell (i := fo + 2) (by omega)
              rw [upd_same] at hz2
              have hn96 : m + 1 ≤ 96 := by omega
              obtain ⟨n1, hn1⟩ : ∃ n1, m + 1 = n1 := ⟨_, rfl⟩
              rw [hn1] at hlen hD hz2 hE2 hn96
              rw [hlen] at c17
              have hn96' : (n1 : Int) ≤ 96 := by omega
              obtain ⟨vs, hcp, hIA⟩ := hE2.bn.copyIns hlen (by omega) hD
              have HE : Hid _ := hE2
              have HC : Hid _ := hcp
              have HIA : Hid _ := hIA
              have HN1 : Hid _ := hn1
              clear hE2 hlen hD hcp hIA hn1
              go_cut [] (fun wx => ∃ (vb : Value), Hid (BE w wx b s q3 e bb ib tb ty [] (ins ++ [x]) t fb nf (upd F (fo + 2) vb)) ∧ Hid (InsAt wx w.heap.size vb (ins ++ [x])) ∧ Hid (w.heap.size ≤ wx.heap.size))
              case first =>
                go_region_law (refine step_copy_runI rfl (.tmp 135) (.tmp 144) 102 102 rfl (.slice (some ⟨K, 0, none⟩) n1 n1) (.slice (some ⟨ib, 0, none⟩) n1 96) (by simp [Act.eval, Act.put]) (by simp [Act.eval, Act.put]) (HC.out 1) ?_)
                all_goals
                  go_wp2_with fail
                  go_meet
                  exact ⟨.slice (some ⟨K, 0, none⟩) n1 n1, (HE.out.new ((Kp.refl (fun _ => False) _).drewN 1)).cells hwk hlts vs, HIA.out 1 _ hwk, ((HE.out.new ((Kp.refl (fun _ => False) _).drewN 1)).cells hwk hlts vs).kp.size⟩
              case rest =>
                clear HE HC HIA HN1 c15 c16 c17 c18 c19 f15 f17 f19 hz2 hlts hwk hn96 hn96'
                obtain ⟨vb, HE, HIA, HW⟩ := hcut
                have hbc := HE.out.bn.all
                obtain ⟨_, _, _, c18, c19, _, _, _, _, _, lL2⟩ := hbc
                by_cases ht0 : t.length = 0
                · have htn : t = [] := List.length_eq_zero_iff.1 ht0
                  subst htn
                  clear lL2 ht0
                  go_wp2
                  go_end0
                  go_light
                  exact BP.mkOk (vb := vb) (vt := .slice none 0 0) HS.out HE.out rfl (fun i _ => BE.endF HF.out i) HIA.out (Ls.nil _ _ _ _)
                · obtain ⟨n2, hn2⟩ : ∃ n2, t.length = n2 := ⟨_, rfl⟩
                  rw [hn2] at c19 lL2 ht0
                  have h20 : (0 : Int) < (n2 : Int) := by omega
                  have HN2 : Hid _ := hn2
                  have hz3 := HE.out.fk.cell (i := fo + 3) (by omega)
                  have hg3 := HE.out.fk.fz (i := fo + 3) (by omega)
                  have hlts := HE.out.lts (by omega)
                  have hfW : fb < wc.heap.size := hlts.2.2.2.2
                  clear hn2
                  go_wp2
                  rw [mk103b _ n2 (by omega)]
                  go_wp2_with fail
                  have hE := HE.out.setF (i := fo + 3) (by omega) (.slice (some ⟨wc.heap.size, 0, none⟩) n2 n2)
                  have hE2 := hE.new (w2 := (wc.setCell ⟨fb, fo + 3, none⟩ (.slice (some ⟨wc.heap.size, 0, none⟩) n2 n2)).alloc (.cells (madeCells Z103b n2) 127)) ((Kp.refl _ _).alloc _)
                  have hD := blk_made (wc.setCell ⟨fb, fo + 3, none⟩ (.slice (some ⟨wc.heap.size, 0, none⟩) n2 n2)) Z103b n2 127
                  rw [World.size_setCell] at hD
                  have hwk := HW.out
                  have hI2 : InsAt ((wc.setCell ⟨fb, fo + 3, none⟩ (.slice (some ⟨wc.heap.size, 0, none⟩) n2 n2)).alloc (.cells (madeCells Z103b n2) 127)) w.heap.size vb (ins ++ [x]) := HIA.out.keep (((Kp.refl (fun j => j = fb) wc).setCell (p := ⟨fb, fo + 3, none⟩) (.inl rfl) _).alloc _) (fun j hj => by omega)
                  have hKI : ∀ W, Kp (fun j => j = wc.heap.size) ((wc.setCell ⟨fb, fo + 3, none⟩ (.slice (some ⟨wc.heap.size, 0, none⟩) n2 n2)).alloc (.cells (madeCells Z103b n2) 127)) W → InsAt W w.heap.size vb (ins ++ [x]) := fun W hk => HIA.out.keep (S := fun j => j = fb) (by
                    have h1 : Kp (fun j => j = fb) wc ((wc.setCell ⟨fb, fo + 3, none⟩ (.slice (some ⟨wc.heap.size, 0, none⟩) n2 n2)).alloc (.cells (madeCells Z103b n2) 127)) := ((Kp.refl (fun j => j = fb) wc).setCell (p := ⟨fb, fo + 3, none⟩) (.inl rfl) _).alloc _
                    exact ⟨hk.os.trans h1.os, hk.tape.trans h1.tape, hk.output.trans h1.output, Nat.le_trans h1.size hk.size, fun i hi hs => (hk.block i (Nat.lt_of_lt_of_le hi h1.size) (by omega)).trans (h1.block i hi hs)⟩) (fun j hj => by omega)
                  generalize (wc.setCell ⟨fb, fo + 3, none⟩ (.slice (some ⟨wc.heap.size, 0, none⟩) n2 n2)).alloc (.cells (madeCells Z103b n2) 127) = W4 at *
                  generalize wc.heap.size = K2 at *
                  clear hE hz3 hg3 c18 c19 HE HIA HW hfW hI2
                  have hbc := hE2.bn.all
                  obtain ⟨_, _, _, c18, c19, _, _, _, _, _, _⟩ := hbc
                  rw [HN2.out] at c19
                  have hz3 := hE2.fk.cell (i := fo + 3) (by omega)
                  rw [upd_same] at hz3
                  have hn24 : (n2 : Int) ≤ 24 := by omega
                  obtain ⟨vs2, hcp, hTA⟩ := hE2.bn.copyTabs HN2.out (by omega) hD
                  have HE : Hid _ := hE2
                  have HC2 : Hid _ := hcp
                  have HTA : Hid _ := hTA
                  have HKI : Hid _ := hKI
                  clear hE2 hD hcp hTA hKI
                  go_region_law (refine step_copy_runI rfl (.tmp 162) (.tmp 171) 103 103 rfl (.slice (some ⟨K2, 0, none⟩) n2 n2) (.slice (some ⟨tb, 0, none⟩) n2 24) (by simp [Act.eval, Act.put]) (by simp [Act.eval, Act.put]) (HC2.out 1) ?_)
                  all_goals
                    go_wp2
                    go_end0
                    go_light
                    exact BP.mkOk (vb := vb) (vt := .slice (some ⟨K2, 0, none⟩) n2 n2) HS.out ((HE.out.new ((Kp.refl (fun _ => False) _).drewN 1)).cells hwk hlts vs2) rfl (fun i _ => rfl) (HKI.out _ (Kp.setCells (S := fun j => j = K2) (.inl rfl) _ _ _ ((Kp.refl (fun j => j = K2) _).drewN 1))) (HTA.out 1 _ hwk)
            · subst hn
              have hoa : o = l.length + 1 := by have := HO.out; rw [List.concat_eq_append, List.length_append] at this; exact this.symm
              obtain ⟨a, ha⟩ : ∃ a, l.length = a := ⟨_, rfl⟩
              rw [ha] at hoa
              rw [List.concat_eq_append] at HN HS
              rw [if_neg (by simp), List.dropLast_concat] at HS
              subst hoa
              have hP := HN.out.bn.popOpen
              rw [ha] at hP
              have HP : Hid (BI w ((W.setCell ⟨bb, 17, none⟩ (.int .i64 ((m : Int) + 1))).setCell ⟨bb, 15, none⟩ (.int .i64 (a : Int))) b s q3 e bb ib tb ty l (ins ++ [x]) t fb nf F) := HN.out.scr ((Kp.refl _ _).setCell (p := ⟨bb, 15, none⟩) (.inl (.inl rfl)) _) hP
              have c15' : W.cell? ⟨bb, 15, none⟩ = some (.int .i64 ((a : Int) + 1)) := by rw [c15]; simp
              have hb1 : (((a : Int) + 1) == 0) = false := by rw [beq_eq_false_iff_ne]; omega
              have haL : a < 6 := by omega
              clear c15 ha lO HO hP
              go_wp2
              go_light
              exact bi_next HP.out HS.out HQ.out.1 HQ.out.2 hpos.out
          · rw [if_neg h11] at HS
            have b2 : ((op : Int) == 2) = false := by rw [beq_eq_false_iff_ne]; omega
            have b3 : ((op : Int) == 3) = false := by rw [beq_eq_false_iff_ne]; omega
            have b4 : ((op : Int) == 4) = false := by rw [beq_eq_false_iff_ne]; omega
            have b5 : ((op : Int) == 5) = false := by rw [beq_eq_false_iff_ne]; omega
            have b11 : ((op : Int) == 11) = false := by rw [beq_eq_false_iff_ne]; omega
            clear hA h5 h11
            go_wp2
            go_light
            exact bi_next HN.out HS.out HQ.out.1 HQ.out.2 hpos.out
end
end Go.Proofs.Qxb6500275aGreatDoor
