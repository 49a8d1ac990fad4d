import Derived.Test.Qxb6500275aGreatDoorPpbX
set_option maxRecDepth 100000
set_option linter.unusedVariables false
set_option linter.unusedSimpArgs false
namespace Go.Proofs.Qxb6500275aGreatDoor
open Go Go.RowKit
section
variable {w : World} {mb pb cb x fk fo : Nat} {M : Mod} {p : PS} {fn : Fn}
set_option maxHeartbeats 16000000 in
theorem compile_calls (hM : ModOk M) (hR : ∀ f, f ∈ M.funcs → FnRoom f) (hm : Md w mb M) (h : Pr w pb cb x) (hlt : pb < mb ∧ cb < mb) :
    Calls Tryz.prog 38 #[.pointer (some ⟨pb, 0, none⟩), .pointer (some ⟨mb, 0, none⟩)] w (CO M pb cb w (compP M)) := by
  obtain ⟨X, hX⟩ : ∃ X, compP M = X := ⟨_, rfl⟩
  rw [hX]
  unfold compP at hX
  have HX : Hid (compL M (M.funcs.drop 0) 0 [] = X) := hX
  have HM : Hid _ := hm
  have HO : Hid _ := hM
  have HR : Hid _ := hR
  have HP : Hid _ := h
  have hnf : M.funcs.length ≤ 8 := hM.nf
  have hni : M.imports.length ≤ 4 := hM.ni
  obtain ⟨fa, m2, _⟩ := hm.fn
  obtain ⟨nf, hnf'⟩ : ∃ nf, M.funcs.length = nf := ⟨_, rfl⟩
  rw [hnf'] at hnf m2
  have HNF : Hid _ := hnf'
  have hml := hm.lt
  clear hX hm hM hR h hnf'
  by_cases h0 : nf = 0
  · subst h0
    rw [List.drop_zero, List.length_eq_zero_iff.1 HNF.out, compL] at HX
    go_enter Tryz.func38, Tryz.ntmps38
    go_wp2
    go_loopw [9] (fun kk w1 => kk = .int .i64 0 ∧ w1 = w.alloc (.cells #[.slice none 0 0] 148)) (fun kk _ => 0)
    case atStart => exact ⟨rfl, rfl⟩
    case round =>
      obtain ⟨rfl, rfl⟩ := hrel
      go_wp2_with fail
      go_quiet (fail)
      go_wp2
      refine bodyPost_ret (v := .tuple #[.pointer (some ⟨w.heap.size, 0, none⟩), .int .i64 0, .int .i64 0, .int .i64 0]) (by simp [results, Tryz.results38, go_sem]) rfl ?_
      rw [← HX.out]
      have hk : Kp (fun _ => False) w ((w.alloc (.cells #[.slice none 0 0] 148)).drewN nq) := ((Kp.refl _ _).alloc _).drewM nq
      refine ⟨hk.none, ⟨x, HP.out.keep hk (fun h => h) (fun h => h)⟩, w.heap.size, Nat.le_refl _, by rw [HNF.out]; rfl, ⟨.slice none 0 0, ?_, ?_⟩⟩
      · rw [World.cell?_drewN, World.cell?_alloc_at _ _ _ _ rfl]; rfl
      · exact ⟨fun _ => undef, ⟨none, rfl, fun _ => by simp, fun h => absurd h (by simp)⟩, fun i x hx => by simp at hx⟩
  · have h0b : (0 : Int) < (nf : Int) := by omega
    have hmk := fun (W : World) => mk146 W nf hnf
    go_enter Tryz.func38, Tryz.ntmps38
    go_wp2
    clear hmk
    refine absW (fun W => CI w W pb cb w.heap.size (w.heap.size + 1) nf [] ∧ Pr W pb cb x) ?_ ?_
    · have hk : Kp (fun _ => False) w ((w.alloc (.cells #[.slice (some ⟨w.heap.size + 1, 0, none⟩) nf nf] 148)).alloc (.cells (madeCells Z146 (nf * 4)) 151)) := ((Kp.refl _ _).alloc _).alloc _
      refine ⟨⟨?_, ?_, hk.none, rfl, rfl, by simp⟩, HP.out.keep hk (fun h => h) (fun h => h)⟩
      · rw [World.cell?_alloc_past _ _ _ (by simp), World.cell?_alloc_at _ _ _ _ rfl]; rfl
      · have := rw_made ffR (w.alloc (.cells #[.slice (some ⟨w.heap.size + 1, 0, none⟩) nf nf] 148)) (w.heap.size + 1 + 1) nf 4 151 Z146 rfl (by decide)
        simpa using this
    rintro w5 ⟨hC5, hP5⟩
    have HC5 : Hid _ := hC5
    have HP5 : Hid (∃ x, Pr w5 pb cb x) := ⟨x, hP5⟩
    have hpl : pb < w.heap.size ∧ cb < w.heap.size := by
      obtain ⟨⟨F, G, cells, b1, b2, _⟩, _⟩ := HP.out
      exact ⟨b1.lt (by decide), b2.lt (by decide)⟩
    clear hC5 hP5 m2 HP
    generalize hkc : w.heap.size = kc at HC5
    have hdt : decide (0 < nf) = true := decide_eq_true (by omega)
    rw [hdt]
    clear hdt
    go_loopw [9] (fun kk w1 => ∃ (k : Nat) (l : List FF), k ≤ nf ∧ kk = .int .i64 k ∧ l.length = k ∧ Hid (CI w w1 pb cb kc (kc + 1) nf l) ∧ Hid (∃ x, Pr w1 pb cb x) ∧ Hid (compL M (M.funcs.drop k) k l = X)) (fun kk _ => nf + 1 - (intOf kk).toNat)
    case atStart => exact ⟨0, [], by omega, rfl, rfl, HC5.out, HP5.out, HX.out⟩
    case round =>
      clear HX HC5 HP5
      obtain ⟨k, l, hk, rfl, hlk, HC, HPx, HX⟩ := hrel
      have hkeep : ∀ k, P2 pb cb k → k < mb := fun k hk => by unfold P2 at hk; omega
      have HM1 : Hid _ := HM.out.keep HC.out.kp hkeep
      obtain ⟨fa, m2, fat⟩ := HM1.out.fn
      rw [HNF.out] at m2
      have hsz := HC.out.kp.size
      by_cases hlt2 : k < nf
      · obtain ⟨fn, hfn⟩ : ∃ fn, M.funcs[k]? = some fn := ⟨_, List.getElem?_eq_getElem (by rw [HNF.out]; exact hlt2)⟩
        have hF := HO.out.funcs fn (List.mem_of_getElem? hfn)
        have hRm := HR.out fn (List.mem_of_getElem? hfn)
        obtain ⟨fk, rfl, hfc⟩ := fat k fn hfn
        obtain ⟨tya, ia, fa', m0, m1, _, _, _, _⟩ := HM1.out.lists
        rw [drop_cons hfn, compL] at HX
        have hkb : (k : Int) < (nf : Int) := by omega
        have htc := fun (w' : World) (hm : Md w' mb M) => typeOf_calls HO.out hm ((M.imports.length + k : Nat) : Int) (by omega)
        have htk := fun t (ht : M.typeOf ((M.imports.length + k : Nat) : Int) = some t) => typeOf_mem HO.out ht
        have hnb := hF.nb.2
        have hnt := hF.nt
        generalize M.typeOf ((M.imports.length + k : Nat) : Int) = o at *
        obtain ⟨ba, ta, c0, c1, c2, c3, _, _⟩ := hfc.cells
        have HFC : Hid _ := hfc
        have HF : Hid _ := hF
        have HRM : Hid _ := hRm
        have HLK : Hid _ := hlk
        obtain ⟨ni, hni'⟩ : ∃ ni, M.imports.length = ni := ⟨_, rfl⟩
        rw [hni'] at m1 hni htc
        have hcast : ((ni + k : Nat) : Int) = (ni : Int) + (k : Int) := by omega
        rw [hcast] at htc
        clear fat hfc hF hRm hfn hcast m0 hni' hlk hkeep
        cases o with
        | none =>
          dsimp only at HX
          go_wp2_with (go_at_call 85; refine (htc _ HM1.out).mono ?_; rintro en w6 ⟨rfl, hk6⟩; unfold encT)
          have hC6 := HC.out.keep hk6.none hpl
          obtain ⟨x6, hp6⟩ := HPx.out
          refine bodyPost_ret (v := .tuple #[.pointer none, .int .i64 k, .int .i64 0, .int .i64 29]) (by simp [results, Tryz.results38, go_sem]) rfl ?_
          rw [← HX.out]
          exact ⟨hC6.kp, ⟨x6, hp6.keep hk6 (fun h => h) (fun h => h)⟩, rfl⟩
        | some t =>
          have htk := htk t rfl
          dsimp only at HX
          rw [if_neg (by omega)] at HX
          have HT : Hid _ := htk
          have hq1 := htk.nq
          have hp4 := htk.np
          clear htk
          go_wp2_with fail
          refine (htc _ HM1.out).mono ?_
          rintro en w6 ⟨rfl, hk6⟩
          unfold encT
          have HC6 : Hid _ := HC.out.keep hk6.none hpl
          have HFC6 : Hid _ := HFC.out.keep hk6 (fun k hk => hk.elim)
          obtain ⟨x0, hp0⟩ := HPx.out
          have HP6 : Hid _ := hp0.keep hk6 (fun h => h) (fun h => h)
          clear htc hk6 hp0 c0 c1 c2 c3 m1 m2 HC HFC HPx HM1
          obtain ⟨ba, ta, c0, c1, c2, c3, _, _⟩ := HFC6.out.cells
          have i1 : decide ((96 : Int) < (fn.body.length : Int)) = false := decide_eq_false (by omega)
          have i2 : decide ((24 : Int) < (fn.tabs.length : Int)) = false := decide_eq_false (by omega)
          have i1' : decide (96 < fn.body.length) = false := decide_eq_false (by omega)
          have i2' : decide (24 < fn.tabs.length) = false := decide_eq_false (by omega)
          go_wp2_with fail
          refine (split_calls t HT.out.p HT.out.np HT.out.nq).mono ?_
          rintro en w7 ⟨rfl, hk7⟩
          have HC7 : Hid _ := HC6.out.keep hk7.none hpl
          have HFC7 : Hid _ := HFC6.out.keep hk7 (fun k hk => hk.elim)
          have HP7 : Hid _ := HP6.out.keep hk7 (fun h => h) (fun h => h)
          have HM7 : Hid _ := HM.out.keep HC7.out.kp (fun k hk => by unfold P2 at hk; omega)
          clear hk7 c0 c1 c2 c3 HC6 HFC6 HP6 i1 i2 i1' i2'
          have hfl := flat_calls HO.out HM7.out HFC7.out HF.out HRM.out HP7.out hlt t.q.size hq1
          go_wp2_with fail
          refine hfl.mono ?_
          intro en w8 hFO
          obtain ⟨hk8, hFO⟩ := hFO
          have HC8 : Hid _ := HC7.out.keep hk8 hpl
          have HFC8 : Hid _ := HFC7.out.keep hk8 (fun k hk => by unfold P2 at hk; omega)
          clear hfl HC7 HFC7 HP7 HM7 hk8
          have HFP : Hid (∀ q, flatP M fn t.q.size = .ok q → 2 ≤ q.cells.length) := fun q hq => flatP_two HF.out hq1 hq
          generalize flatP M fn t.q.size = fo at *
          cases fo with
          | error a =>
            obtain ⟨rfl, hpw⟩ := hFO
            obtain ⟨nn, ⟨d0, d1, ⟨d51, d51e⟩, f1, f51, hn1, hn2, hx2, hpl8⟩, hrest⟩ := hpw.rest
            dsimp only at HX
            have HRE : Hid _ := hrest
            clear hrest hpw
            have hmx : max (x0 : Int) (nn : Int) = ((max x0 nn : Nat) : Int) := by omega
            go_wp2_with fail
            go_region
            generalize hy : max x0 nn = y
            clear hmx
            go_wp2
            refine bodyPost_ret (v := .tuple #[.pointer none, .int .i64 k, .int .i64 a, .int .i64 29]) (by simp [results, Tryz.results38, go_sem]) rfl ?_
            rw [← HX.out]
            exact ⟨((HC8.out.kp.pp _).pp _).drew, ⟨y, (HRE.out y hy.symm).keep (Kp.refl (fun _ => False) _).drew (fun h => h) (fun h => h)⟩, rfl⟩
          | ok q =>
            have h2q := HFP.out q rfl
            obtain ⟨rfl, hpd⟩ := hFO
            obtain ⟨nn, ⟨d0, d1, ⟨d51, d51e⟩, f1, f51, hn1, hn2, hx2, hpl8⟩, hrest⟩ := hpd.pw.rest
            have hnn : q.cells.length = nn := by
              have := hpd.cells.c0
              rw [d0] at this
              simp at this
              exact this.symm
            rw [hnn] at h2q
            dsimp only at HX
            have HRE : Hid _ := hrest
            have HPD : Hid _ := hpd
            have HNN : Hid _ := hnn
            clear hrest hpd hnn HFP
            have hmx : max (x0 : Int) (nn : Int) = ((max x0 nn : Nat) : Int) := by omega
            go_wp2_with fail
            go_region
            generalize hy : max x0 nn = y
            clear hmx
            have hmk := fun (W : World) => mk102n W (nn - 1) (by omega)
            have hnm : ((nn - 1 : Nat) : Int) = (nn : Int) - 1 := by omega
            rw [hnm] at hmk
            clear hnm
            go_wp2_with fail
            clear hmk
            obtain ⟨W, hW⟩ : ∃ W, ((((w8.setCell ⟨pb, 1, none⟩ (.int .i64 (y : Int))).setCell ⟨pb, 51, none⟩ (.int .i64 0)).alloc (.cells (madeCells Z102 ((nn - 1) * 3)) 129)).drew) = W := ⟨_, rfl⟩
            rw [hW]
            have hcb8 : cb < w8.heap.size := Nat.lt_of_lt_of_le hpl.2 HC8.out.kp.size
            have hpb8 : pb < w8.heap.size := Nat.lt_of_lt_of_le hpl.1 HC8.out.kp.size
            have hkW : Kp (P2 pb cb) w8 W := by rw [← hW]; exact (((((kp2 pb cb w8).pp _).pp _).alloc _).drew)
            have hsW : w8.heap.size < W.heap.size := by rw [← hW]; simp
            have hprW : Pr W pb cb y := by
              rw [← hW]
              exact (HRE.out y hy.symm).keep (((Kp.refl (fun _ => False) _).alloc _).drew) (fun h => h) (fun h => h)
            have hne := HPD.out.ne
            obtain ⟨vs, hcp, hIn⟩ := HPD.out.copyTail (W := W) (K := w8.heap.size) HNN.out h2q (by
              rw [← hW]
              have := (blk_made ((w8.setCell ⟨pb, 1, none⟩ (.int .i64 (y : Int))).setCell ⟨pb, 51, none⟩ (.int .i64 0)) Z102 ((nn - 1) * 3) 129).drew
              simpa using this) (fun G hG => by
              rw [← hW]
              exact ((hG.other (Ne.symm hne) _).other (Ne.symm hne) _).keep (((Kp.refl (fun _ => False) _).alloc _).drew) (fun h => h))
            have hk9 : Kp (P2 pb cb) w8 (W.setCells w8.heap.size 0 vs) := Kp.setCells (.inr (Nat.le_refl _)) vs 0 W hkW
            have hp9 : Pr (W.setCells w8.heap.size 0 vs) pb cb y := hprW.keep (Kp.setCells (S := fun k => k = w8.heap.size) (.inl rfl) vs 0 W (Kp.refl _ _)) (by omega) (by omega)
            have hkc2 := HC8.out.kc.2.2
            have HI9 : Hid _ := hIn (kc + 1 + 1) (by omega)
            rw [hcp]
            generalize W.setCells w8.heap.size 0 vs = w9 at *
            have HC9 : Hid _ := HC8.out.keep hk9 hpl
            have HFC9 : Hid _ := HFC8.out.keep hk9 (fun k hk => by unfold P2 at hk; omega)
            have HP9 : Hid _ := hp9
            clear hp9 hk9 hcp hIn hkW hprW hW hsW HRE HPD HC8 HFC8 d0 d1 d51e f1 f51 hpb8 hcb8 hpl8 hkc2
            obtain ⟨ba, ta, c0, c1, c2, c3, _, _⟩ := HFC9.out.cells
            have hcc := HC9.out.c
            obtain ⟨r0, z0⟩ := HC9.out.rw.cell (by rw [HLK.out]; exact hlt2) (c := 0) (by decide)
            obtain ⟨r1, z1⟩ := HC9.out.rw.cell (by rw [HLK.out]; exact hlt2) (c := 1) (by decide)
            obtain ⟨r2, z2⟩ := HC9.out.rw.cell (by rw [HLK.out]; exact hlt2) (c := 2) (by decide)
            obtain ⟨r3, z3⟩ := HC9.out.rw.cell (by rw [HLK.out]; exact hlt2) (c := 3) (by decide)
            rw [HLK.out] at r0 r1 r2 r3 z0 z1 z2 z3
            have hnl := HF.out.nl
            change w9.cell? ⟨kc + 1, k * 4, none⟩ = some (Value.int .i64 0) at r0
            change w9.frozen? ⟨kc + 1, k * 4, none⟩ = false at z0
            change w9.cell? _ = some (Value.int .i64 0) at r1
            change w9.cell? _ = some (Value.int .i64 0) at r2
            change w9.cell? _ = some (Value.slice none 0 0) at r3
            go_wp2_with fail
            go_region
            go_wp2
            go_light
            refine ⟨⟨k + 1, l ++ [⟨t.p.size, t.p.size + fn.locals.size, t.q.size, q.cells.tail⟩], by omega, by go_num, by simp [HLK.out], ?_, ?_, HX⟩, by simp [intOf]; omega⟩
            · exact (HC9.out.push HLK.out hlt2 hpl ⟨t.p.size, t.p.size + fn.locals.size, t.q.size, q.cells.tail⟩ _ _ _ _ ⟨rfl, by simp, rfl⟩ HI9.out).1
            · exact ⟨y, HP9.out.keep (HC9.out.push HLK.out hlt2 hpl ⟨t.p.size, t.p.size + fn.locals.size, t.q.size, q.cells.tail⟩ _ _ _ _ ⟨rfl, by simp, rfl⟩ HI9.out).2 (by omega) (by omega)⟩
      · have hge : ¬ ((k : Int) < (nf : Int)) := by omega
        have hge2 : ¬ (k < nf) := by omega
        have hkn : k = nf := by omega
        subst hkn
        rw [List.drop_of_length_le (by rw [HNF.out]; exact Nat.le_refl _), compL] at HX
        go_wp2_with fail
        go_quiet (fail)
        go_wp2
        refine bodyPost_ret (v := .tuple #[.pointer (some ⟨kc, 0, none⟩), .int .i64 k, .int .i64 0, .int .i64 0]) (by simp [results, Tryz.results38, go_sem]) rfl ?_
        rw [← HX.out]
        have hk : Kp (fun _ => False) wr (wr.drewN nq) := (Kp.refl _ _).drewM nq
        obtain ⟨x1, hx1⟩ := HPx.out
        have hC := HC.out.keep hk.none hpl
        refine ⟨hC.kp, ⟨x1, hx1.keep hk (fun h => h) (fun h => h)⟩, kc, by omega, by rw [HNF.out], ⟨_, hC.c, hC.rw.done ffR_ok hlk (by omega) (by omega) (Nat.le_refl _)⟩⟩
end
end Go.Proofs.Qxb6500275aGreatDoor
