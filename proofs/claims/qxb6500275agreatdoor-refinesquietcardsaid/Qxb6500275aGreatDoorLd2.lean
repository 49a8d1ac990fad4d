import Derived.Test.Qxb6500275aGreatDoorMc2
import Derived.Test.Qxb6500275aGreatDoorSt3
import Derived.Test.Qxb6500275aGreatDoorAd2
import Derived.Test.Qxb6500275aGreatDoorEx7
import Derived.Test.Qxb6500275aGreatDoorVc3
set_option maxRecDepth 100000
set_option linter.unusedVariables false
set_option linter.unusedSimpArgs false
namespace Go.Proofs.Qxb6500275aGreatDoor
open Go Go.RowKit
section
variable {num : NumF} {w w' w1 w2 : World} {X : Mx} {O P : Nat → Prop} {st : Ma} {T T' : Nat → Prop} {V V' : Vm} {S S' : Sm} {H H' : Hm}
def encLa (a : Lan) : Value := .tuple #[.int .i64 a.n, .int .i64 a.m, .int .i64 a.e]
def LoadQ (num : NumF) (w : World) (X : Mx) (O : Nat → Prop) (st : Ma) (s : ByteArray) (fuel : Nat) (en : Ending) (w' : World) : Prop :=
  ∃ a st', LoadR num s fuel st.H a st' ∧ en = .returned (encLa a) ∧ Mach num w' X (O1 O w w') st' ∧ Kp O w w'
/- the cells 0 .. 4 of the machine -/
theorem Xb.c04 (h : Xb w X T V S H) : w.cell? ⟨X.xb, 0, none⟩ = some (.pointer (some ⟨X.db, 0, none⟩)) ∧ w.cell? ⟨X.xb, 1, none⟩ = some (.pointer (some ⟨X.vb, 0, none⟩)) ∧ w.cell? ⟨X.xb, 2, none⟩ = some (.pointer (some ⟨X.pb, 0, none⟩)) ∧ w.cell? ⟨X.xb, 3, none⟩ = some (.pointer (some ⟨X.sb, 0, none⟩)) ∧ w.cell? ⟨X.xb, 4, none⟩ = some (.pointer (some ⟨X.hb, 0, none⟩)) := by
  obtain ⟨F, x1, x2⟩ := h.x
  exact ⟨by rw [x1.cell (by decide), x2.f0], by rw [x1.cell (by decide), x2.f1], by rw [x1.cell (by decide), x2.f2], by rw [x1.cell (by decide), x2.f3], by rw [x1.cell (by decide), x2.f4]⟩
/- what is its own, by name -/
structure Ox (X : Mx) (O : Nat → Prop) : Prop where
  xb : O X.xb
  kb : O X.kb
  sb : O X.sb
  rb : O X.rb
  hb : O X.hb
  bb : O X.bb
  tb : O X.tb
  db : O X.db
  ib : O X.ib
  lb : O X.lb
  vb : O X.vb
  pb : O X.pb
  pc : O X.pc
theorem Mach.ox (h : Mach num w X O st) : Ox X O := by
  have hl := h.ax.lt
  obtain ⟨m, d, v, p, hh, xx⟩ := h.ax
  constructor <;> (refine h.own _ ?_ ?_ <;> omega)
theorem Ax.hs (hA : Ax X) : X.vb < X.hi ∧ X.pb < X.hi ∧ X.pc < X.hi := by
  have hl := hA.lt
  obtain ⟨m, d, v, p, hh, xx⟩ := hA
  omega
theorem fuel_eq (A : Int) : (if A < 0 then (0 : Int) else A) = (A.toNat : Int) := by split <;> omega
set_option maxHeartbeats 16000000 in
theorem load_pos (hNr : NumR num) (hNo : NumOk num) (h : Mach num w X O st) (s : ByteArray) (n : Nat) (hn : n < 9223372036854775808) :
    Calls Tryz.prog 13 #[.pointer (some ⟨X.xb, 0, none⟩), .string s, .int .i64 (n : Int)] w (LoadQ num w X O st s n) := by
  obtain ⟨T, V, S, hx, hT, hS, _, _⟩ := h.is
  have ho := h.ox
  have hhm := h.good.hm
  have hhi := h.hi
  have hAx := h.ax
  have hAh := hAx.hs
  have hE := empty_calls hAx hx (fun k hk => (hT k hk).1) hhm.bd.1
  have HM : Hid _ := h
  have HO : Hid _ := ho
  have HT : Hid _ := hT
  have HS : Hid _ := hS
  have HHM : Hid _ := hhm
  have HHI : Hid _ := hhi
  have HAX : Hid _ := hAx
  have HAH : Hid _ := hAh
  have HNR : Hid _ := hNr
  have HNO : Hid _ := hNo
  clear hx hT hS h ho hhm hhi hAx hAh hNr hNo
  go_enter Tryz.func13, Tryz.ntmps13
  go_wp2_with fail
  refine hE.mono ?_
  rintro en w1 ⟨rfl, k1, x1⟩
  have L1 : Hid (Lz w w1 X O T Vm.none S (clearS st.H)) := ⟨k1.mono (fun k e => by
    rcases e with rfl | rfl | e
    · exact HO.out.xb
    · exact HO.out.hb
    · exact (HT.out k e).2), x1, fun k hk => ⟨(HT.out k hk).1, .inl (HT.out k hk).2⟩, HS.out, clearS_ok HHM.out⟩
  clear hE k1 x1
  obtain ⟨c0, c1, c2, c3, c4⟩ := L1.out.xb.c04
  obtain ⟨ty, hbt⟩ := L1.out.xb.bt
  have hdec := decode_calls (s := s) hbt
  go_wp2_with fail
  refine hdec.mono ?_
  rintro en w2 ⟨k2, b2, hd⟩
  have L2 : Hid (Lz w w2 X O T Vm.none S (clearS st.H)) := L1.out.to k2 (fun k _ e => by
    rcases e with rfl | rfl | rfl
    · exact HO.out.db
    · exact HO.out.ib
    · exact HO.out.lb) (L1.out.xb.bins HAX.out L1.out.th k2 b2) (fun k hk => .inl hk) HHI.out L1.out.sm L1.out.hm
  have hs1 : w.heap.size ≤ w1.heap.size := L1.out.kp.size
  obtain ⟨dx, hdx⟩ : ∃ dx, decodeS s = dx := ⟨_, rfl⟩
  rw [hdx] at hd
  clear hdec hbt k2 b2 L1 c0 c1 c2 c3 c4
  cases dx with
  | error x =>
    obtain ⟨c, p⟩ := x
    have hc := er_decode (s := s) c p hdx
    have hR : LoadR num s n st.H ⟨(p : Int), 0, c⟩ ⟨none, clearS st.H⟩ := by
      unfold LoadR load0
      rw [hdx]
      exact ⟨rfl, rfl⟩
    have HR : Hid (LoadR num s n st.H ⟨(p : Int), 0, c⟩ ⟨none, clearS st.H⟩) := hR
    have hcn : (c == 0) = false := by rw [beq_eq_false_iff_ne]; omega
    dsimp only at hd
    subst hd
    clear hR hdx
    go_wp2_with fail
    refine bodyPost_ret (v := encLa ⟨(p : Int), 0, c⟩) (by simp [results, Tryz.results13, go_sem, encLa]) rfl ?_
    exact ⟨_, _, HR.out, rfl, L2.out.mach0 HM.out, L2.out.kp⟩
  | ok M =>
    obtain ⟨mb, hmb, rfl, hmd⟩ := hd
    obtain ⟨hMo, hRm⟩ := decodeS_r hdx
    have hmb2 : X.hi ≤ mb := by have := HHI.out; omega
    have hmbw : w.heap.size ≤ mb := by omega
    obtain ⟨c0, c1, c2, c3, c4⟩ := L2.out.xb.c04
    obtain ⟨v, hv1, hv2⟩ := L2.out.xb.vd
    have hval := validate_calls (⟨hv1, hmd, hMo, by have := HAH.out; omega⟩ : SV w2 X.vb mb M v) hv2
    have HMD : Hid _ := hmd
    have HMO : Hid _ := hMo
    have HRM : Hid _ := hRm
    have HDX : Hid _ := hdx
    have HMB : Hid _ := hmb2
    have HMBW : Hid _ := hmbw
    clear hmd hMo hRm hdx hmb hmb2 hmbw hv1 hv2 hs1
    go_wp2_with fail
    refine hval.mono ?_
    rintro en w3 ⟨rfl, k3, b3⟩
    have L3 : Hid (Lz w w3 X O T Vm.none S (clearS st.H)) := L2.out.to k3 (fun k _ e => by rw [e]; exact HO.out.vb) (L2.out.xb.vals HAX.out L2.out.th k3 b3) (fun k hk => .inl hk) HHI.out L2.out.sm L2.out.hm
    have HMD3 : Hid (Md w3 mb M) := HMD.out.keep k3 (fun k e => by have := HAH.out; have := HMB.out; omega)
    clear hval L2 HMD k3 b3 c0 c1 c2 c3 c4
    obtain ⟨vx, hvx⟩ : ∃ vx, validV M = vx := ⟨_, rfl⟩
    obtain ⟨vi, vp, ve⟩ := vx
    rw [hvx]
    unfold encV
    dsimp only
    by_cases hve : ve = 0
    · subst hve
      obtain ⟨c0, c1, c2, c3, c4⟩ := L3.out.xb.c04
      obtain ⟨pn, hpr⟩ := L3.out.xb.pr
      have hcomp := compile_calls HMO.out HRM.out HMD3.out hpr (by have := HAH.out; have := HMB.out; omega)
      have HVX : Hid _ := hvx
      clear hvx hpr
      go_wp2_with fail
      refine hcomp.mono ?_
      rintro en w4 ⟨k4, b4, hc⟩
      have L4 : Hid (Lz w w4 X O T Vm.none S (clearS st.H)) := L3.out.to k4 (fun k _ e => by
        unfold P2 at e
        rcases e with rfl | rfl
        · exact HO.out.pb
        · exact HO.out.pc) (L3.out.xb.preps HAX.out L3.out.th k4 b4) (fun k hk => .inl hk) HHI.out L3.out.sm L3.out.hm
      have HMD4 : Hid (Md w4 mb M) := HMD3.out.keep k4 (fun k e => by have := HAH.out; have := HMB.out; unfold P2 at e; omega)
      have hs3 : w.heap.size ≤ w3.heap.size := L3.out.kp.size
      obtain ⟨cx, hcx⟩ : ∃ cx, compP M = cx := ⟨_, rfl⟩
      rw [hcx] at hc
      clear hcomp L3 HMD3 k4 b4 c0 c1 c2 c3 c4
      cases cx with
      | error x =>
        obtain ⟨ck, ca⟩ := x
        dsimp only at hc
        subst hc
        have HR : Hid (LoadR num s n st.H ⟨(ck : Int), (ca : Int), 29⟩ ⟨none, clearS st.H⟩) := by
          show LoadR _ _ _ _ _ _
          unfold LoadR load0
          rw [HDX.out]
          dsimp only
          rw [HVX.out, hcx]
          exact ⟨rfl, rfl⟩
        clear hcx
        go_wp2_with fail
        refine bodyPost_ret (v := encLa ⟨(ck : Int), (ca : Int), 29⟩) (by simp [results, Tryz.results13, go_sem, encLa]) rfl ?_
        exact ⟨_, _, HR.out, rfl, L4.out.mach0 HM.out, L4.out.kp⟩
      | ok fs =>
        obtain ⟨kc, hkc, rfl, hcd⟩ := hc
        have hl0 : load0 s = .ok (M, fs) := by
          unfold load0
          rw [HDX.out]
          dsimp only
          rw [HVX.out, hcx]
          rfl
        have HL0 : Hid _ := hl0
        have hld := load0_ok hl0
        have HLD : Hid _ := hld
        have hG := hld.good num HNO.out
        have HG : Hid _ := hG
        have hset := settle_calls HAX.out L4.out.xb L4.out.th hld.mod hld.seg HMD4.out HMB.out L4.out.sm
        have HCD : Hid _ := hcd
        have HKC : Hid (w.heap.size ≤ kc) := Nat.le_trans hs3 hkc
        clear hl0 hld hG hcd hkc hcx hs3
        go_wp2_with fail
        refine hset.mono ?_
        rintro en w5 ⟨rfl, T5, hsd⟩
        have hsz4 : w.heap.size ≤ w4.heap.size := L4.out.kp.size
        have hnew := settleS_new M S Sm.none (clearS st.H)
        have hsm5 := settleS_sm HLD.out.mod HLD.out.seg (H := clearS st.H) L4.out.sm
        have hhm5 := settleS_hm HLD.out.mod S L4.out.hm
        have hok5 := settle_r HLD.out HHM.out S
        have hee := settleS_e M S (clearS st.H)
        obtain ⟨r, hr⟩ : ∃ r, settleS M S (clearS st.H) = r := ⟨_, rfl⟩
        rw [hr] at hsd hnew hsm5 hhm5 hok5 hee
        rw [hr]
        have L5 : Hid (Lz w w5 X O T5 Vm.none r.S r.H) := L4.out.to hsd.kp (fun k _ e => by
          unfold Qs at e
          rcases e with rfl | rfl | rfl | rfl
          · exact HO.out.hb
          · exact HO.out.bb
          · exact HO.out.sb
          · exact HO.out.rb) hsd.xb (fun k hk => hsd.tx.new k hk) HHI.out hsm5 hhm5
        have HMD5 : Hid (Md w5 mb M) := hsd.md HAX.out HMD4.out HMB.out
        have HCD5 : Hid (Cd w5 kc fs) := HCD.out.keep hsd.kp (fun k e => by have := Qs.lt HAX.out e; have := HKC.out; have := HHI.out; omega)
        have HNEW : Hid _ := hnew
        have HOK : Hid _ := hok5
        have HRR : Hid _ := hr
        clear hset hsd hnew hsm5 hhm5 hok5 hr L4 HMD4 HCD hsz4
        unfold encSt
        obtain ⟨ri, rk, re, rS, rH⟩ := r
        dsimp only at hee L5
        by_cases hre : re = 0
        · subst hre
          have hri : SRok M ⟨ri, rk, 0, rS, rH⟩ := HOK.out rfl
          have HRI : Hid _ := hri
          have had := adopt_calls (kc := kc) HAX.out L5.out.xb L5.out.th HLD.out.mod (HG.out.ty) HMD5.out HMB.out (fun k hk => by
            rcases (L5.out.t k hk).2 with e | e
            · have := HM.out.olt k e; have := L5.out.kp.size; omega
            · exact e.2)
          clear hri hee
          go_wp2_with fail
          refine had.mono ?_
          rintro en w6 ⟨rfl, k6, sv, fv, x6, os6, fl, of6, fl1, fl2⟩
          have L6 : Hid (Lz w w6 X O T5 ⟨.pointer (some ⟨mb, 0, none⟩), .pointer (some ⟨kc, 0, none⟩), sv, fv⟩ rS rH) := L5.out.to k6 (fun k _ e => by rw [e]; exact HO.out.xb) x6 (fun k hk => .inl hk) HHI.out L5.out.sm L5.out.hm
          have hs5 : w.heap.size ≤ w5.heap.size := L5.out.kp.size
          have hxlt : X.xb < w.heap.size := HM.out.olt _ HO.out.xb
          have HMP : Hid (Mp w6 w.heap.size ⟨M, fs, num⟩ ⟨.pointer (some ⟨mb, 0, none⟩), .pointer (some ⟨kc, 0, none⟩), sv, fv⟩ mb kc) :=
            ⟨rfl, rfl, ⟨HMBW.out, HKC.out⟩, HMD5.out.keep k6 (fun k e => by have := HMBW.out; omega), HCD5.out.keep k6 (fun k e => by have := HKC.out; omega), os6.low hs5, fl, of6.low hs5, fl1, fl2⟩
          have HS6 : Hid (w.heap.size ≤ w6.heap.size) := L6.out.kp.size
          obtain ⟨ga, xa, ea, da, c3, c4, c5, c6, c7, c8, c9, c10, c11, gat, xat, eat, dat⟩ := HMP.out.md.rest
          have hstr := HLD.out.mod.start
          unfold limR at hstr
          clear had k6 x6 os6 of6 fl1 fl2 L5 HMD5 HCD5 hs5 hxlt c3 c4 c5 c6 c7 c8 c10 c11 gat xat eat dat
          obtain ⟨stt, hst⟩ : ∃ stt, M.start = stt := ⟨_, rfl⟩
          rw [hst] at c9 hstr
          have HST : Hid _ := hst
          clear hst
          obtain ⟨n1, n2, n3, n4, n5⟩ := HNEW.out
          try dsimp only at n1 n2 n3 n4 n5
          have HSN : Hid (settleS M Sm.none (clearS st.H) = ⟨ri, rk, 0, rS, rH⟩) := by
            show settleS M Sm.none (clearS st.H) = ⟨ri, rk, 0, rS, rH⟩
            have n5' := n5 (by trivial)
            generalize settleS M Sm.none (clearS st.H) = q at *
            obtain ⟨q1, q2, q3, q4, q5⟩ := q
            try dsimp only at n1 n2 n3 n4 n5'
            rw [n1, n2, n3, n4, n5']
          clear n1 n2 n3 n4 n5 HNEW HOK HRR
          by_cases hs0 : stt < 0
          · have HR : Hid (LoadR num s n st.H ⟨((n : Nat) : Int), 0, 0⟩ ⟨some ⟨⟨M, fs, num⟩, rS⟩, rH⟩) := by
              show LoadR _ _ _ _ _ _
              unfold LoadR
              rw [HL0.out]
              dsimp only
              rw [HSN.out]
              exact .inr (.inl ⟨rfl, by rw [HST.out]; exact hs0, rfl, rfl⟩)
            go_wp2_with fail
            refine bodyPost_ret (v := encLa ⟨((n : Nat) : Int), 0, 0⟩) (by simp [results, Tryz.results13, go_sem, encLa]) rfl ?_
            exact ⟨_, _, HR.out, rfl, L6.out.mach HM.out (Nat.le_refl _) HS6.out HMP.out (Kp.refl _ _) HG.out (settle_env HLD.out HRI.out), L6.out.kp⟩
          · obtain ⟨f, rfl⟩ : ∃ f : Nat, stt = (f : Int) := ⟨stt.toNat, by omega⟩
            have hf0 : 0 ≤ M.start := by rw [HST.out]; omega
            obtain ⟨t, ht, htp, htq⟩ := start_ty HLD.out hf0
            have hff : M.start.toNat = f := by rw [HST.out]; omega
            rw [hff] at ht
            have henv := settle_env (num := num) HLD.out HRI.out
            have hwl : ([] : List Nat).length = t.p.size := by rw [htp]; rfl
            obtain ⟨R, hR⟩ := RunR.total HG.out.ok ht henv hwl n
            obtain ⟨m, hgo⟩ := hR.goes HG.out.ok ht henv hwl
            have hfin := hR.fin HG.out.ok ht henv hwl
            obtain ⟨kk, hq⟩ := HMP.out.xq (T := T5) HNR.out HG.out HAX.out HHI.out HS6.out (fun k hk => ⟨L6.out.th k hk, by
              have := (L6.out.t k hk).2
              have h6 := HS6.out
              rcases this with e | e
              · have := HM.out.olt k e; omega
              · exact e.2⟩)
            obtain ⟨K, hK⟩ := L6.out.xb.kb
            have hz := L6.out.xb.xz (kk := kk) (lo := w.heap.size) (ws := []) rfl rfl hK (fun i v h => by simp at h)
            have hnf : fs.length ≤ 8 := by have := HG.out.ok.n; have := HLD.out.mod.nf; dsimp only at *; omega
            have hrun := run_calls (N := xN X ⟨.pointer (some ⟨mb, 0, none⟩), .pointer (some ⟨kc, 0, none⟩), sv, fv⟩ mb kc kk w.heap.size) (C := ⟨M, fs, num⟩) (T := T5) (R := R) (m := m) (fuel := n) (f := f) (ws := []) (S := rS) (H := rH) (t := t) hq HG.out.len HG.out.ty hnf hz hgo (by omega) ht hwl henv
            change Calls Tryz.prog 42 #[.pointer (some ⟨X.xb, 0, none⟩), .int .i64 (f : Int), .int .i64 0, .int .i64 ((n : Nat) : Int)] w6 _ at hrun
            have HR : Hid (LoadR num s n st.H ⟨(R.1 : Int), 0, (R.2.e : Int)⟩ (if R.2.e = 0 then ⟨some ⟨⟨M, fs, num⟩, R.2.S⟩, R.2.H⟩ else ⟨none, clearS R.2.H⟩)) := by
              show LoadR _ _ _ _ _ _
              unfold LoadR
              rw [HL0.out]
              dsimp only
              rw [HSN.out]
              exact .inr (.inr ⟨rfl, hf0, R, by rw [hff]; exact hR, rfl, rfl⟩)
            have HF : Hid _ := hfin
            clear ht htp htq hff henv hwl hR hgo hfin hq hK hf0 hz hnf
            go_wp2_with fail
            refine hrun.mono ?_
            rintro en w7 ⟨rfl, ws', fr, hd, hxr, _⟩
            obtain ⟨x7, _⟩ := xr_rest HAX.out L6.out.xb rfl rfl hxr
            have hfe := HF.out.e
            have L7 : Hid (Lz w w7 X O T5 _ R.2.S R.2.H) := L6.out.to hxr.kp (fun k _ e => by
              unfold Sx at e
              simp only [nX, xN] at e
              rcases e with rfl | rfl | rfl | rfl | rfl | rfl
              · exact HO.out.xb
              · exact HO.out.kb
              · exact HO.out.sb
              · exact HO.out.rb
              · exact HO.out.hb
              · exact HO.out.tb) x7 (fun k hk => .inl hk) HHI.out HF.out.env.sm HF.out.env.hm
            have HK7 : Hid (Kp (fun k => k < w.heap.size) w6 w7) := hxr.kp.mono (fun k e => by
              unfold Sx at e
              simp only [nX, xN] at e
              have := HM.out.olt
              rcases e with rfl | rfl | rfl | rfl | rfl | rfl
              · exact this _ HO.out.xb
              · exact this _ HO.out.kb
              · exact this _ HO.out.sb
              · exact this _ HO.out.rb
              · exact this _ HO.out.hb
              · exact this _ HO.out.tb)
            clear hrun hxr x7
            obtain ⟨R1, e7, out7, S7, H7⟩ := R
            dsimp only at hfe HR HF L7 ⊢
            by_cases he7 : e7 = 0
            · subst he7
              rw [if_pos rfl] at HR
              go_wp2_with fail
              refine bodyPost_ret (v := encLa ⟨(R1 : Int), 0, 0⟩) (by simp [results, Tryz.results13, go_sem, encLa]) rfl ?_
              exact ⟨_, _, HR.out, rfl, L7.out.mach HM.out (Nat.le_refl _) HS6.out HMP.out HK7.out HG.out HF.out.env.nil, L7.out.kp⟩
            · rw [if_neg he7] at HR
              have hen : ((e7 : Int) == 0) = false := by rw [beq_eq_false_iff_ne]; omega
              have hem := empty_calls HAX.out L7.out.xb L7.out.th HF.out.env.hm.bd.1
              go_wp2_with fail
              refine hem.mono ?_
              rintro en w8 ⟨rfl, k8, x8⟩
              have L8 : Hid (Lz w w8 X O T5 Vm.none S7 (clearS H7)) := L7.out.to k8 (fun k hk e => by
                rcases e with rfl | rfl | e
                · exact HO.out.xb
                · exact HO.out.hb
                · rcases (L7.out.t k e).2 with e | e
                  · exact e
                  · omega) x8 (fun k hk => .inl hk) HHI.out L7.out.sm (clearS_ok L7.out.hm)
              go_wp2_with fail
              refine bodyPost_ret (v := encLa ⟨(R1 : Int), 0, (e7 : Int)⟩) (by simp [results, Tryz.results13, go_sem, encLa]) rfl ?_
              exact ⟨_, _, HR.out, rfl, L8.out.mach0 HM.out, L8.out.kp⟩
        · have HR : Hid (LoadR num s n st.H ⟨(ri : Int), (rk : Int), (re : Int)⟩ ⟨none, clearS rH⟩) := by
            show LoadR _ _ _ _ _ _
            unfold LoadR
            rw [HL0.out]
            dsimp only
            obtain ⟨n1, n2, n3, n4, n5⟩ := HNEW.out
            try dsimp only at n1 n2 n3 n4
            exact .inl ⟨by rw [← n3]; exact hre, by rw [← n1, ← n2, ← n3], by rw [← n4]⟩
          have hcl := clear_calls L5.out.xb.hw L5.out.hm.bd.1
          have hen : ((re : Int) == 0) = false := by rw [beq_eq_false_iff_ne]; omega
          obtain ⟨c0, c1, c2, c3, c4⟩ := L5.out.xb.c04
          go_wp2_with fail
          refine hcl.mono ?_
          rintro en w6 ⟨rfl, k6, h6⟩
          have L6 : Hid (Lz w w6 X O T5 Vm.none rS (clearS rH)) := L5.out.to k6 (fun k hk e => by
            rcases e with rfl | e
            · exact HO.out.hb
            · rcases (L5.out.t k e).2 with e | e
              · exact e
              · omega) (L5.out.xb.host HAX.out L5.out.th (k6.mono (fun k e => by
                rcases e with e | e
                · exact .inl e
                · exact .inr (.inr e))) h6) (fun k hk => .inl hk) HHI.out L5.out.sm (clearS_ok L5.out.hm)
          clear hcl k6 h6 c0 c1 c2 c3 c4
          go_wp2_with fail
          refine bodyPost_ret (v := encLa ⟨(ri : Int), (rk : Int), (re : Int)⟩) (by simp [results, Tryz.results13, go_sem, encLa]) rfl ?_
          exact ⟨_, _, HR.out, rfl, L6.out.mach0 HM.out, L6.out.kp⟩
    · have HR : Hid (LoadR num s n st.H ⟨vi, (vp : Int), ve⟩ ⟨none, clearS st.H⟩) := by
        show LoadR _ _ _ _ _ _
        unfold LoadR load0
        rw [HDX.out]
        dsimp only
        rw [hvx, if_neg hve]
        exact ⟨rfl, rfl⟩
      have hvn : (ve == 0) = false := by rw [beq_eq_false_iff_ne]; exact hve
      clear hvx
      go_wp2_with fail
      refine bodyPost_ret (v := encLa ⟨vi, (vp : Int), ve⟩) (by simp [results, Tryz.results13, go_sem, encLa]) rfl ?_
      exact ⟨_, _, HR.out, rfl, L3.out.mach0 HM.out, L3.out.kp⟩
set_option maxHeartbeats 16000000 in
theorem load_neg (hNr : NumR num) (hNo : NumOk num) (h : Mach num w X O st) (s : ByteArray) (A : Int) (hA0 : A < 0) :
    Calls Tryz.prog 13 #[.pointer (some ⟨X.xb, 0, none⟩), .string s, .int .i64 A] w (LoadQ num w X O st s 0) := by
  obtain ⟨T, V, S, hx, hT, hS, _, _⟩ := h.is
  have ho := h.ox
  have hhm := h.good.hm
  have hhi := h.hi
  have hAx := h.ax
  have hAh := hAx.hs
  have hE := empty_calls hAx hx (fun k hk => (hT k hk).1) hhm.bd.1
  have HM : Hid _ := h
  have HO : Hid _ := ho
  have HT : Hid _ := hT
  have HS : Hid _ := hS
  have HHM : Hid _ := hhm
  have HHI : Hid _ := hhi
  have HAX : Hid _ := hAx
  have HAH : Hid _ := hAh
  have HNR : Hid _ := hNr
  have HNO : Hid _ := hNo
  clear hx hT hS h ho hhm hhi hAx hAh hNr hNo
  go_enter Tryz.func13, Tryz.ntmps13
  go_wp2_with fail
  refine hE.mono ?_
  rintro en w1 ⟨rfl, k1, x1⟩
  have L1 : Hid (Lz w w1 X O T Vm.none S (clearS st.H)) := ⟨k1.mono (fun k e => by
    rcases e with rfl | rfl | e
    · exact HO.out.xb
    · exact HO.out.hb
    · exact (HT.out k e).2), x1, fun k hk => ⟨(HT.out k hk).1, .inl (HT.out k hk).2⟩, HS.out, clearS_ok HHM.out⟩
  clear hE k1 x1
  obtain ⟨c0, c1, c2, c3, c4⟩ := L1.out.xb.c04
  obtain ⟨ty, hbt⟩ := L1.out.xb.bt
  have hdec := decode_calls (s := s) hbt
  go_wp2_with fail
  refine hdec.mono ?_
  rintro en w2 ⟨k2, b2, hd⟩
  have L2 : Hid (Lz w w2 X O T Vm.none S (clearS st.H)) := L1.out.to k2 (fun k _ e => by
    rcases e with rfl | rfl | rfl
    · exact HO.out.db
    · exact HO.out.ib
    · exact HO.out.lb) (L1.out.xb.bins HAX.out L1.out.th k2 b2) (fun k hk => .inl hk) HHI.out L1.out.sm L1.out.hm
  have hs1 : w.heap.size ≤ w1.heap.size := L1.out.kp.size
  obtain ⟨dx, hdx⟩ : ∃ dx, decodeS s = dx := ⟨_, rfl⟩
  rw [hdx] at hd
  clear hdec hbt k2 b2 L1 c0 c1 c2 c3 c4
  cases dx with
  | error x =>
    obtain ⟨c, p⟩ := x
    have hc := er_decode (s := s) c p hdx
    have hR : LoadR num s 0 st.H ⟨(p : Int), 0, c⟩ ⟨none, clearS st.H⟩ := by
      unfold LoadR load0
      rw [hdx]
      exact ⟨rfl, rfl⟩
    have HR : Hid (LoadR num s 0 st.H ⟨(p : Int), 0, c⟩ ⟨none, clearS st.H⟩) := hR
    have hcn : (c == 0) = false := by rw [beq_eq_false_iff_ne]; omega
    dsimp only at hd
    subst hd
    clear hR hdx
    go_wp2_with fail
    refine bodyPost_ret (v := encLa ⟨(p : Int), 0, c⟩) (by simp [results, Tryz.results13, go_sem, encLa]) rfl ?_
    exact ⟨_, _, HR.out, rfl, L2.out.mach0 HM.out, L2.out.kp⟩
  | ok M =>
    obtain ⟨mb, hmb, rfl, hmd⟩ := hd
    obtain ⟨hMo, hRm⟩ := decodeS_r hdx
    have hmb2 : X.hi ≤ mb := by have := HHI.out; omega
    have hmbw : w.heap.size ≤ mb := by omega
    obtain ⟨c0, c1, c2, c3, c4⟩ := L2.out.xb.c04
    obtain ⟨v, hv1, hv2⟩ := L2.out.xb.vd
    have hval := validate_calls (⟨hv1, hmd, hMo, by have := HAH.out; omega⟩ : SV w2 X.vb mb M v) hv2
    have HMD : Hid _ := hmd
    have HMO : Hid _ := hMo
    have HRM : Hid _ := hRm
    have HDX : Hid _ := hdx
    have HMB : Hid _ := hmb2
    have HMBW : Hid _ := hmbw
    clear hmd hMo hRm hdx hmb hmb2 hmbw hv1 hv2 hs1
    go_wp2_with fail
    refine hval.mono ?_
    rintro en w3 ⟨rfl, k3, b3⟩
    have L3 : Hid (Lz w w3 X O T Vm.none S (clearS st.H)) := L2.out.to k3 (fun k _ e => by rw [e]; exact HO.out.vb) (L2.out.xb.vals HAX.out L2.out.th k3 b3) (fun k hk => .inl hk) HHI.out L2.out.sm L2.out.hm
    have HMD3 : Hid (Md w3 mb M) := HMD.out.keep k3 (fun k e => by have := HAH.out; have := HMB.out; omega)
    clear hval L2 HMD k3 b3 c0 c1 c2 c3 c4
    obtain ⟨vx, hvx⟩ : ∃ vx, validV M = vx := ⟨_, rfl⟩
    obtain ⟨vi, vp, ve⟩ := vx
    rw [hvx]
    unfold encV
    dsimp only
    by_cases hve : ve = 0
    · subst hve
      obtain ⟨c0, c1, c2, c3, c4⟩ := L3.out.xb.c04
      obtain ⟨pn, hpr⟩ := L3.out.xb.pr
      have hcomp := compile_calls HMO.out HRM.out HMD3.out hpr (by have := HAH.out; have := HMB.out; omega)
      have HVX : Hid _ := hvx
      clear hvx hpr
      go_wp2_with fail
      refine hcomp.mono ?_
      rintro en w4 ⟨k4, b4, hc⟩
      have L4 : Hid (Lz w w4 X O T Vm.none S (clearS st.H)) := L3.out.to k4 (fun k _ e => by
        unfold P2 at e
        rcases e with rfl | rfl
        · exact HO.out.pb
        · exact HO.out.pc) (L3.out.xb.preps HAX.out L3.out.th k4 b4) (fun k hk => .inl hk) HHI.out L3.out.sm L3.out.hm
      have HMD4 : Hid (Md w4 mb M) := HMD3.out.keep k4 (fun k e => by have := HAH.out; have := HMB.out; unfold P2 at e; omega)
      have hs3 : w.heap.size ≤ w3.heap.size := L3.out.kp.size
      obtain ⟨cx, hcx⟩ : ∃ cx, compP M = cx := ⟨_, rfl⟩
      rw [hcx] at hc
      clear hcomp L3 HMD3 k4 b4 c0 c1 c2 c3 c4
      cases cx with
      | error x =>
        obtain ⟨ck, ca⟩ := x
        dsimp only at hc
        subst hc
        have HR : Hid (LoadR num s 0 st.H ⟨(ck : Int), (ca : Int), 29⟩ ⟨none, clearS st.H⟩) := by
          show LoadR _ _ _ _ _ _
          unfold LoadR load0
          rw [HDX.out]
          dsimp only
          rw [HVX.out, hcx]
          exact ⟨rfl, rfl⟩
        clear hcx
        go_wp2_with fail
        refine bodyPost_ret (v := encLa ⟨(ck : Int), (ca : Int), 29⟩) (by simp [results, Tryz.results13, go_sem, encLa]) rfl ?_
        exact ⟨_, _, HR.out, rfl, L4.out.mach0 HM.out, L4.out.kp⟩
      | ok fs =>
        obtain ⟨kc, hkc, rfl, hcd⟩ := hc
        have hl0 : load0 s = .ok (M, fs) := by
          unfold load0
          rw [HDX.out]
          dsimp only
          rw [HVX.out, hcx]
          rfl
        have HL0 : Hid _ := hl0
        have hld := load0_ok hl0
        have HLD : Hid _ := hld
        have hG := hld.good num HNO.out
        have HG : Hid _ := hG
        have hset := settle_calls HAX.out L4.out.xb L4.out.th hld.mod hld.seg HMD4.out HMB.out L4.out.sm
        have HCD : Hid _ := hcd
        have HKC : Hid (w.heap.size ≤ kc) := Nat.le_trans hs3 hkc
        clear hl0 hld hG hcd hkc hcx hs3
        go_wp2_with fail
        refine hset.mono ?_
        rintro en w5 ⟨rfl, T5, hsd⟩
        have hsz4 : w.heap.size ≤ w4.heap.size := L4.out.kp.size
        have hnew := settleS_new M S Sm.none (clearS st.H)
        have hsm5 := settleS_sm HLD.out.mod HLD.out.seg (H := clearS st.H) L4.out.sm
        have hhm5 := settleS_hm HLD.out.mod S L4.out.hm
        have hok5 := settle_r HLD.out HHM.out S
        have hee := settleS_e M S (clearS st.H)
        obtain ⟨r, hr⟩ : ∃ r, settleS M S (clearS st.H) = r := ⟨_, rfl⟩
        rw [hr] at hsd hnew hsm5 hhm5 hok5 hee
        rw [hr]
        have L5 : Hid (Lz w w5 X O T5 Vm.none r.S r.H) := L4.out.to hsd.kp (fun k _ e => by
          unfold Qs at e
          rcases e with rfl | rfl | rfl | rfl
          · exact HO.out.hb
          · exact HO.out.bb
          · exact HO.out.sb
          · exact HO.out.rb) hsd.xb (fun k hk => hsd.tx.new k hk) HHI.out hsm5 hhm5
        have HMD5 : Hid (Md w5 mb M) := hsd.md HAX.out HMD4.out HMB.out
        have HCD5 : Hid (Cd w5 kc fs) := HCD.out.keep hsd.kp (fun k e => by have := Qs.lt HAX.out e; have := HKC.out; have := HHI.out; omega)
        have HNEW : Hid _ := hnew
        have HOK : Hid _ := hok5
        have HRR : Hid _ := hr
        clear hset hsd hnew hsm5 hhm5 hok5 hr L4 HMD4 HCD hsz4
        unfold encSt
        obtain ⟨ri, rk, re, rS, rH⟩ := r
        dsimp only at hee L5
        by_cases hre : re = 0
        · subst hre
          have hri : SRok M ⟨ri, rk, 0, rS, rH⟩ := HOK.out rfl
          have HRI : Hid _ := hri
          have had := adopt_calls (kc := kc) HAX.out L5.out.xb L5.out.th HLD.out.mod (HG.out.ty) HMD5.out HMB.out (fun k hk => by
            rcases (L5.out.t k hk).2 with e | e
            · have := HM.out.olt k e; have := L5.out.kp.size; omega
            · exact e.2)
          clear hri hee
          go_wp2_with fail
          refine had.mono ?_
          rintro en w6 ⟨rfl, k6, sv, fv, x6, os6, fl, of6, fl1, fl2⟩
          have L6 : Hid (Lz w w6 X O T5 ⟨.pointer (some ⟨mb, 0, none⟩), .pointer (some ⟨kc, 0, none⟩), sv, fv⟩ rS rH) := L5.out.to k6 (fun k _ e => by rw [e]; exact HO.out.xb) x6 (fun k hk => .inl hk) HHI.out L5.out.sm L5.out.hm
          have hs5 : w.heap.size ≤ w5.heap.size := L5.out.kp.size
          have hxlt : X.xb < w.heap.size := HM.out.olt _ HO.out.xb
          have HMP : Hid (Mp w6 w.heap.size ⟨M, fs, num⟩ ⟨.pointer (some ⟨mb, 0, none⟩), .pointer (some ⟨kc, 0, none⟩), sv, fv⟩ mb kc) :=
            ⟨rfl, rfl, ⟨HMBW.out, HKC.out⟩, HMD5.out.keep k6 (fun k e => by have := HMBW.out; omega), HCD5.out.keep k6 (fun k e => by have := HKC.out; omega), os6.low hs5, fl, of6.low hs5, fl1, fl2⟩
          have HS6 : Hid (w.heap.size ≤ w6.heap.size) := L6.out.kp.size
          obtain ⟨ga, xa, ea, da, c3, c4, c5, c6, c7, c8, c9, c10, c11, gat, xat, eat, dat⟩ := HMP.out.md.rest
          have hstr := HLD.out.mod.start
          unfold limR at hstr
          clear had k6 x6 os6 of6 fl1 fl2 L5 HMD5 HCD5 hs5 hxlt c3 c4 c5 c6 c7 c8 c10 c11 gat xat eat dat
          obtain ⟨stt, hst⟩ : ∃ stt, M.start = stt := ⟨_, rfl⟩
          rw [hst] at c9 hstr
          have HST : Hid _ := hst
          clear hst
          obtain ⟨n1, n2, n3, n4, n5⟩ := HNEW.out
          try dsimp only at n1 n2 n3 n4 n5
          have HSN : Hid (settleS M Sm.none (clearS st.H) = ⟨ri, rk, 0, rS, rH⟩) := by
            show settleS M Sm.none (clearS st.H) = ⟨ri, rk, 0, rS, rH⟩
            have n5' := n5 (by trivial)
            generalize settleS M Sm.none (clearS st.H) = q at *
            obtain ⟨q1, q2, q3, q4, q5⟩ := q
            try dsimp only at n1 n2 n3 n4 n5'
            rw [n1, n2, n3, n4, n5']
          clear n1 n2 n3 n4 n5 HNEW HOK HRR
          by_cases hs0 : stt < 0
          · have HR : Hid (LoadR num s 0 st.H ⟨((0 : Nat) : Int), 0, 0⟩ ⟨some ⟨⟨M, fs, num⟩, rS⟩, rH⟩) := by
              show LoadR _ _ _ _ _ _
              unfold LoadR
              rw [HL0.out]
              dsimp only
              rw [HSN.out]
              exact .inr (.inl ⟨rfl, by rw [HST.out]; exact hs0, rfl, rfl⟩)
            go_wp2_with fail
            refine bodyPost_ret (v := encLa ⟨((0 : Nat) : Int), 0, 0⟩) (by simp [results, Tryz.results13, go_sem, encLa]) rfl ?_
            exact ⟨_, _, HR.out, rfl, L6.out.mach HM.out (Nat.le_refl _) HS6.out HMP.out (Kp.refl _ _) HG.out (settle_env HLD.out HRI.out), L6.out.kp⟩
          · obtain ⟨f, rfl⟩ : ∃ f : Nat, stt = (f : Int) := ⟨stt.toNat, by omega⟩
            have hf0 : 0 ≤ M.start := by rw [HST.out]; omega
            obtain ⟨t, ht, htp, htq⟩ := start_ty HLD.out hf0
            have hff : M.start.toNat = f := by rw [HST.out]; omega
            rw [hff] at ht
            have henv := settle_env (num := num) HLD.out HRI.out
            have hwl : ([] : List Nat).length = t.p.size := by rw [htp]; rfl
            obtain ⟨R, hR⟩ := RunR.total HG.out.ok ht henv hwl 0
            obtain ⟨m, hgo⟩ := hR.goes HG.out.ok ht henv hwl
            have hfin := hR.fin HG.out.ok ht henv hwl
            obtain ⟨kk, hq⟩ := HMP.out.xq (T := T5) HNR.out HG.out HAX.out HHI.out HS6.out (fun k hk => ⟨L6.out.th k hk, by
              have := (L6.out.t k hk).2
              have h6 := HS6.out
              rcases this with e | e
              · have := HM.out.olt k e; omega
              · exact e.2⟩)
            obtain ⟨K, hK⟩ := L6.out.xb.kb
            have hz := L6.out.xb.xz (kk := kk) (lo := w.heap.size) (ws := []) rfl rfl hK (fun i v h => by simp at h)
            have hnf : fs.length ≤ 8 := by have := HG.out.ok.n; have := HLD.out.mod.nf; dsimp only at *; omega
            have hrun := run_calls (N := xN X ⟨.pointer (some ⟨mb, 0, none⟩), .pointer (some ⟨kc, 0, none⟩), sv, fv⟩ mb kc kk w.heap.size) (C := ⟨M, fs, num⟩) (T := T5) (R := R) (m := m) (fuel := 0) (f := f) (ws := []) (S := rS) (H := rH) (t := t) hq HG.out.len HG.out.ty hnf hz hgo (by omega) ht hwl henv
            change Calls Tryz.prog 42 #[.pointer (some ⟨X.xb, 0, none⟩), .int .i64 (f : Int), .int .i64 0, .int .i64 ((0 : Nat) : Int)] w6 _ at hrun
            have HR : Hid (LoadR num s 0 st.H ⟨(R.1 : Int), 0, (R.2.e : Int)⟩ (if R.2.e = 0 then ⟨some ⟨⟨M, fs, num⟩, R.2.S⟩, R.2.H⟩ else ⟨none, clearS R.2.H⟩)) := by
              show LoadR _ _ _ _ _ _
              unfold LoadR
              rw [HL0.out]
              dsimp only
              rw [HSN.out]
              exact .inr (.inr ⟨rfl, hf0, R, by rw [hff]; exact hR, rfl, rfl⟩)
            have HF : Hid _ := hfin
            clear ht htp htq hff henv hwl hR hgo hfin hq hK hf0 hz hnf
            go_wp2_with fail
            refine hrun.mono ?_
            rintro en w7 ⟨rfl, ws', fr, hd, hxr, _⟩
            obtain ⟨x7, _⟩ := xr_rest HAX.out L6.out.xb rfl rfl hxr
            have hfe := HF.out.e
            have L7 : Hid (Lz w w7 X O T5 _ R.2.S R.2.H) := L6.out.to hxr.kp (fun k _ e => by
              unfold Sx at e
              simp only [nX, xN] at e
              rcases e with rfl | rfl | rfl | rfl | rfl | rfl
              · exact HO.out.xb
              · exact HO.out.kb
              · exact HO.out.sb
              · exact HO.out.rb
              · exact HO.out.hb
              · exact HO.out.tb) x7 (fun k hk => .inl hk) HHI.out HF.out.env.sm HF.out.env.hm
            have HK7 : Hid (Kp (fun k => k < w.heap.size) w6 w7) := hxr.kp.mono (fun k e => by
              unfold Sx at e
              simp only [nX, xN] at e
              have := HM.out.olt
              rcases e with rfl | rfl | rfl | rfl | rfl | rfl
              · exact this _ HO.out.xb
              · exact this _ HO.out.kb
              · exact this _ HO.out.sb
              · exact this _ HO.out.rb
              · exact this _ HO.out.hb
              · exact this _ HO.out.tb)
            clear hrun hxr x7
            obtain ⟨R1, e7, out7, S7, H7⟩ := R
            dsimp only at hfe HR HF L7 ⊢
            by_cases he7 : e7 = 0
            · subst he7
              rw [if_pos rfl] at HR
              go_wp2_with fail
              refine bodyPost_ret (v := encLa ⟨(R1 : Int), 0, 0⟩) (by simp [results, Tryz.results13, go_sem, encLa]) rfl ?_
              exact ⟨_, _, HR.out, rfl, L7.out.mach HM.out (Nat.le_refl _) HS6.out HMP.out HK7.out HG.out HF.out.env.nil, L7.out.kp⟩
            · rw [if_neg he7] at HR
              have hen : ((e7 : Int) == 0) = false := by rw [beq_eq_false_iff_ne]; omega
              have hem := empty_calls HAX.out L7.out.xb L7.out.th HF.out.env.hm.bd.1
              go_wp2_with fail
              refine hem.mono ?_
              rintro en w8 ⟨rfl, k8, x8⟩
              have L8 : Hid (Lz w w8 X O T5 Vm.none S7 (clearS H7)) := L7.out.to k8 (fun k hk e => by
                rcases e with rfl | rfl | e
                · exact HO.out.xb
                · exact HO.out.hb
                · rcases (L7.out.t k e).2 with e | e
                  · exact e
                  · omega) x8 (fun k hk => .inl hk) HHI.out L7.out.sm (clearS_ok L7.out.hm)
              go_wp2_with fail
              refine bodyPost_ret (v := encLa ⟨(R1 : Int), 0, (e7 : Int)⟩) (by simp [results, Tryz.results13, go_sem, encLa]) rfl ?_
              exact ⟨_, _, HR.out, rfl, L8.out.mach0 HM.out, L8.out.kp⟩
        · have HR : Hid (LoadR num s 0 st.H ⟨(ri : Int), (rk : Int), (re : Int)⟩ ⟨none, clearS rH⟩) := by
            show LoadR _ _ _ _ _ _
            unfold LoadR
            rw [HL0.out]
            dsimp only
            obtain ⟨n1, n2, n3, n4, n5⟩ := HNEW.out
            try dsimp only at n1 n2 n3 n4
            exact .inl ⟨by rw [← n3]; exact hre, by rw [← n1, ← n2, ← n3], by rw [← n4]⟩
          have hcl := clear_calls L5.out.xb.hw L5.out.hm.bd.1
          have hen : ((re : Int) == 0) = false := by rw [beq_eq_false_iff_ne]; omega
          obtain ⟨c0, c1, c2, c3, c4⟩ := L5.out.xb.c04
          go_wp2_with fail
          refine hcl.mono ?_
          rintro en w6 ⟨rfl, k6, h6⟩
          have L6 : Hid (Lz w w6 X O T5 Vm.none rS (clearS rH)) := L5.out.to k6 (fun k hk e => by
            rcases e with rfl | e
            · exact HO.out.hb
            · rcases (L5.out.t k e).2 with e | e
              · exact e
              · omega) (L5.out.xb.host HAX.out L5.out.th (k6.mono (fun k e => by
                rcases e with e | e
                · exact .inl e
                · exact .inr (.inr e))) h6) (fun k hk => .inl hk) HHI.out L5.out.sm (clearS_ok L5.out.hm)
          clear hcl k6 h6 c0 c1 c2 c3 c4
          go_wp2_with fail
          refine bodyPost_ret (v := encLa ⟨(ri : Int), (rk : Int), (re : Int)⟩) (by simp [results, Tryz.results13, go_sem, encLa]) rfl ?_
          exact ⟨_, _, HR.out, rfl, L6.out.mach0 HM.out, L6.out.kp⟩
    · have HR : Hid (LoadR num s 0 st.H ⟨vi, (vp : Int), ve⟩ ⟨none, clearS st.H⟩) := by
        show LoadR _ _ _ _ _ _
        unfold LoadR load0
        rw [HDX.out]
        dsimp only
        rw [hvx, if_neg hve]
        exact ⟨rfl, rfl⟩
      have hvn : (ve == 0) = false := by rw [beq_eq_false_iff_ne]; exact hve
      clear hvx
      go_wp2_with fail
      refine bodyPost_ret (v := encLa ⟨vi, (vp : Int), ve⟩) (by simp [results, Tryz.results13, go_sem, encLa]) rfl ?_
      exact ⟨_, _, HR.out, rfl, L3.out.mach0 HM.out, L3.out.kp⟩
theorem xload_calls (hNr : NumR num) (hNo : NumOk num) (h : Mach num w X O st) (s : ByteArray) (A : Int) (hA64 : A < 9223372036854775808) :
    Calls Tryz.prog 13 #[.pointer (some ⟨X.xb, 0, none⟩), .string s, .int .i64 A] w (LoadQ num w X O st s A.toNat) := by
  by_cases h0 : A < 0
  · have : A.toNat = 0 := by omega
    rw [this]
    exact load_neg hNr hNo h s A h0
  · obtain ⟨n, rfl⟩ : ∃ n : Nat, A = (n : Int) := ⟨A.toNat, by omega⟩
    exact load_pos hNr hNo h s n (by omega)
end
end Go.Proofs.Qxb6500275aGreatDoor
