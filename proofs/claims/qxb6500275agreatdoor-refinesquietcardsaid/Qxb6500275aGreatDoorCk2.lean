import Derived.Test.Qxb6500275aGreatDoorCk1
import Derived.Deep.QuietTactic
import Derived.BigQuiet
set_option maxRecDepth 100000
set_option linter.unusedVariables false
set_option linter.unusedSimpArgs false
namespace Go.Proofs.Qxb6500275aGreatDoor
open Go Go.RowKit
section
variable {num : NumF} {w w' : World} {X : Mx} {O : Nat → Prop} {st : Ma} {T : Nat → Prop} {V : Vm} {S : Sm} {H : Hm}
theorem Xb.c9 (h : Xb w X T V S H) : w.cell? ⟨X.xb, 5, none⟩ = some V.v5 ∧ w.cell? ⟨X.xb, 6, none⟩ = some V.v6 ∧ w.cell? ⟨X.xb, 7, none⟩ = some V.v7 ∧ w.cell? ⟨X.xb, 8, none⟩ = some V.v8 ∧ w.cell? ⟨X.xb, 9, none⟩ = some (.slice (some ⟨X.kb, 0, none⟩) 120 120) := by
  obtain ⟨F, x1, x2⟩ := h.x
  exact ⟨by rw [x1.cell (by decide), x2.f5], by rw [x1.cell (by decide), x2.f6], by rw [x1.cell (by decide), x2.f7], by rw [x1.cell (by decide), x2.f8], by rw [x1.cell (by decide), x2.f9]⟩
theorem eq66 (W : World) : (binOp .eql 66 (.slice none 0 0) (.slice none 0 0)).run Tryz.prog W = .ok (.bool true) W := by kernel_rfl
theorem typeAt_in {M : Mod} {z : Int} {t : Ty} (h : M.typeAt z = some t) : ∃ tn : Nat, z = (tn : Int) ∧ M.types[tn]? = some t := by
  unfold Mod.typeAt at h
  rcases iteC h with ⟨_, h⟩ | ⟨h1, h⟩
  · simp at h
  · exact ⟨z.toNat, by omega, h⟩
theorem eq90s (p0 p1 p2 p3 p4 p5 : Int) (w : World) : (Op.equalIn 10000 90 (.agg #[.int .u8 p0, .int .u8 p1, .int .u8 p2, .int .u8 p3, .int .u8 p4, .int .u8 p5]) (.agg #[.int .u8 p0, .int .u8 p1, .int .u8 p2, .int .u8 p3, .int .u8 p4, .int .u8 p5])).run Tryz.prog w = .ok true w := by
  rw [eq90]
  simp
structure Row6 (w : World) (b o : Nat) (y : Ty) : Prop where
  p0 : w.cell? ⟨b, o, none⟩ = some (.int .u8 (y.p.size : Int))
  p1 : w.cell? ⟨b, o + 1, none⟩ = some (.int .u8 (pAt y.p 0 : Int))
  p2 : w.cell? ⟨b, o + 2, none⟩ = some (.int .u8 (pAt y.p 1 : Int))
  p3 : w.cell? ⟨b, o + 3, none⟩ = some (.int .u8 (pAt y.p 2 : Int))
  p4 : w.cell? ⟨b, o + 4, none⟩ = some (.int .u8 (pAt y.p 3 : Int))
  p5 : w.cell? ⟨b, o + 5, none⟩ = some (.int .u8 (resT y : Int))
theorem Ow.row {lo : Nat} {v : Value} {gs : List Ty} {a : Option Addr} {n cap i : Nat} {y : Ty} (h : Ow w lo v gs) (hv : v = .slice a n cap) (hi : gs[i]? = some y) : ∃ b, a = some ⟨b, 0, none⟩ ∧ Row6 w b (i * 6) y := by
  obtain ⟨b, cap', e, _, hc⟩ := h.at_ hi
  rw [hv] at e
  simp at e
  exact ⟨b, e.1, hc 0 _ rfl, hc 1 _ rfl, hc 2 _ rfl, hc 3 _ rfl, hc 4 _ rfl, hc 5 _ rfl⟩
set_option maxHeartbeats 16000000 in
theorem xcheck_calls (hkn : Kn w) (h : Mach num w X O st) : Calls Tryz.prog 29 #[.pointer (some ⟨X.xb, 0, none⟩)] w (fun en w' => en = .returned (.bool true) ∧ Kp (fun _ => False) w w') := by
  obtain ⟨T, V, S, hx, hT, hS, hno, hyes⟩ := h.is
  obtain ⟨-, -, -, -, c9⟩ := hx.c9
  have hlow := lower_calls hkn h.ax hx hS h.good.hm
  have HX : Hid _ := hx
  have HA : Hid _ := h.ax
  obtain ⟨sm, hsm⟩ : ∃ sm, st.m = sm := ⟨_, rfl⟩
  rw [hsm] at hno hyes
  have HG : Hid (∀ x, sm = some x → GoodC num x.C) := fun x e => (h.good.md x (by rw [hsm, e])).1
  have HHI : Hid _ := h.hi
  clear hx hT hS h hkn hsm
  go_enter Tryz.func29, Tryz.ntmps29
  go_wp2_with fail
  refine hlow.mono ?_
  rintro en w1 ⟨rfl, k1⟩
  have HK1 : Hid (Kp (fun _ => False) w w1) := k1
  have HX1 : Hid (Xb w1 X T V S st.H) := HX.out.qt HA.out k1
  clear hlow c9
  cases sm with
  | none =>
    obtain ⟨c5, c6, c7, c8, -⟩ := HX1.out.c9
    rw [hno rfl] at c5 c6 c7 c8
    unfold Vm.none at c5 c6 c7 c8
    dsimp only at c5 c6 c7 c8
    clear hno hyes k1
    have e66 := eq66
    go_wp2_with fail
    refine bodyPost_ret (v := .bool true) (by simp [results, Tryz.results29, go_sem]) rfl ?_
    exact ⟨rfl, HK1.out⟩
  | some x =>
    obtain ⟨hSx, w0, lo, mb, kc, hlo, hlw, hmp, hk0, hown⟩ := hyes x rfl
    have hgc := HG.out x rfl
    have hmp1 : Mp w1 lo x.C V mb kc := hmp.keep (hk0.trans (k1.mono (fun _ h => h.elim))) (fun k e => e)
    obtain ⟨c5, c6, c7, c8, -⟩ := HX1.out.c9
    rw [hmp1.v5] at c5
    rw [hmp1.v6] at c6
    have HMP : Hid (Mp w1 lo x.C V mb kc) := hmp1
    have HGC : Hid _ := hgc
    obtain ⟨ta, ia, fa, m0, m1, m2, tat, iat, fat⟩ := hmp1.md.lists
    obtain ⟨fv, d1, d2⟩ := hmp1.cd.is
    obtain ⟨da, e, dat⟩ := d2.at_
    obtain ⟨sa, scap, hsv⟩ := hmp1.sv.slice
    obtain ⟨fl, fow, fl1, fl2⟩ := hmp1.fv
    obtain ⟨fsa, fscap, hfv⟩ := fow.slice
    rw [e] at d1
    rw [hsv] at c7
    rw [hfv, fl1] at c8
    have hn := hgc.ok.n
    have hM := hgc.ok.mod
    obtain ⟨nt, hnt⟩ : ∃ n, x.C.M.types.length = n := ⟨_, rfl⟩
    obtain ⟨ni, hni⟩ : ∃ n, x.C.M.imports.length = n := ⟨_, rfl⟩
    obtain ⟨nf, hnf⟩ : ∃ n, x.C.M.funcs.length = n := ⟨_, rfl⟩
    rw [hnf] at hn
    rw [hn] at d1
    rw [hnt] at m0 c7
    rw [hni] at m1
    rw [hnf] at m2
    rw [hni, hnf] at c8
    have hni4 : ni ≤ 4 := by rw [← hni]; exact hM.ni
    have hnf8 : nf ≤ 8 := by rw [← hnf]; exact hM.nf
    have HNT : Hid _ := hnt
    have HNI : Hid _ := hni
    have HNF : Hid _ := hnf
    have HNN : Hid _ := hn
    have HFL : Hid _ := fl2
    have HFO : Hid (Ow w1 lo V.v8 fl) := fow
    have HFV : Hid _ := hfv
    have HSV : Hid _ := hsv
    have HFL1 : Hid (fl.length = ni + nf) := by
      show fl.length = ni + nf
      rw [fl1, hni, hnf]
    obtain ⟨nn, hnne⟩ : ∃ nn, ni + nf = nn := ⟨_, rfl⟩
    rw [hnne] at c8
    have HNE : Hid _ := hnne
    have hnn12 : nn ≤ 12 := by omega
    have hsum : (ni : Int) + (nf : Int) = (nn : Int) := by omega
    clear hno hyes hmp hk0 hown hgc hmp1 tat iat fat d2 e dat fow fl1 fl2 hn hM hnt hni hnf hfv hsv HX hlo hlw hSx k1 hnne
    go_wp2_with fail
    go_quiet (fail)
    go_wp2_with fail
    go_quiet (fail)
    go_wp2_with fail
    have HK2 : Hid (Kp (fun _ => False) w1 w1) := Kp.refl _ _
    refine absW (fun W => Kp (fun _ => False) w1 W) ⟨rfl, rfl, rfl, Nat.le_refl _, fun _ _ _ => rfl⟩ ?_
    intro W2 hW2
    have HW2 : Hid (Kp (fun _ => False) w1 W2) := hW2
    clear hW2 HK2 c5 c6 c7 c8 m0 m1 m2 d1
    go_loopw [5] (fun ii u1 => ∃ (i : Nat), i ≤ nn ∧ ii = .int .i64 i ∧ Hid (Kp (fun _ => False) w1 u1)) (fun ii _ => nn + 1 - (intOf ii).toNat)
    case atStart => exact ⟨0, by omega, rfl, HW2⟩
    case round =>
      clear HW2
      obtain ⟨i, hi, rfl, HK⟩ := hrel
      have hxr := HX1.out.qt HA.out HK.out
      have hmr := HMP.out.keep HK.out (fun _ h => h.elim)
      obtain ⟨c5, c6, c7, c8, -⟩ := hxr.c9
      rw [HMP.out.v5] at c5
      rw [HMP.out.v6] at c6
      rw [HSV.out, HNT.out] at c7
      rw [HFV.out, HFL1.out, HNE.out] at c8
      obtain ⟨ta, ia, fa, m0, m1, m2, tat, iat, fat⟩ := hmr.md.lists
      rw [HNI.out] at m1
      rw [HNF.out] at m2
      have hfor := HFO.out.keep HK.out (fun _ _ _ h => h)
      by_cases hlt : i < nn
      · obtain ⟨y, hty⟩ := HGC.out.ty i (by rw [HNI.out, HNF.out]; have := HNE.out; omega)
        have hyo := typeOf_ok HGC.out.ok.mod hty
        obtain ⟨fb, hfb, fr⟩ := hfor.row HFV.out (HFL.out i y hty)
        subst hfb
        have hib : (i : Int) < (nn : Int) := by omega
        have heq := eq90s (y.p.size : Int) (pAt y.p 0 : Int) (pAt y.p 1 : Int) (pAt y.p 2 : Int) (pAt y.p 3 : Int) (resT y : Int)
        obtain ⟨f0, f1, f2, f3, f4, f5⟩ := fr
        by_cases him : i < ni
        · obtain ⟨z, hz⟩ : ∃ z, x.C.M.imports[i]? = some z := ⟨_, List.getElem?_eq_getElem (by rw [HNI.out]; exact him)⟩
          obtain ⟨k, rfl, ct⟩ := iat i z hz
          have htz : x.C.M.typeAt z.ty = some y := by
            unfold Mod.typeOf at hty
            rw [Mod.tyIdx_imp hz] at hty
            exact hty
          obtain ⟨tn, htn, hyt⟩ := typeAt_in htz
          rw [htn] at ct
          obtain ⟨sb', hsb, sr⟩ := hmr.sv.row HSV.out hyt
          subst hsb
          obtain ⟨s0, s1, s2, s3, s4, s5⟩ := sr
          have htl : tn < nt := by rw [← HNT.out]; exact (List.getElem?_eq_some_iff.1 hyt).1
          have htb : (tn : Int) < (nt : Int) := by omega
          have him' : (i : Int) < (ni : Int) := by omega
          have htg : ¬ ((nt : Int) ≤ (tn : Int)) := by omega
          clear hz htz htn hyt hty hyo tat iat fat hmr hxr hfor m0 m2
          go_wp2_with fail
          go_quiet (fail)
          go_wp2_with fail
          go_roundw
          case rel => exact ⟨i + 1, by omega, by go_num, HK.out.trans ⟨rfl, rfl, rfl, Nat.le_refl _, fun _ _ _ => rfl⟩⟩
          case measure => simp [intOf]; omega
        · obtain ⟨j, hj⟩ : ∃ j, i = ni + j := ⟨i - ni, by omega⟩
          have hjn : j < nf := by have := HNE.out; omega
          obtain ⟨z, hz⟩ : ∃ z, x.C.M.funcs[j]? = some z := ⟨_, List.getElem?_eq_getElem (by rw [HNF.out]; exact hjn)⟩
          obtain ⟨k, rfl, ct⟩ := fat j z hz
          have htz : x.C.M.typeAt z.ty = some y := by
            unfold Mod.typeOf at hty
            rw [hj, ← HNI.out, tyIdx_own hz] at hty
            exact hty
          obtain ⟨tn, htn, hyt⟩ := typeAt_in htz
          rw [htn] at ct
          obtain ⟨sb', hsb, sr⟩ := hmr.sv.row HSV.out hyt
          subst hsb
          obtain ⟨s0, s1, s2, s3, s4, s5⟩ := sr
          have htl : tn < nt := by rw [← HNT.out]; exact (List.getElem?_eq_some_iff.1 hyt).1
          have htb : (tn : Int) < (nt : Int) := by omega
          have him' : ¬ ((i : Int) < (ni : Int)) := by omega
          have htg : ¬ ((nt : Int) ≤ (tn : Int)) := by omega
          have hij : (i : Int) - (ni : Int) = (j : Int) := by omega
          have hjb : (j : Int) < (nf : Int) := by omega
          clear hz htz htn hyt hty hyo tat iat fat hmr hxr hfor m0 m1 hj
          go_wp2_with fail
          go_quiet (fail)
          go_wp2_with fail
          go_roundw
          case rel => exact ⟨i + 1, by omega, by go_num, HK.out.trans ⟨rfl, rfl, rfl, Nat.le_refl _, fun _ _ _ => rfl⟩⟩
          case measure => simp [intOf]; omega
      · have hie : nn = i := by omega
        subst hie
        clear tat iat fat hmr hxr hfor m0 m1 m2
        go_wp2_with fail
        have HW2 : Hid _ := HK.out
        clear HK c5 c6 c7 c8
        go_loopw [7] (fun ii u1 => ∃ (k : Nat), k ≤ nf ∧ ii = .int .i64 k ∧ Hid (Kp (fun _ => False) w1 u1)) (fun ii _ => nf + 1 - (intOf ii).toNat)
        case atStart => exact ⟨0, by omega, rfl, HW2⟩
        case round =>
          clear HW2
          obtain ⟨k, hk, rfl, HK⟩ := hrel
          have hxr := HX1.out.qt HA.out HK.out
          have hmr := HMP.out.keep HK.out (fun _ h => h.elim)
          obtain ⟨c5, c6, c7, c8, -⟩ := hxr.c9
          rw [HMP.out.v6] at c6
          rw [HFV.out, HFL1.out, HNE.out] at c8
          obtain ⟨v, d1, d2⟩ := hmr.cd.is
          obtain ⟨da, e, dat⟩ := d2.at_
          rw [e, HNN.out] at d1
          have hfor := HFO.out.keep HK.out (fun _ _ _ h => h)
          by_cases hlt : k < nf
          · obtain ⟨ff, hff⟩ : ∃ ff, x.C.fs[k]? = some ff := ⟨_, List.getElem?_eq_getElem (by rw [HNN.out]; exact hlt)⟩
            obtain ⟨kk, f, rfl, _, fc, ⟨g0, g1, g2⟩, g3⟩ := dat k ff hff
            obtain ⟨hFT, _⟩ := HGC.out.ok.f k ff hff
            obtain ⟨y, hty, hp, hr⟩ := hFT.ty
            obtain ⟨l1, l2, l3, l4⟩ := hFT.le
            have hyo := typeOf_ok HGC.out.ok.mod hty
            have hpos := cells_pos HGC.out.ok hff
            obtain ⟨cc, hcc⟩ := HGC.out.last k ff hff (fun e => by rw [e] at hpos; simp at hpos)
            rw [HNI.out] at hty
            obtain ⟨fb, hfb, fr⟩ := hfor.row HFV.out (HFL.out (ni + k) y hty)
            subst hfb
            obtain ⟨f0, f1, f2, f3, f4, f5⟩ := fr
            have z0 := fc 0 (by decide)
            rw [Nat.add_zero, g0] at z0
            have z1 := fc 1 (by decide)
            rw [g1] at z1
            have z2 := fc 2 (by decide)
            rw [g2] at z2
            have z3 := fc 3 (by decide)
            obtain ⟨ca, h1, h2⟩ := Ls.at_ g3
            have hcl : ff.cells.length = cc.length + 1 := by rw [hcc]; simp
            obtain ⟨ci, fi, h3, _, h4, h5, h6, h7⟩ := h2 cc.length ⟨11, 0, 0⟩ (by rw [hcc, List.getElem?_append_right (Nat.le_refl _)]; simp)
            rw [h1, h3, hcl] at z3
            have zl := h4 0 (by decide)
            rw [Nat.add_zero, h5] at zl
            dsimp only at zl
            obtain ⟨np, hnp⟩ : ∃ n, ff.params = n := ⟨_, rfl⟩
            obtain ⟨nl, hnl⟩ : ∃ n, ff.locals = n := ⟨_, rfl⟩
            obtain ⟨nr, hnr⟩ : ∃ n, ff.results = n := ⟨_, rfl⟩
            obtain ⟨nc, hnc⟩ : ∃ n, cc.length = n := ⟨_, rfl⟩
            rw [hnp] at z0 hp l1 l3
            rw [hnl] at z1 l1 l2
            rw [hnr] at z2 hr l4
            rw [hnc] at z3 zl
            have hlen : nc ≤ 1000 := by have := HGC.out.len k ff hff; omega
            rw [← hp] at f0
            have q1 : decide ((np : Int) < 0) = false := decide_eq_false (by omega)
            have q2 : decide ((4 : Int) < (np : Int)) = false := decide_eq_false (by omega)
            have q3 : decide ((nl : Int) < (np : Int)) = false := decide_eq_false (by omega)
            have q4 : decide ((10 : Int) < (nl : Int)) = false := decide_eq_false (by omega)
            have q3' : decide (nl < np) = false := decide_eq_false (by omega)
            have q5 : ¬ ((nr : Int) < 0) := by omega
            have q6 : ¬ ((1 : Int) < (nr : Int)) := by omega
            have q7 : ¬ (((nc + 1 : Nat) : Int) < 1) := by omega
            have q8 : ((nc + 1 : Nat) : Int) - 1 = (nc : Int) := by omega
            have q9 : (nc : Int) < ((nc + 1 : Nat) : Int) := by omega
            have hkb : (k : Int) < (nf : Int) := by omega
            have hnk : (ni : Int) + (k : Int) = ((ni + k : Nat) : Int) := by omega
            obtain ⟨nk, hnke⟩ : ∃ nk, ni + k = nk := ⟨_, rfl⟩
            rw [hnke] at hnk f0 f1 f2 f3 f4 f5
            have hnkb : (nk : Int) < (nn : Int) := by have := HNE.out; omega
            have hwp : IntKind.i64.wrap (np : Int) = (np : Int) := iwr (by omega) (by omega)
            have hres := resT_0 hyo
            have hqn := hyo.nq
            obtain ⟨rt, hrt⟩ : ∃ n, resT y = n := ⟨_, rfl⟩
            rw [hrt] at f5 hres
            have hq : (nr = 0 ∧ rt = 0) ∨ (nr = 1 ∧ rt ≠ 0) := by
              by_cases e0 : y.q.size = 0
              · exact .inl ⟨by omega, hres.2 e0⟩
              · exact .inr ⟨by omega, fun e => e0 (hres.1 e)⟩
            clear hff fc g0 g1 g2 g3 dat d2 e hFT hty hp hr hyo hpos hcc h1 h2 h3 h4 h5 h6 h7 hcl hnp hnl hnr hnc hres hqn hrt hnke hmr hxr hfor l1 l2 l3 l4
            rcases hq with ⟨rfl, rfl⟩ | ⟨rfl, hrn⟩
            · go_wp2_with fail
              go_quiet (fail)
              go_wp2_with fail
              go_quiet (fail)
              go_wp2_with fail
              go_quiet (fail)
              go_wp2_with fail
              go_roundw
              case rel => exact ⟨k + 1, by omega, by go_num, HK.out.trans ⟨rfl, rfl, rfl, Nat.le_refl _, fun _ _ _ => rfl⟩⟩
              case measure => simp [intOf]; omega
            · have hrb : ((rt : Int) != 0) = true := by rw [bne_iff_ne]; omega
              have hrb2 : ((rt : Int) == 0) = false := by rw [beq_eq_false_iff_ne]; omega
              have hrb3 : ¬ ((rt : Int) = 0) := by omega
              go_wp2_with fail
              go_quiet (fail)
              go_wp2_with fail
              go_quiet (fail)
              go_wp2_with fail
              go_quiet (fail)
              go_wp2_with fail
              go_roundw
              case rel => exact ⟨k + 1, by omega, by go_num, HK.out.trans ⟨rfl, rfl, rfl, Nat.le_refl _, fun _ _ _ => rfl⟩⟩
              case measure => simp [intOf]; omega
          · have hie : nf = k := by omega
            subst hie
            clear dat d2 e hmr hxr hfor
            go_wp2_with fail
            refine bodyPost_ret (v := .bool true) (by simp [results, Tryz.results29, go_sem]) rfl ?_
            exact ⟨rfl, HK1.out.trans HK.out⟩
end
end Go.Proofs.Qxb6500275aGreatDoor
