import Derived.Test.Qxb6500275aGreatDoorXz3
import Derived.Deep.RegionWith
import Derived.Deep.RegionHeld3
import Derived.StillTailTactics
import Derived.Deep.QuietTactic
import Derived.BigQuiet
set_option maxRecDepth 1000000
set_option linter.unusedVariables false
set_option linter.unusedSimpArgs false
namespace Go.Proofs.Qxb6500275aGreatDoor
open Go Go.RowKit
def OnlyN (Good : Act → World → Prop) : Exit → Act → World → Prop
  | .normal, a, w => Good a w
  | _, _, _ => False
theorem region_cut {P : Program} {c : Code} {QQ : Exit → Act → World → Prop} {a : Act} {w : World} (Good : Act → World → Prop) (walk : c.wp P (OnlyN Good) a w) (key : ∀ a' w', Good a' w' → QQ .normal a' w') : c.wp P QQ a w :=
  Code.wp_mono (fun e a' w' h => by cases e <;> first | exact key a' w' h | exact (h : False).elim) walk
/- behind the host's call -/
structure Im (w7 w8 : World) (N : Xn) (T : Nat → Prop) (u u9 : Nat → Value) (sp fuel np rv re d : Nat) (rH : Hm) : Prop where
  h2 : u9 2 = .int .i64 (sp : Int)
  h3 : u9 3 = .int .i64 (fuel : Int)
  h12 : u9 12 = u 12
  h13 : u9 13 = u 13
  h17 : u9 17 = .int .u64 (rv : Int)
  h18 : u9 18 = .int .i64 (re : Int)
  h19 : u9 19 = u 19
  h20 : u9 20 = u 20
  h21 : u9 21 = u 21
  h22 : u9 22 = .int .i64 ((d : Int) - 1)
  h23 : u9 23 = .int .i64 (np : Int)
  kp : Kp (fun k => k = N.hb ∨ k = N.tb) w7 w8
  hw : Hw w8 N.hb N.bb N.tb T rH
def ImG (w7 : World) (N : Xn) (C : XC) (T : Nat → Prop) (u : Nat → Value) (sp fuel np rv re d : Nat) (rH : Hm) (a : Act) (w8 : World) : Prop := ∃ u9, a = ⟨fx N C u9, []⟩ ∧ Im w7 w8 N T u u9 sp fuel np rv re d rH
theorem im_of {w7 w8 : World} {N : Xn} {C : XC} {T : Nat → Prop} {u : Nat → Value} {sp fuel np rv re d : Nat} {rH : Hm} {A : Act} (heq : A = ⟨fx N C (fun i => A.tmps.getD i undef), []⟩) (h2 : A.tmps.getD 2 undef = .int .i64 (sp : Int)) (h3 : A.tmps.getD 3 undef = .int .i64 (fuel : Int)) (h12 : A.tmps.getD 12 undef = u 12) (h13 : A.tmps.getD 13 undef = u 13) (h17 : A.tmps.getD 17 undef = .int .u64 (rv : Int)) (h18 : A.tmps.getD 18 undef = .int .i64 (re : Int)) (h19 : A.tmps.getD 19 undef = u 19) (h20 : A.tmps.getD 20 undef = u 20) (h21 : A.tmps.getD 21 undef = u 21) (h22 : A.tmps.getD 22 undef = .int .i64 ((d : Int) - 1)) (h23 : A.tmps.getD 23 undef = .int .i64 (np : Int)) (kp : Kp (fun k => k = N.hb ∨ k = N.tb) w7 w8) (hw : Hw w8 N.hb N.bb N.tb T rH) : ImG w7 N C T u sp fuel np rv re d rH A w8 :=
  ⟨_, heq, h2, h3, h12, h13, h17, h18, h19, h20, h21, h22, h23, kp, hw⟩
theorem wrapx {b : Nat} (h : b < 120) : wrap64 (b : Int) = (b : Int) := by unfold wrap64; omega
theorem gb_apart {w0 : World} {N : Xn} {C : XC} {T : Nat → Prop} (hq : Xq w0 N C T) : ¬ (N.gb = N.hb ∨ N.gb = N.tb) := by
  have h1 := hq.fix (k := N.hb) (.inl (.inr (.inr (.inr (.inr (.inl rfl))))))
  have h2 := hq.fix (k := N.tb) (.inl (.inr (.inr (.inr (.inr (.inr rfl))))))
  have h3 := hq.lo
  have h4 := hq.new
  omega
theorem lenx (l : List Fr) : ¬ ((l.length : Int) < 0) := by omega
set_option maxHeartbeats 8000000 in
theorem p42_imp {w0 w : World} {N : Xn} {C : XC} {T : Nat → Prop} {u : Nat → Value} {fuel f : Nat} {t : Ty} {ws : List Nat} {cur : List Fr} {S : Sm} {H : Hm} {r : Nat × Nat × Hm} {Q : Exit → Act → World → Prop} (hq : Xq w0 N C T) (he : En42 w0 w N C T u fuel ws cur f S H) (hd6 : cur.length ≤ 6)
    (hfn : f < C.M.imports.length) (hni : C.M.imports.length ≤ 4) (hty : C.M.typeOf (f : Int) = some t) (htk : TyOk t) (hpw : t.p.size ≤ ws.length) (h120 : ws.length ≤ 120) (hroom : r.2.1 = 0 → resT t ≠ 0 → ws.length - t.p.size < 120) (henv : Env C ws S H)
    (hr : callH H f (ws.drop (ws.length - t.p.size)) (resT t) (S.bs.length / 64) = r)
    (hQ0 : ∀ tmps w', r.2.1 ≠ 0 → tmps.getD 8 undef = .int .i64 (fuel : Int) → tmps.getD 9 undef = .int .i64 (r.2.1 : Int) → (∃ ws' fr' hd', Xr w0 w' N T ws' fr' hd' S r.2.2) → Q .ret ⟨tmps, []⟩ w')
    (hQ1 : ∀ tmps w', cur = [] → r.2.1 = 0 → tmps.getD 8 undef = .int .i64 (fuel : Int) → tmps.getD 9 undef = .int .i64 0 → Xr w0 w' N T (ws.take (ws.length - t.p.size) ++ (if resT t = 0 then [] else [r.1])) [] none S r.2.2 → Q .ret ⟨tmps, []⟩ w')
    (hQ : ∀ tmps w' c cs ff ci, cur = c :: cs → r.2.1 = 0 → C.fs[c.fn]? = some ff → Mid w0 w' N C T tmps fuel (ws.take (ws.length - t.p.size) ++ (if resT t = 0 then [] else [r.1])) cs c.fn c.base S r.2.2 ff ci → tmps.getD 19 undef = .int .i64 (c.pc : Int) → Q (.goto 1) ⟨tmps, []⟩ w') :
    Code.wp Tryz.prog (labR Tryz.f42.body 0) Q ⟨fx N C u, []⟩ w := by
  obtain ⟨u1, u2, u3, u22, hx⟩ := he
  obtain ⟨fr0, hd0, hxr, hxx⟩ : ∃ fr0 hd0, Xr w0 w N T ws fr0 hd0 S H ∧ ((cur = [] ∧ fr0 = [] ∧ hd0 = none) ∨ ∃ c cs ff ci, cur = c :: cs ∧ u 19 = .int .i64 c.pc ∧ fr0 = cs ∧ hd0 = some (c.fn, c.base) ∧ Hf w0 N C u fuel ws.length c.base c.fn cs.length ff ci ∧ C.fs[c.fn]? = some ff) := by
    rcases hx with ⟨h1, h2⟩ | ⟨c, cs, ff, ci, h1, h2, h3, h4, h5⟩
    · exact ⟨_, _, h2, .inl ⟨h1, rfl, rfl⟩⟩
    · exact ⟨_, _, h3, .inr ⟨c, cs, ff, ci, h1, h2, rfl, rfl, h4, h5⟩⟩
  clear hx
  obtain ⟨sp, hsp⟩ : ∃ sp, ws.length = sp := ⟨_, rfl⟩
  obtain ⟨d, hd⟩ : ∃ d, cur.length = d := ⟨_, rfl⟩
  obtain ⟨np, hnp⟩ : ∃ np, t.p.size = np := ⟨_, rfl⟩
  obtain ⟨rt, hrt⟩ : ∃ rt, resT t = rt := ⟨_, rfl⟩
  have hrt256 : rt < 256 := by rw [← hrt]; exact resT_r htk
  have hnp4 : np ≤ 4 := by rw [← hnp]; exact htk.np
  obtain ⟨ap1, ap2, ap3, ap4, ap5, ap6, ap7⟩ := hq.ap
  obtain ⟨sa, scap, hfv, hsg⟩ := (hxr.kx hq).fg
  have hfn2 : f < C.M.imports.length + C.M.funcs.length := by omega
  obtain ⟨gk, hsa, hglo, hgc⟩ := hsg f (packS t) hfn2 ⟨t, hty, rfl⟩
  have hgg : gk ≠ N.gb := by
    obtain ⟨sa2, scap2, hfv2, hsg2⟩ := hq.kx.fg
    obtain ⟨gk2, hsa2, _, hgc2⟩ := hsg2 f (packS t) hfn2 ⟨t, hty, rfl⟩
    rw [hfv, hsa, hsa2] at hfv2
    simp at hfv2
    have h1 := lt_of_cell (hgc2 0 _ rfl)
    have h2 := hq.new
    dsimp only at h1
    omega
  obtain ⟨ng, hng⟩ : ∃ ng, C.M.imports.length + C.M.funcs.length = ng := ⟨_, rfl⟩
  rw [hng] at hfv hfn2
  rw [hsa] at hfv
  have q0 := hgc 0 np (by rw [← hnp]; rfl)
  have q1 := hgc 1 _ rfl
  have q2 := hgc 2 _ rfl
  have q3 := hgc 3 _ rfl
  have q4 := hgc 4 _ rfl
  have q5 := hgc 5 rt (by rw [← hrt]; rfl)
  simp only [Nat.add_zero] at q0
  generalize pAt t.p 0 = y1 at q1
  generalize pAt t.p 1 = y2 at q2
  generalize pAt t.p 2 = y3 at q3
  generalize pAt t.p 3 = y4 at q4
  have c8 := hxr.c.c8
  have c3 := hxr.c.c3
  have c4 := hxr.c.c4
  rw [hfv] at c8
  obtain ⟨Dg, dg⟩ := hxr.gb
  have hB6 := (((((dg.set (i := 0) (by decide) (.int .u8 (np : Int))).set (i := 1) (by decide) (.int .u8 (y1 : Int))).set (i := 2) (by decide) (.int .u8 (y2 : Int))).set (i := 3) (by decide) (.int .u8 (y3 : Int))).set (i := 4) (by decide) (.int .u8 (y4 : Int))).set (i := 5) (by decide) (.int .u8 (rt : Int))
  have z0 := hB6.cell (i := 0) (by decide)
  have z5 := hB6.cell (i := 5) (by decide)
  simp [upd] at z0 z5
  have hX6 := (((((hxr.gset hq (i := 0) (by decide) (.int .u8 (np : Int))).gset hq (i := 1) (by decide) (.int .u8 (y1 : Int))).gset hq (i := 2) (by decide) (.int .u8 (y2 : Int))).gset hq (i := 3) (by decide) (.int .u8 (y3 : Int))).gset hq (i := 4) (by decide) (.int .u8 (y4 : Int))).gset hq (i := 5) (by decide) (.int .u8 (rt : Int))
  have HX6 : Hid _ := hX6
  have HZ0 : Hid _ := z0
  have HZ5 : Hid _ := z5
  obtain ⟨⟨v0, b0⟩, g0⟩ := hxr.gbz 0 (by decide)
  obtain ⟨⟨v1, b1⟩, g1⟩ := hxr.gbz 1 (by decide)
  obtain ⟨⟨v2, b2⟩, g2⟩ := hxr.gbz 2 (by decide)
  obtain ⟨⟨v3, b3⟩, g3⟩ := hxr.gbz 3 (by decide)
  obtain ⟨⟨v4, b4⟩, g4⟩ := hxr.gbz 4 (by decide)
  obtain ⟨⟨v5, b5⟩, g5⟩ := hxr.gbz 5 (by decide)
  rw [hsp] at u2 h120 hpw hroom
  rw [hd] at u22 hd6
  rw [hnp] at hpw hroom
  rw [hrt] at hroom
  have lt1 : (f : Int) < (C.M.imports.length : Int) := by omega
  have lt2 : (f : Int) < (ng : Int) := by omega
  have HQ0 : Hid _ := hQ0
  have HQ1 : Hid _ := hQ1
  have HQ : Hid _ := hQ
  have HQQ : Hid _ := hq
  have HXX : Hid _ := hxx
  have HR : Hid _ := hr
  have HENV : Hid _ := henv
  have HSP : Hid _ := hsp
  have HNP : Hid _ := hnp
  have HRT : Hid _ := hrt
  have HFN : Hid _ := hfn
  clear hQ0 hQ1 hQ hq hxx hr henv hsp hnp hrt hfn hX6 z0 z5 hB6 dg hgc hsg hsa hfv hxr hty htk hng hglo
  unfold fx fr42
  rw [u1, u2, u3]
  conv => arg 2; whnf
  repeat (first | (with_reducible refine xt_exit ?_) | (with_reducible refine xt_normal ?_) | (with_reducible refine xb_normal ?_) | (with_reducible refine xb_eq ?_) | (with_reducible refine xb_ne ?_ ?_; · decide) | (with_reducible refine xt_goto ?_) | (with_reducible refine xb_goto ?_) | go_values | go_skip | go_guarded | go_step | go_step3 | go_upon)
  generalize ((((((w.setCell ⟨N.gb, 0, none⟩ (.int .u8 (np : Int))).setCell ⟨N.gb, 1, none⟩ (.int .u8 (y1 : Int))).setCell ⟨N.gb, 2, none⟩ (.int .u8 (y2 : Int))).setCell ⟨N.gb, 3, none⟩ (.int .u8 (y3 : Int))).setCell ⟨N.gb, 4, none⟩ (.int .u8 (y4 : Int))).setCell ⟨N.gb, 5, none⟩ (.int .u8 (rt : Int))) = W at HX6 HZ0 HZ5 ⊢
  refine (pages_calls HX6.out.mm HENV.out.sm).mono ?_
  rintro en w7 ⟨rfl, rfl⟩
  dsimp only
  clear q0 q1 q2 q3 q4 q5 c8 c3 c4 b0 b1 b2 b3 b4 b5 g0 g1 g2 g3 g4 g5 hgg
  have c4 := HX6.out.c.c4
  have z5 := HZ5.out
  have hpg6 : S.bs.length / 64 ≤ 6 := by have := HENV.out.sm.m; omega
  obtain ⟨pg, hpg⟩ : ∃ pg, S.bs.length / 64 = pg := ⟨_, rfl⟩
  rw [hpg] at HR hpg6 ⊢
  obtain ⟨bs, hbs⟩ : ∃ bs, sp - np = bs := ⟨_, rfl⟩
  have hspb : sp = np + bs := by omega
  have hsb2 : (sp : Int) - (np : Int) = (bs : Int) := subi hspb
  have hsb3 : (sp : Int) - (bs : Int) = (np : Int) := by omega
  have hbs0 : ¬ ((bs : Int) < 0) := by omega
  have hbs1 : (bs : Int) ≤ (sp : Int) := by omega
  have hbs2 : (sp : Int) ≤ 120 := by omega
  have hvl : (ws.drop bs).length = np := by rw [List.length_drop, HSP.out]; omega
  have hgn : ¬ (N.gb = N.hb ∨ N.gb = N.tb) := gb_apart HQQ.out
  have hlb : (ws.take bs).length = bs := by rw [List.length_take, HSP.out]; omega
  have HLB : Hid _ := hlb
  have hwe : ws.length - t.p.size = bs := by rw [HSP.out, HNP.out]; exact hbs
  rw [hwe, HRT.out] at HQ1 HQ
  rw [hbs] at hroom
  have HRM : Hid _ := hroom
  have hspn : sp - bs = np := by omega
  have hwbs : IntKind.i64.wrap (bs : Int) = (bs : Int) := iwr (by omega) (by omega)
  obtain ⟨ao, hao⟩ : ∃ ao : Option Addr, (if sp = bs then some ⟨N.kb, 0, none⟩ else some ⟨N.kb, bs, none⟩) = ao := ⟨_, rfl⟩
  have hcal := call_calls (w := w7.drew) (T := T) (H := H) (hb := N.hb) (bb := N.bb) (tb := N.tb) HX6.out.drew.hw HENV.out.hm f (by rw [HENV.out.bd]; exact HFN.out) (ws.drop bs) (by rw [hvl]; exact hnp4) (fun v hv => HENV.out.wd v (List.mem_of_mem_drop hv)) (ao := ao) (cc := np) (fun h0 => ⟨N.kb, bs, by rw [← hao, if_neg (by rw [hvl] at h0; omega)], HQQ.out.dn.kb_tb, HQQ.out.dn.kb_hb, fun i v hi => by
    rw [List.getElem?_drop] at hi
    obtain ⟨K9, k1, k2⟩ := HX6.out.st
    have hl9 := (List.getElem?_eq_some_iff.1 hi).1
    rw [HSP.out] at hl9
    show w7.cell? _ = _
    rw [k1.cell (by omega), k2 _ v hi]⟩) rt hrt256 pg hpg6
  rw [hvl] at hcal
  have hr9 : callH H f (ws.drop bs) rt pg = r := by
    have h := HR.out
    rw [HSP.out, HNP.out, hbs, HRT.out] at h
    exact h
  rw [hr9] at hcal
  obtain ⟨rv, re, rH⟩ := r
  clear hspb hvl hr9 HZ0 HZ5 hlb hwe hroom
  repeat (first | (with_reducible refine xt_exit ?_) | (with_reducible refine xt_normal ?_) | (with_reducible refine xb_normal ?_) | (with_reducible refine xb_eq ?_) | (with_reducible refine xb_ne ?_ ?_; · decide) | (with_reducible refine xt_goto ?_) | (with_reducible refine xb_goto ?_) | go_values | go_skip | go_guarded | go_step | go_step3 | go_upon)
  refine region_cut (ImG w7.drew N C T u sp fuel np rv re d rH) ?_ ?_
  rotate_left
  · clear hcal c4 hao hwbs hspn hsb3 hbs0 hbs1 hbs2
    rintro a w8 ⟨u9, rfl, k2, k3, k12, k13, k17, k18, k19, k20, k21, k22, k23, hk8, hh8⟩
    have z58 : w8.cell? ⟨N.gb, 5, none⟩ = some (.int .u8 (rt : Int)) := by
      rw [hk8.cell (p := ⟨N.gb, 5, none⟩) (lt_of_cell (w := w7) z5) hgn]
      exact z5
    have HX8 : Hid _ := (HX6.out.drew.host HQQ.out hk8 hh8).take bs
    clear hk8 hh8 z5 HX6
    unfold fx fr42
    rw [k2, k3, k12, k13, k17, k18, k19, k20, k21, k22, k23]
    clear k2 k3 k12 k13 k17 k18 k19 k20 k21 k22 k23
    by_cases hre : re = 0
    · subst hre
      by_cases hrt0 : rt = 0
      · subst hrt0
        rcases HXX.out with ⟨hc0, hf0, hh0⟩ | ⟨c, cs, ff, ci, hc0, u19, hf0, hh0, hHf, hfc⟩
        · subst hc0 hf0 hh0
          have e1 : (d : Int) - 1 = -1 := by rw [← hd]; rfl
          rw [e1]
          repeat (first | (with_reducible refine xt_exit ?_) | (with_reducible refine xt_normal ?_) | (with_reducible refine xb_normal ?_) | (with_reducible refine xb_eq ?_) | (with_reducible refine xb_ne ?_ ?_; · decide) | (with_reducible refine xt_goto ?_) | (with_reducible refine xb_goto ?_) | go_values | go_skip | go_guarded | go_step | go_step3 | go_upon)
          exact HQ1.out _ _ rfl rfl (by kernel_rfl) (by kernel_rfl) (by simpa using HX8.out)
        · have hdd : (d : Int) - 1 = (cs.length : Int) := by rw [← hd, hc0]; simp
          subst hf0 hh0
          rw [hdd, u19, hHf.u12, hHf.u13, hHf.u20, hHf.u21]
          have e6 : ¬ ((fr0.length : Int) < 0) := lenx _
          have HHF : Hid _ := hHf
          have HFC : Hid _ := hfc
          have HC0 : Hid _ := hc0
          clear hHf hfc hc0 hdd
          repeat (first | (with_reducible refine xt_exit ?_) | (with_reducible refine xt_normal ?_) | (with_reducible refine xb_normal ?_) | (with_reducible refine xb_eq ?_) | (with_reducible refine xb_ne ?_ ?_; · decide) | (with_reducible refine xt_goto ?_) | (with_reducible refine xb_goto ?_) | go_values | go_skip | go_guarded | go_step | go_step3 | go_upon)
          exact HQ.out _ _ c fr0 ff ci HC0.out rfl HFC.out (mid2 (fuel : Int) (bs : Int) (zf := (c.base : Int) + (ff.locals : Int)) rfl (by kernel_rfl) (by kernel_rfl) (by kernel_rfl) (by kernel_rfl) (by kernel_rfl) (by kernel_rfl) (by kernel_rfl) (by kernel_rfl) rfl (by rw [if_pos rfl, List.append_nil, HLB.out]) rfl HHF.out.kf (by simpa using HX8.out)) (by kernel_rfl)
      · have hb119 : bs < 120 := HRM.out rfl hrt0
        have hrt1 : ((rt : Int) != 0) = true := by simp [hrt0]
        obtain ⟨⟨vk, ck⟩, gk⟩ := HX8.out.slot (i := bs) hb119
        have HX9 : Hid _ := HX8.out.push HQQ.out (v := rv) HLB.out hb119
        obtain ⟨h119', hsn, -⟩ := pushx hb119
        rcases HXX.out with ⟨hc0, hf0, hh0⟩ | ⟨c, cs, ff, ci, hc0, u19, hf0, hh0, hHf, hfc⟩
        · subst hc0 hf0 hh0
          have e1 : (d : Int) - 1 = -1 := by rw [← hd]; rfl
          rw [e1]
          repeat (first | (with_reducible refine xt_exit ?_) | (with_reducible refine xt_normal ?_) | (with_reducible refine xb_normal ?_) | (with_reducible refine xb_eq ?_) | (with_reducible refine xb_ne ?_ ?_; · decide) | (with_reducible refine xt_goto ?_) | (with_reducible refine xb_goto ?_) | go_values | go_skip | go_guarded | go_step | go_step3 | go_upon)
          exact HQ1.out _ _ rfl rfl (by kernel_rfl) (by kernel_rfl) (by rw [if_neg hrt0]; exact HX9.out)
        · have hdd : (d : Int) - 1 = (cs.length : Int) := by rw [← hd, hc0]; simp
          subst hf0 hh0
          rw [hdd, u19, hHf.u12, hHf.u13, hHf.u20, hHf.u21]
          have e6 : ¬ ((fr0.length : Int) < 0) := lenx _
          have HHF : Hid _ := hHf
          have HFC : Hid _ := hfc
          have HC0 : Hid _ := hc0
          clear hHf hfc hc0 hdd
          repeat (first | (with_reducible refine xt_exit ?_) | (with_reducible refine xt_normal ?_) | (with_reducible refine xb_normal ?_) | (with_reducible refine xb_eq ?_) | (with_reducible refine xb_ne ?_ ?_; · decide) | (with_reducible refine xt_goto ?_) | (with_reducible refine xb_goto ?_) | go_values | go_skip | go_guarded | go_step | go_step3 | go_upon)
          refine HQ.out _ _ c fr0 ff ci HC0.out rfl HFC.out ?_ ?_
          · rw [if_neg hrt0]
            exact mid2 (fuel : Int) ((bs : Int) + 1) (zf := (c.base : Int) + (ff.locals : Int)) rfl (by kernel_rfl) (by kernel_rfl) (by kernel_rfl) (by kernel_rfl) (by kernel_rfl) (by kernel_rfl) (by kernel_rfl) (by kernel_rfl) rfl (by rw [List.length_append, HLB.out]; rfl) rfl HHF.out.kf HX9.out
          · kernel_rfl
    · have hre1 : ((re : Int) != 0) = true := by simp [hre]
      repeat (first | (with_reducible refine xt_exit ?_) | (with_reducible refine xt_normal ?_) | (with_reducible refine xb_normal ?_) | (with_reducible refine xb_eq ?_) | (with_reducible refine xb_ne ?_ ?_; · decide) | (with_reducible refine xt_goto ?_) | (with_reducible refine xb_goto ?_) | go_values | go_skip | go_guarded | go_step | go_step3 | go_upon)
      exact HQ0.out _ _ hre (by kernel_rfl) (by kernel_rfl) ⟨_, _, _, HX8.out⟩
  refine wp_region_any (by kernel_rfl) ?_
  change wpAny _ _ _ _ _ _ _ (World.drew _)
  refine wpAny_take (i := 0) (v := ?_) rfl (by kernel_rfl) (by kernel_rfl) (by kernel_rfl) (fun _ _ _ h => h) (Or.inl ⟨by rfl, ?_⟩) ?_
  rotate_left
  · intro w; go_simp; try with_reducible rfl
  refine wpAny_take (i := 1) (v := ?_) rfl (by kernel_rfl) (by kernel_rfl) (by kernel_rfl) (fun _ _ _ h => h) (Or.inl ⟨by rfl, ?_⟩) ?_
  rotate_left
  · intro w; go_simp; try with_reducible rfl
  refine wpAny_take (i := 2) (v := ?_) rfl (by kernel_rfl) (by kernel_rfl) (by kernel_rfl) (fun _ _ _ h => h) (Or.inl ⟨by rfl, ?_⟩) ?_
  rotate_left
  · intro w; go_simp; try with_reducible rfl
  refine wpAny_take (i := 4) (v := ?_) rfl (by kernel_rfl) (by kernel_rfl) (by kernel_rfl) (fun _ _ _ h => h) (Or.inl ⟨by rfl, ?_⟩) ?_
  rotate_left
  · intro w; go_simp; try with_reducible rfl
  refine wpAny_take (i := 5) (v := ?_) rfl (by kernel_rfl) (by kernel_rfl) (by kernel_rfl) (fun _ _ _ h => h) (Or.inl ⟨by rfl, ?_⟩) ?_
  rotate_left
  · intro w; go_simp; try with_reducible rfl
  refine wpAny_take (i := 6) (v := ?_) rfl (by kernel_rfl) (by kernel_rfl) (by kernel_rfl) (fun _ _ _ h => h) (Or.inl ⟨by rfl, ?_⟩) ?_
  rotate_left
  · intro w; go_simp; try with_reducible rfl
  refine wpAny_take (i := 7) (v := ?_) rfl (by kernel_rfl) (by kernel_rfl) (by kernel_rfl) (fun _ _ _ h => h) (Or.inl ⟨by rfl, ?_⟩) ?_
  rotate_left
  · intro w; go_simp; try with_reducible rfl
  refine wpAny_take (i := 8) (v := ?_) rfl (by kernel_rfl) (by kernel_rfl) (by kernel_rfl) (fun _ _ _ h => h) (Or.inl ⟨by rfl, ?_⟩) ?_
  rotate_left
  · intro w; go_simp; try with_reducible rfl
  refine wpAny_take (i := 9) (v := ?_) rfl (by kernel_rfl) (by kernel_rfl) (by kernel_rfl) (fun _ _ _ h => h) (Or.inl ⟨by rfl, ?_⟩) ?_
  rotate_left
  · intro w; go_simp; try with_reducible rfl
  refine wpAny_take (i := 10) (v := ?_) rfl (by kernel_rfl) (by kernel_rfl) (by kernel_rfl) (fun _ _ _ h => h) (Or.inl ⟨by rfl, ?_⟩) ?_
  rotate_left
  · intro w; go_simp; try with_reducible rfl
  refine wpAny_take (i := 11) (v := .slice ao np np) rfl (by kernel_rfl) (by kernel_rfl) (by kernel_rfl) (fun _ _ _ h => h) (Or.inl ⟨by rfl, ?_⟩) ?_
  · intro w
    go_simp
  refine wpAny_take (i := 12) (v := ?_) rfl (by kernel_rfl) (by kernel_rfl) (by kernel_rfl) (fun _ _ _ h => h) (Or.inl ⟨by rfl, ?_⟩) ?_
  rotate_left
  · intro w; go_simp; try with_reducible rfl
  refine wpAny_take (i := 14) (v := ?_) rfl (by kernel_rfl) (by kernel_rfl) (by kernel_rfl) (fun _ _ _ h => h) (Or.inl ⟨by rfl, ?_⟩) ?_
  rotate_left
  · intro w; go_simp; try with_reducible rfl
  refine wpAny_ready (rs := [3, 13]) (by kernel_rfl) (by simp) ?_
  refine AllReady.cons rfl (fun K hK => ?_) (AllReady.cons rfl (fun K hK => ?_) AllReady.nil)
  · go_simp
    refine hK _ _ ?_
    clear hK K
    refine wpAny_ready (rs := [13]) (by kernel_rfl) (by simp) ?_
    refine AllReady.cons rfl (fun K hK => ?_) AllReady.nil
    go_simp
    refine hK _ _ ?_
    clear hK K
    refine wpAny_ready (rs := [15]) (by kernel_rfl) (by simp) ?_
    refine AllReady.cons rfl (fun K hK => ?_) AllReady.nil
    go_simp
    refine hcal.mono ?_
    rintro en w8 ⟨rfl, hk8, hh8⟩
    dsimp only
    refine hK _ _ ?_
    clear hK K
    refine wpAny_take (i := 16) (v := ?_) rfl (by kernel_rfl) (by kernel_rfl) (by kernel_rfl) (fun _ _ _ h => h) (Or.inl ⟨by rfl, ?_⟩) ?_
    rotate_left
    · intro w; go_simp; try with_reducible rfl
    refine wpAny_take (i := 17) (v := ?_) rfl (by kernel_rfl) (by kernel_rfl) (by kernel_rfl) (fun _ _ _ h => h) (Or.inl ⟨by rfl, ?_⟩) ?_
    rotate_left
    · intro w; go_simp; try with_reducible rfl
    refine wpAny_take (i := 18) (v := ?_) rfl (by kernel_rfl) (by kernel_rfl) (by kernel_rfl) (fun _ _ _ h => h) (Or.inl ⟨by rfl, ?_⟩) ?_
    rotate_left
    · intro w; go_simp; try with_reducible rfl
    refine wpAny_take (i := 19) (v := ?_) rfl (by kernel_rfl) (by kernel_rfl) (by kernel_rfl) (fun _ _ _ h => h) (Or.inl ⟨by rfl, ?_⟩) ?_
    rotate_left
    · intro w; go_simp; try with_reducible rfl
    refine wpAny_take (i := 20) (v := ?_) rfl (by kernel_rfl) (by kernel_rfl) (by kernel_rfl) (fun _ _ _ h => h) (Or.inl ⟨by rfl, ?_⟩) ?_
    rotate_left
    · intro w; go_simp; try with_reducible rfl
    refine wpAny_done (by kernel_rfl) ?_ _
    exact im_of (A := _) (by kernel_rfl) (by kernel_rfl) (by kernel_rfl) (by kernel_rfl) (by kernel_rfl) (by kernel_rfl) (by kernel_rfl) (by kernel_rfl) (by kernel_rfl) (by kernel_rfl) (by kernel_rfl) (by kernel_rfl) hk8 hh8
  · go_simp
    refine hK _ _ ?_
    clear hK K
    refine wpAny_ready (rs := [3]) (by kernel_rfl) (by simp) ?_
    refine AllReady.cons rfl (fun K hK => ?_) AllReady.nil
    go_simp
    refine hK _ _ ?_
    clear hK K
    refine wpAny_ready (rs := [15]) (by kernel_rfl) (by simp) ?_
    refine AllReady.cons rfl (fun K hK => ?_) AllReady.nil
    go_simp
    refine hcal.mono ?_
    rintro en w8 ⟨rfl, hk8, hh8⟩
    dsimp only
    refine hK _ _ ?_
    clear hK K
    refine wpAny_take (i := 16) (v := ?_) rfl (by kernel_rfl) (by kernel_rfl) (by kernel_rfl) (fun _ _ _ h => h) (Or.inl ⟨by rfl, ?_⟩) ?_
    rotate_left
    · intro w; go_simp; try with_reducible rfl
    refine wpAny_take (i := 17) (v := ?_) rfl (by kernel_rfl) (by kernel_rfl) (by kernel_rfl) (fun _ _ _ h => h) (Or.inl ⟨by rfl, ?_⟩) ?_
    rotate_left
    · intro w; go_simp; try with_reducible rfl
    refine wpAny_take (i := 18) (v := ?_) rfl (by kernel_rfl) (by kernel_rfl) (by kernel_rfl) (fun _ _ _ h => h) (Or.inl ⟨by rfl, ?_⟩) ?_
    rotate_left
    · intro w; go_simp; try with_reducible rfl
    refine wpAny_take (i := 19) (v := ?_) rfl (by kernel_rfl) (by kernel_rfl) (by kernel_rfl) (fun _ _ _ h => h) (Or.inl ⟨by rfl, ?_⟩) ?_
    rotate_left
    · intro w; go_simp; try with_reducible rfl
    refine wpAny_take (i := 20) (v := ?_) rfl (by kernel_rfl) (by kernel_rfl) (by kernel_rfl) (fun _ _ _ h => h) (Or.inl ⟨by rfl, ?_⟩) ?_
    rotate_left
    · intro w; go_simp; try with_reducible rfl
    refine wpAny_done (by kernel_rfl) ?_ _
    exact im_of (A := _) (by kernel_rfl) (by kernel_rfl) (by kernel_rfl) (by kernel_rfl) (by kernel_rfl) (by kernel_rfl) (by kernel_rfl) (by kernel_rfl) (by kernel_rfl) (by kernel_rfl) (by kernel_rfl) (by kernel_rfl) hk8 hh8
end Go.Proofs.Qxb6500275aGreatDoor
