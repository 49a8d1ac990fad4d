import Derived.Test.Qxb6500275aGreatDoorXw3
import Derived.Deep.RegionWith
import Derived.StillTailTactics
import Derived.Deep.QuietTactic
import Derived.BigQuiet
import Derived.Test.Qxb6500275aGreatDoorXw7
set_option maxRecDepth 1000000
set_option linter.unusedVariables false
set_option linter.unusedSimpArgs false
namespace Go.Proofs.Qxb6500275aGreatDoor
open Go Go.RowKit
set_option maxHeartbeats 8000000 in
theorem c42_table {w0 : World} {N : Xn} {C : XC} {T : Nat → Prop} {s : Xs} {c : Ins} (ho : c.op = 14) : Case42 w0 N C T s c := by
  intro fuel w u Q ff ci ks h hq hG hc hcx hcc hj hf hu hx hfu h1000 hE
  obtain ⟨n, sp, hr⟩ := r42 hq hG hc hcc hf hx h1000
  obtain ⟨d0, d1, d2, hpc, hn, hn1, ⟨v0, b0⟩, ⟨v1, b1⟩, ⟨v2, b2⟩, g0, g1, g2, hsp, hsl, h120, h10, l10, b100, d5⟩ := hr
  obtain ⟨u2, u3, u12, u13, u20, u21, u22, kf⟩ := hf
  rw [hn] at u12
  rw [hsp] at u2
  have hX3 := ((hx.cset hq (i := 0) (by decide) (.int .u8 c.op)).cset hq (i := 1) (by decide) (.int .u32 c.x)).cset hq (i := 2) (by decide) (.int .u64 c.y)
  obtain ⟨h1, n14, hxn, hn1, hEn⟩ := hj.table ho
  have hsp1 : 1 ≤ sp := by have := h1; have := hsl; omega
  obtain ⟨t0, ht0⟩ : ∃ t0, s.topW = t0 := ⟨_, rfl⟩
  have HT : Hid _ := ht0
  have hwp2 : s.ws.length ≤ 120 := by rw [hsp]; exact h120
  have hwp : s.ws.length - 1 < s.ws.length := by rw [hsp]; exact Nat.sub_lt hsp1 (by decide)
  obtain ⟨cw, gw⟩ := hx.word (i := s.ws.length - 1) hwp hwp2
  have htr : t0 < 18446744073709551616 := by rw [← ht0]; exact hG.env.getD _
  unfold Xs.topW at ht0
  rw [ht0, hsp] at cw
  rw [hsp] at gw
  have hkc := (kb_cb hq).1
  obtain ⟨hs1, hs2, hs3, hs4⟩ := popx hsp1 h120
  clear ht0 hwp hwp2
  obtain ⟨m, hm⟩ : ∃ m, n14 - 1 = m := ⟨_, rfl⟩
  obtain ⟨k, hk⟩ : ∃ k, (if t0 < n14 - 1 then t0 else n14 - 1) = k := ⟨_, rfl⟩
  have hkn : k < n14 := by rw [← hk]; split <;> omega
  obtain ⟨d, e1, e2, e3⟩ := hEn k hkn
  have e1' : ff.cells[s.pc + 1 + k]? = some d := by
    rw [show s.pc + 1 + 1 + k = (s.pc + 1 + k) + 1 by omega] at e1
    simpa using e1
  have hgd : ff.cells.getD (s.pc + 1 + k) Ins.zero = d := by rw [List.getD_eq_getElem?_getD, e1']; rfl
  obtain ⟨h', e4, e5⟩ := hc.fh.ht.cj (s.pc + 1 + 1 + k) d (by omega) (by omega) e1
  rw [e3] at e4
  simp at e4
  subst e4
  have HBJ : Hid _ := e5.entry e2
  obtain ⟨r0, r1, r2⟩ := (hx.kf hq kf).cs (s.pc + 1 + k) d e1'
  have hcc : ci ≠ N.cb := by have h1 := lt_of_cell ((kf.cs (s.pc + 1 + k) d e1').1); have h3 := hq.new; dsimp only at h1; omega
  have hpk : s.pc + 1 + k < n := by rw [← hn]; exact (List.getElem?_eq_some_iff.1 e1').1
  have hpk2 : (s.pc : Int) + 1 + (k : Int) < (n : Int) := by omega
  have hpk3 : ((s.pc : Int) + 1 + (k : Int)).toNat = s.pc + 1 + k := by omega
  have hpk4 : ¬ ((s.pc : Int) + 1 + (k : Int) < 0) := by omega
  have HXT : Hid (c.x.toNat = n14) := by show c.x.toNat = n14; omega
  have HK : Hid _ := hk
  have HFX : Hid (ffX C { s with pc := s.pc + 1 } = ff) := by show ffX C { s with pc := s.pc + 1 } = ff; unfold ffX; rw [List.getD_eq_getElem?_getD, hc.fh.at_]; rfl
  have HGD : Hid _ := hgd
  have hn14 : n14 ≤ 1000 := by
    obtain ⟨d9, e9, _, _⟩ := hEn (n14 - 1) (by omega)
    have h9 := (List.getElem?_eq_some_iff.1 e9).1
    simp at h9
    omega
  have hw14 : wrap64 ((n14 : Int) - 1) = (m : Int) := by unfold wrap64; omega
  have hw15 : IntKind.u64.wrap (m : Int) = (m : Int) := by rw [wrap_u64]; omega
  have hX6 := ((hX3.cset hq (i := 0) (by decide) (.int .u8 d.op)).cset hq (i := 1) (by decide) (.int .u32 d.x)).cset hq (i := 2) (by decide) (.int .u64 d.y)
  have HXN : Hid _ := hX6
  have hb3 := cb3 (v0 := v0) (a := .int .u8 c.op) (c := .int .u32 c.x) (d := .int .u64 c.y) b1 b2
  have HCB : Hid _ := cb3 (v0 := v0) (a := .int .u8 d.op) (c := .int .u32 d.x) (d := .int .u64 d.y) hb3.1 hb3.2
  clear hX6 hb3 hk hgd e1 e2 e3 e5 e1' hEn

  have HE : Hid _ := hE
  have HX : Hid _ := hX3
  have HQ : Hid _ := hq
  have HG : Hid _ := hG
  have HCU : Hid _ := hc
  have HJ : Hid _ := hj
  have HKF : Hid _ := kf
  have HS : Hid _ := hcx
  have HN : Hid _ := hn
  have HSP : Hid _ := hsp
  have HSL : Hid _ := hsl
  clear hE hX3 kf hq hG hc hcc hj hx hn hcx hsp hsl
  obtain ⟨op, X1, Y1⟩ := c
  dsimp only at ho d0 d1 d2 HXT HXN HCB hxn
  subst ho
  subst hxn
  unfold fx fr42
  rw [hu, u2, u3, u12, u13, u20, u21, u22]
  conv => arg 2; whnf
  by_cases hz : fuel = 0
  · subst hz
    repeat (first | (with_reducible refine xt_exit ?_) | (with_reducible refine xt_normal ?_) | (with_reducible refine xb_normal ?_) | (with_reducible refine xb_eq ?_) | (with_reducible refine xb_ne ?_ ?_; · decide) | (with_reducible refine xt_goto ?_) | (with_reducible refine xb_goto ?_) | go_values | go_skip | go_guarded | go_step | go_step3 | go_upon)
    exact HE.out.trap _ _ 0 46 s.S s.H (step_dry HS.out rfl) (by kernel_rfl) (by kernel_rfl) ⟨_, _, _, HX.out⟩
  obtain ⟨f, hf, hz', hwr⟩ := dryx hz hfu
  have hst := step_cost (f := f) HS.out rfl
  rw [← hf] at hst
  have HST : Hid _ := hst
  clear hz hfu hf hst
  have ecore : coreX C { s with pc := s.pc + 1 } ⟨14, (n14 : Int), Y1⟩ = .ok (branchX C { s with ws := s.ws.take (s.ws.length - 1), pc := s.pc + 1 } ((ffX C { s with pc := s.pc + 1 }).cells.getD (s.pc + 1 + (if s.topW < (n14 : Int).toNat - 1 then s.topW else (n14 : Int).toNat - 1)) Ins.zero)) := rfl
  rw [HT.out, HXT.out, HK.out, HFX.out, HGD.out] at ecore
  have HCO : Hid _ := ecore
  clear ecore
  by_cases hlt : (t0 : Int) < (m : Int)
  · have hkt : k = t0 := by rw [← HK.out, hm, if_pos (by omega)]
    subst hkt
    have hwk : IntKind.i64.wrap (k : Int) = (k : Int) := iwr (by omega) (by omega)
    repeat (first | (with_reducible refine xt_exit ?_) | (with_reducible refine xt_normal ?_) | (with_reducible refine xb_normal ?_) | (with_reducible refine xb_eq ?_) | (with_reducible refine xb_ne ?_ ?_; · decide) | (with_reducible refine xt_goto ?_) | (with_reducible refine xb_goto ?_) | go_values | go_skip | go_guarded | go_step | go_step3 | go_upon)
    exact HE.out.br _ _ f (s.ws.take (s.ws.length - 1)) d (by rw [HST.out, HCO.out]) (mid (wrap64 ((fuel : Int) - 1)) ((sp : Int) - 1) (by kernel_rfl) (by kernel_rfl) (by kernel_rfl) (by kernel_rfl) (by kernel_rfl) (by kernel_rfl) (by kernel_rfl) (by kernel_rfl) hwr (len_t1 HSP.out hsp1) HN.out HKF.out (HXN.out.take _)) HCB.out.1 HCB.out.2 ⟨h - 1, by rw [List.length_take, HSP.out]; have := HSL.out; omega, s.pc + 1 + 1 + k, ks, HCU.out.fh.ht, HBJ.out⟩
  · have hkt : k = m := by rw [← HK.out, hm, if_neg (by omega)]
    subst hkt
    repeat (first | (with_reducible refine xt_exit ?_) | (with_reducible refine xt_normal ?_) | (with_reducible refine xb_normal ?_) | (with_reducible refine xb_eq ?_) | (with_reducible refine xb_ne ?_ ?_; · decide) | (with_reducible refine xt_goto ?_) | (with_reducible refine xb_goto ?_) | go_values | go_skip | go_guarded | go_step | go_step3 | go_upon)
    exact HE.out.br _ _ f (s.ws.take (s.ws.length - 1)) d (by rw [HST.out, HCO.out]) (mid (wrap64 ((fuel : Int) - 1)) ((sp : Int) - 1) (by kernel_rfl) (by kernel_rfl) (by kernel_rfl) (by kernel_rfl) (by kernel_rfl) (by kernel_rfl) (by kernel_rfl) (by kernel_rfl) hwr (len_t1 HSP.out hsp1) HN.out HKF.out (HXN.out.take _)) HCB.out.1 HCB.out.2 ⟨h - 1, by rw [List.length_take, HSP.out]; have := HSL.out; omega, s.pc + 1 + 1 + k, ks, HCU.out.fh.ht, HBJ.out⟩
end Go.Proofs.Qxb6500275aGreatDoor
