import Derived.Test.Qxb6500275aGreatDoorXw3
import Derived.Deep.RegionWith
import Derived.StillTailTactics
import Derived.Deep.QuietTactic
import Derived.BigQuiet
import Derived.Test.Qxb6500275aGreatDoorXw5
set_option maxRecDepth 1000000
set_option linter.unusedVariables false
set_option linter.unusedSimpArgs false
namespace Go.Proofs.Qxb6500275aGreatDoor
open Go Go.RowKit
set_option maxHeartbeats 8000000 in
theorem c42_gset {w0 : World} {N : Xn} {C : XC} {T : Nat → Prop} {s : Xs} {c : Ins} (ho : c.op = 36) : Case42 w0 N C T s c := by
  intro fuel w u Q ff ci ks h hq hG hc hcx hcc hj hf hu hx hfu h1000 hE
  obtain ⟨n, sp, hr⟩ := r42 hq hG hc hcc hf hx h1000
  obtain ⟨d0, d1, d2, hpc, hn, hn1, ⟨v0, b0⟩, ⟨v1, b1⟩, ⟨v2, b2⟩, g0, g1, g2, hsp, hsl, h120, h10, l10, b100, d5⟩ := hr
  obtain ⟨u2, u3, u12, u13, u20, u21, u22, kf⟩ := hf
  rw [hn] at u12
  rw [hsp] at u2
  have hX3 := ((hx.cset hq (i := 0) (by decide) (.int .u8 c.op)).cset hq (i := 1) (by decide) (.int .u32 c.x)).cset hq (i := 2) (by decide) (.int .u64 c.y)
  have hpl : ¬ (c.op = 4 ∨ c.op = 224 ∨ c.op = 12 ∨ c.op = 13 ∨ c.op = 225 ∨ c.op = 14 ∨ c.op = 15 ∨ c.op = 11) := by omega
  obtain ⟨hi, hth, hat, hloc⟩ := plain_step hj hpl (by omega) (take := 1) (give := 0) (by unfold effectP; rw [if_neg (by omega), if_pos (by omega)])
  have hgt := Ato.top hc.fh.ht hat
  clear hpl hat
  have hsp1 : 1 ≤ sp := by have := hth; have := hsl; omega
  obtain ⟨t0, ht0⟩ : ∃ t0, s.topW = t0 := ⟨_, rfl⟩
  have HT : Hid _ := ht0
  have hwp2 : s.ws.length ≤ 120 := by rw [hsp]; exact h120
  have hwp : s.ws.length - 1 < s.ws.length := by rw [hsp]; exact Nat.sub_lt hsp1 (by decide)
  obtain ⟨cw, gw⟩ := hx.word (i := s.ws.length - 1) hwp hwp2
  have htr : t0 < 18446744073709551616 := by rw [← ht0]; exact hG.env.getD _
  unfold Xs.topW at ht0
  rw [ht0, hsp] at cw
  rw [hsp] at gw
  have hkc := (kb_cb hq).1
  obtain ⟨hs1, hs2, hs3, hs4⟩ := popx hsp1 h120
  clear ht0 hwp hwp2
  have c3 := hx.c.c3
  have hxc : N.xb ≠ N.cb := by have h1 := hq.fix (k := N.xb) (.inl (.inl rfl)); have h2 := hq.lo; have h3 := hq.new; omega
  have HCT : Hid _ := hX3.word (i := s.ws.length - 1) (by rw [hsp]; omega) (by rw [hsp]; exact h120)
  have HC3 : Hid _ := hX3.c.c3
  have HCB1 : Hid _ := (cb3 (v0 := v0) (a := .int .u8 c.op) (c := .int .u32 c.x) (d := .int .u64 c.y) b1 b2).1
  have HCB2 : Hid _ := (cb3 (v0 := v0) (a := .int .u8 c.op) (c := .int .u32 c.x) (d := .int .u64 c.y) b1 b2).2
  have HSZ : Hid _ := hX3.slot (i := sp - 1) (by omega)
  have hx0 := hi.x.1
  have hxl := hi.x.2
  clear hloc hi
  have HE : Hid _ := hE
  have HX : Hid _ := hX3
  have HQ : Hid _ := hq
  have HG : Hid _ := hG
  have HCU : Hid _ := hc
  have HJ : Hid _ := hj
  have HKF : Hid _ := kf
  have HS : Hid _ := hcx
  have HN : Hid _ := hn
  have HSP : Hid _ := hsp
  have HSL : Hid _ := hsl
  clear hE hX3 kf hq hG hc hcc hj hx hn hcx hsp hsl
  obtain ⟨op, X1, Y1⟩ := c
  dsimp only at ho d0 d1 d2 hx0 hxl HCB1 HCB2
  subst ho
  obtain ⟨xn, hxn⟩ : ∃ xn : Nat, X1 = xn := ⟨X1.toNat, (Int.toNat_of_nonneg hx0).symm⟩
  subst hxn
  unfold fx fr42
  rw [hu, u2, u3, u12, u13, u20, u21, u22]
  conv => arg 2; whnf
  by_cases hz : fuel = 0
  · subst hz
    repeat (first | (with_reducible refine xt_exit ?_) | (with_reducible refine xt_normal ?_) | (with_reducible refine xb_normal ?_) | (with_reducible refine xb_eq ?_) | (with_reducible refine xb_ne ?_ ?_; · decide) | (with_reducible refine xt_goto ?_) | (with_reducible refine xb_goto ?_) | go_values | go_skip | go_guarded | go_step | go_step3 | go_upon)
    exact HE.out.trap _ _ 0 46 s.S s.H (step_dry HS.out rfl) (by kernel_rfl) (by kernel_rfl) ⟨_, _, _, HX.out⟩
  obtain ⟨f, hf, hz', hwr⟩ := dryx hz hfu
  have hst := step_cost (f := f) HS.out rfl
  rw [← hf] at hst
  have HST : Hid _ := hst
  clear hz hfu hf hst
  have ecore : coreX C { s with pc := s.pc + 1 } ⟨36, (xn : Int), Y1⟩ = .ok { s with ws := s.ws.take (s.ws.length - 1), S := { s.S with gl := s.S.gl.set xn s.topW }, pc := s.pc + 1 } := rfl
  rw [HT.out] at ecore
  have HCO : Hid _ := ecore
  clear ecore
  repeat (first | (with_reducible refine xt_exit ?_) | (with_reducible refine xt_normal ?_) | (with_reducible refine xb_normal ?_) | (with_reducible refine xb_eq ?_) | (with_reducible refine xb_ne ?_ ?_; · decide) | (with_reducible refine xt_goto ?_) | (with_reducible refine xb_goto ?_) | go_values | go_skip | go_guarded | go_step | go_step3 | go_upon)
  generalize (((w.setCell ⟨N.cb, 0, none⟩ (.int .u8 36)).setCell ⟨N.cb, 1, none⟩ (.int .u32 (xn : Int))).setCell ⟨N.cb, 2, none⟩ (.int .u64 Y1)) = W at HX HCT HC3 HCB1 HCB2 HSZ ⊢
  obtain ⟨cw1, gw1⟩ := HCT.out
  have cx3 := HC3.out
  have cb1 := HCB1.out
  have cb2 := HCB2.out
  have hTT := HT.out
  unfold Xs.topW at hTT
  rw [hTT, HSP.out] at cw1
  rw [HSP.out] at gw1
  have hi1 : IntKind.i64.wrap ((sp : Int) - 1) = (sp : Int) - 1 := iwr (by omega) (by omega)
  have hi2 : (1 : Int) ≤ (sp : Int) := by omega
  clear hTT HCT HC3 HCB1 HCB2 HSZ cw gw d0 d1 d2 b0 b1 b2 g0 g1 g2 c3
  have hi6 : IntKind.i64.wrap (xn : Int) = (xn : Int) := iwr (by omega) (by omega)
  have hcal := setGlobal_any HX.out.drew.mm HG.out.env.sm xn (t0 : Int)
  go_still_tail 11, (by kernel_rfl)
  repeat (first | (with_reducible refine xt_exit ?_) | (with_reducible refine xt_normal ?_) | (with_reducible refine xb_normal ?_) | (with_reducible refine xb_eq ?_) | (with_reducible refine xb_ne ?_ ?_; · decide) | (with_reducible refine xt_goto ?_) | (with_reducible refine xb_goto ?_) | go_values | go_skip | go_guarded | go_step | go_step3 | go_upon)
  refine hcal.mono ?_
  rintro en w6 ⟨⟨rv, rfl⟩, hk6, hm6⟩
  have HX6 : Hid _ := (HX.out.drew.store HQ.out (hk6.mono (fun _ e => .inl e)) hm6).take (s.ws.length - 1)
  clear hcal hk6 hm6
  dsimp only
  repeat (first | (with_reducible refine xt_exit ?_) | (with_reducible refine xt_normal ?_) | (with_reducible refine xb_normal ?_) | (with_reducible refine xb_eq ?_) | (with_reducible refine xb_ne ?_ ?_; · decide) | (with_reducible refine xt_goto ?_) | (with_reducible refine xb_goto ?_) | go_values | go_skip | go_guarded | go_step | go_step3 | go_upon)
  exact HE.out.next _ _ f (s.ws.take (s.ws.length - 1)) (s.pc + 1) { s.S with gl := s.S.gl.set xn (t0 : Int) } s.H (by rw [HST.out, HCO.out]) (mid (f : Int) ((sp : Int) - 1) (by kernel_rfl) (by kernel_rfl) (by kernel_rfl) (by kernel_rfl) (by kernel_rfl) (by kernel_rfl) (by kernel_rfl) (by kernel_rfl) rfl (len_t1 HSP.out hsp1) HN.out HKF.out HX6.out) (by kernel_rfl)
end Go.Proofs.Qxb6500275aGreatDoor
