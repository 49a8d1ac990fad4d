import Derived.Test.Qxb6500275aGreatDoorXw3
import Derived.Deep.RegionWith
import Derived.StillTailTactics
import Derived.Deep.QuietTactic
import Derived.BigQuiet
set_option maxRecDepth 1000000
set_option linter.unusedVariables false
set_option linter.unusedSimpArgs false
namespace Go.Proofs.Qxb6500275aGreatDoor
open Go Go.RowKit
set_option maxHeartbeats 8000000 in
theorem c42_eqz {w0 : World} {N : Xn} {C : XC} {T : Nat → Prop} {s : Xs} {c : Ins} (ho : c.op = 69) : Case42 w0 N C T s c := by
  intro fuel w u Q ff ci ks h hq hG hc hcx hcc hj hf hu hx hfu h1000 hE
  obtain ⟨n, sp, hr⟩ := r42 hq hG hc hcc hf hx h1000
  obtain ⟨d0, d1, d2, hpc, hn, hn1, ⟨v0, b0⟩, ⟨v1, b1⟩, ⟨v2, b2⟩, g0, g1, g2, hsp, hsl, h120, h10, l10, b100, d5⟩ := hr
  obtain ⟨u2, u3, u12, u13, u20, u21, u22, kf⟩ := hf
  rw [hn] at u12
  rw [hsp] at u2
  have hX3 := ((hx.cset hq (i := 0) (by decide) (.int .u8 c.op)).cset hq (i := 1) (by decide) (.int .u32 c.x)).cset hq (i := 2) (by decide) (.int .u64 c.y)
  have hpl : ¬ (c.op = 4 ∨ c.op = 224 ∨ c.op = 12 ∨ c.op = 13 ∨ c.op = 225 ∨ c.op = 14 ∨ c.op = 15 ∨ c.op = 11) := by omega
  obtain ⟨hi, take, give, hef, hth, _, _⟩ := hj.plain hpl
  have hef2 := eff_num (C := C) (x := c.x) (y := c.y) (by omega) (by omega) hef
  have hth2 : 1 ≤ h := by rw [ho] at hef2; have h3 : twoS 69 = false := rfl; rw [h3] at hef2; simp at hef2; omega
  clear hpl hi hef hef2
  have hsp1 : 1 ≤ sp := by have := hth2; have := hsl; omega
  obtain ⟨t0, ht0⟩ : ∃ t0, s.topW = t0 := ⟨_, rfl⟩
  have HT : Hid _ := ht0
  have hwp2 : s.ws.length ≤ 120 := by rw [hsp]; exact h120
  have hwp : s.ws.length - 1 < s.ws.length := by rw [hsp]; exact Nat.sub_lt hsp1 (by decide)
  obtain ⟨cw, gw⟩ := hx.word (i := s.ws.length - 1) hwp hwp2
  have htr : t0 < 18446744073709551616 := by rw [← ht0]; exact hG.env.getD _
  unfold Xs.topW at ht0
  rw [ht0, hsp] at cw
  rw [hsp] at gw
  have hkc := (kb_cb hq).1
  obtain ⟨hs1, hs2, hs3, hs4⟩ := popx hsp1 h120
  clear ht0 hwp hwp2
  have HE : Hid _ := hE
  have HX : Hid _ := hX3
  have HQ : Hid _ := hq
  have HG : Hid _ := hG
  have HCU : Hid _ := hc
  have HJ : Hid _ := hj
  have HKF : Hid _ := kf
  have HS : Hid _ := hcx
  have HN : Hid _ := hn
  have HSP : Hid _ := hsp
  have HSL : Hid _ := hsl
  clear hE hX3 kf hq hG hc hcc hj hx hn hcx hsp hsl
  obtain ⟨op, X1, Y1⟩ := c
  dsimp only at ho d0 d1 d2
  subst ho
  unfold fx fr42
  rw [hu, u2, u3, u12, u13, u20, u21, u22]
  conv => arg 2; whnf
  by_cases hz : fuel = 0
  · subst hz
    repeat (first | (with_reducible refine xt_exit ?_) | (with_reducible refine xt_normal ?_) | (with_reducible refine xb_normal ?_) | (with_reducible refine xb_eq ?_) | (with_reducible refine xb_ne ?_ ?_; · decide) | (with_reducible refine xt_goto ?_) | (with_reducible refine xb_goto ?_) | go_values | go_skip | go_guarded | go_step | go_step3 | go_upon)
    exact HE.out.trap _ _ 0 46 s.S s.H (step_dry HS.out rfl) (by kernel_rfl) (by kernel_rfl) ⟨_, _, _, HX.out⟩
  obtain ⟨f, hf, hz', hwr⟩ := dryx hz hfu
  have hst := step_cost (f := f) HS.out rfl
  rw [← hf] at hst
  have HST : Hid _ := hst
  clear hz hfu hf hst
  have ecore : coreX C { s with pc := s.pc + 1 } ⟨69, X1, Y1⟩ = .ok { s with ws := s.ws.set (s.ws.length - 1) (if s.topW = 0 then 1 else 0), pc := s.pc + 1 } := rfl
  rw [HT.out, HSP.out] at ecore
  have HCO : Hid _ := ecore
  clear ecore
  by_cases ht : t0 = 0
  · subst ht
    have HP : Hid _ := HX.out.set HQ.out (i := sp - 1) (v := 1) (by omega)
    repeat (first | (with_reducible refine xt_exit ?_) | (with_reducible refine xt_normal ?_) | (with_reducible refine xb_normal ?_) | (with_reducible refine xb_eq ?_) | (with_reducible refine xb_ne ?_ ?_; · decide) | (with_reducible refine xt_goto ?_) | (with_reducible refine xb_goto ?_) | go_values | go_skip | go_guarded | go_step | go_step3 | go_upon)
    exact HE.out.next _ _ f (s.ws.set (sp - 1) 1) (s.pc + 1) s.S s.H (by rw [HST.out, HCO.out, if_pos rfl]) (mid (wrap64 ((fuel : Int) - 1)) (sp : Int) (by kernel_rfl) (by kernel_rfl) (by kernel_rfl) (by kernel_rfl) (by kernel_rfl) (by kernel_rfl) (by kernel_rfl) (by kernel_rfl) hwr (by rw [List.length_set, HSP.out]) HN.out HKF.out HP.out) (by kernel_rfl)
  · have ht' : ((t0 : Int) == 0) = false := by simp; omega
    have HP : Hid _ := HX.out.set HQ.out (i := sp - 1) (v := 0) (by omega)
    repeat (first | (with_reducible refine xt_exit ?_) | (with_reducible refine xt_normal ?_) | (with_reducible refine xb_normal ?_) | (with_reducible refine xb_eq ?_) | (with_reducible refine xb_ne ?_ ?_; · decide) | (with_reducible refine xt_goto ?_) | (with_reducible refine xb_goto ?_) | go_values | go_skip | go_guarded | go_step | go_step3 | go_upon)
    exact HE.out.next _ _ f (s.ws.set (sp - 1) 0) (s.pc + 1) s.S s.H (by rw [HST.out, HCO.out, if_neg ht]) (mid (wrap64 ((fuel : Int) - 1)) (sp : Int) (by kernel_rfl) (by kernel_rfl) (by kernel_rfl) (by kernel_rfl) (by kernel_rfl) (by kernel_rfl) (by kernel_rfl) (by kernel_rfl) hwr (by rw [List.length_set, HSP.out]) HN.out HKF.out HP.out) (by kernel_rfl)
end Go.Proofs.Qxb6500275aGreatDoor
