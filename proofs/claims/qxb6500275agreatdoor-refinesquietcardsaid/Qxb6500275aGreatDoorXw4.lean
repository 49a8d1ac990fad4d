import Derived.Test.Qxb6500275aGreatDoorXw3
import Derived.Deep.RegionWith
set_option maxRecDepth 1000000
set_option linter.unusedVariables false
set_option linter.unusedSimpArgs false
namespace Go.Proofs.Qxb6500275aGreatDoor
open Go Go.RowKit
set_option maxHeartbeats 8000000 in
theorem c42_nop {w0 : World} {N : Xn} {C : XC} {T : Nat → Prop} {s : Xs} {c : Ins} (ho : c.op = 1) : Case42 w0 N C T s c := by
  intro fuel w u Q ff ci ks h hq hG hc hcx hcc hj hf hu hx hfu h1000 hE
  obtain ⟨n, sp, hr⟩ := r42 hq hG hc hcc hf hx h1000
  obtain ⟨d0, d1, d2, hpc, hn, hn1, ⟨v0, b0⟩, ⟨v1, b1⟩, ⟨v2, b2⟩, g0, g1, g2, hsp, hsl, h120, h10, l10, b100, d5⟩ := hr
  obtain ⟨u2, u3, u12, u13, u20, u21, u22, kf⟩ := hf
  rw [hn] at u12
  rw [hsp] at u2
  have hX3 := ((hx.cset hq (i := 0) (by decide) (.int .u8 c.op)).cset hq (i := 1) (by decide) (.int .u32 c.x)).cset hq (i := 2) (by decide) (.int .u64 c.y)
  skip
  have HE : Hid _ := hE
  have HX : Hid _ := hX3
  have HQ : Hid _ := hq
  have HG : Hid _ := hG
  have HCU : Hid _ := hc
  have HJ : Hid _ := hj
  have HKF : Hid _ := kf
  have HS : Hid _ := hcx
  have HN : Hid _ := hn
  have HSP : Hid _ := hsp
  have HSL : Hid _ := hsl
  clear hE hX3 kf hq hG hc hcc hj hx hn hcx hsp hsl
  obtain ⟨op, X1, Y1⟩ := c
  dsimp only at ho d0 d1 d2
  subst ho
  unfold fx fr42
  rw [hu, u2, u3, u12, u13, u20, u21, u22]
  conv => arg 2; whnf
  by_cases hz : fuel = 0
  · subst hz
    repeat (first | (with_reducible refine xt_exit ?_) | (with_reducible refine xt_normal ?_) | (with_reducible refine xb_normal ?_) | (with_reducible refine xb_eq ?_) | (with_reducible refine xb_ne ?_ ?_; · decide) | (with_reducible refine xt_goto ?_) | (with_reducible refine xb_goto ?_) | go_values | go_skip | go_guarded | go_step | go_upon)
    exact HE.out.trap _ _ 0 46 s.S s.H (step_dry HS.out rfl) (by kernel_rfl) (by kernel_rfl) ⟨_, _, _, HX.out⟩
  obtain ⟨f, hf⟩ : ∃ f, fuel = f + 1 := ⟨fuel - 1, by omega⟩
  have hz' : ((fuel : Int) == 0) = false := by simp; omega
  have hwr : wrap64 ((fuel : Int) - 1) = (f : Int) := by unfold wrap64; omega
  have hst := step_cost (f := f) HS.out rfl
  rw [← hf] at hst
  have HST : Hid _ := hst
  clear hz hfu hf hst
  repeat (first | (with_reducible refine xt_exit ?_) | (with_reducible refine xt_normal ?_) | (with_reducible refine xb_normal ?_) | (with_reducible refine xb_eq ?_) | (with_reducible refine xb_ne ?_ ?_; · decide) | (with_reducible refine xt_goto ?_) | (with_reducible refine xb_goto ?_) | go_values | go_skip | go_guarded | go_step | go_upon)
  have e : coreX C { s with pc := s.pc + 1 } ⟨1, X1, Y1⟩ = .ok { s with pc := s.pc + 1 } := rfl
  refine HE.out.next _ _ f s.ws (s.pc + 1) s.S s.H (by rw [HST.out, e]) (mid (wrap64 ((fuel : Int) - 1)) (sp : Int) (by kernel_rfl) (by kernel_rfl) (by kernel_rfl) (by kernel_rfl) (by kernel_rfl) (by kernel_rfl) (by kernel_rfl) (by kernel_rfl) hwr (by rw [HSP.out]) HN.out HKF.out HX.out) (by kernel_rfl)
set_option maxHeartbeats 8000000 in
theorem c42_unr {w0 : World} {N : Xn} {C : XC} {T : Nat → Prop} {s : Xs} {c : Ins} (ho : c.op = 0) : Case42 w0 N C T s c := by
  intro fuel w u Q ff ci ks h hq hG hc hcx hcc hj hf hu hx hfu h1000 hE
  obtain ⟨n, sp, hr⟩ := r42 hq hG hc hcc hf hx h1000
  obtain ⟨d0, d1, d2, hpc, hn, hn1, ⟨v0, b0⟩, ⟨v1, b1⟩, ⟨v2, b2⟩, g0, g1, g2, hsp, hsl, h120, h10, l10, b100, d5⟩ := hr
  obtain ⟨u2, u3, u12, u13, u20, u21, u22, kf⟩ := hf
  rw [hn] at u12
  rw [hsp] at u2
  have hX3 := ((hx.cset hq (i := 0) (by decide) (.int .u8 c.op)).cset hq (i := 1) (by decide) (.int .u32 c.x)).cset hq (i := 2) (by decide) (.int .u64 c.y)
  skip
  have HE : Hid _ := hE
  have HX : Hid _ := hX3
  have HQ : Hid _ := hq
  have HG : Hid _ := hG
  have HCU : Hid _ := hc
  have HJ : Hid _ := hj
  have HKF : Hid _ := kf
  have HS : Hid _ := hcx
  have HN : Hid _ := hn
  have HSP : Hid _ := hsp
  have HSL : Hid _ := hsl
  clear hE hX3 kf hq hG hc hcc hj hx hn hcx hsp hsl
  obtain ⟨op, X1, Y1⟩ := c
  dsimp only at ho d0 d1 d2
  subst ho
  unfold fx fr42
  rw [hu, u2, u3, u12, u13, u20, u21, u22]
  conv => arg 2; whnf
  by_cases hz : fuel = 0
  · subst hz
    repeat (first | (with_reducible refine xt_exit ?_) | (with_reducible refine xt_normal ?_) | (with_reducible refine xb_normal ?_) | (with_reducible refine xb_eq ?_) | (with_reducible refine xb_ne ?_ ?_; · decide) | (with_reducible refine xt_goto ?_) | (with_reducible refine xb_goto ?_) | go_values | go_skip | go_guarded | go_step | go_upon)
    exact HE.out.trap _ _ 0 46 s.S s.H (step_dry HS.out rfl) (by kernel_rfl) (by kernel_rfl) ⟨_, _, _, HX.out⟩
  obtain ⟨f, hf⟩ : ∃ f, fuel = f + 1 := ⟨fuel - 1, by omega⟩
  have hz' : ((fuel : Int) == 0) = false := by simp; omega
  have hwr : wrap64 ((fuel : Int) - 1) = (f : Int) := by unfold wrap64; omega
  have hst := step_cost (f := f) HS.out rfl
  rw [← hf] at hst
  have HST : Hid _ := hst
  clear hz hfu hf hst
  repeat (first | (with_reducible refine xt_exit ?_) | (with_reducible refine xt_normal ?_) | (with_reducible refine xb_normal ?_) | (with_reducible refine xb_eq ?_) | (with_reducible refine xb_ne ?_ ?_; · decide) | (with_reducible refine xt_goto ?_) | (with_reducible refine xb_goto ?_) | go_values | go_skip | go_guarded | go_step | go_upon)
  have e : coreX C { s with pc := s.pc + 1 } ⟨0, X1, Y1⟩ = trapX { s with pc := s.pc + 1 } 38 := rfl
  exact HE.out.trap' (f := f) (e := 38) (S := s.S) (H := s.H) (wrap64 ((fuel : Int) - 1)) 38 (by rw [HST.out, e]; rfl) (by kernel_rfl) (by kernel_rfl) hwr rfl ⟨_, _, _, HX.out⟩
set_option maxHeartbeats 8000000 in
theorem c42_if {w0 : World} {N : Xn} {C : XC} {T : Nat → Prop} {s : Xs} {c : Ins} (ho : c.op = 4) : Case42 w0 N C T s c := by
  intro fuel w u Q ff ci ks h hq hG hc hcx hcc hj hf hu hx hfu h1000 hE
  obtain ⟨n, sp, hr⟩ := r42 hq hG hc hcc hf hx h1000
  obtain ⟨d0, d1, d2, hpc, hn, hn1, ⟨v0, b0⟩, ⟨v1, b1⟩, ⟨v2, b2⟩, g0, g1, g2, hsp, hsl, h120, h10, l10, b100, d5⟩ := hr
  obtain ⟨u2, u3, u12, u13, u20, u21, u22, kf⟩ := hf
  rw [hn] at u12
  rw [hsp] at u2
  have hX3 := ((hx.cset hq (i := 0) (by decide) (.int .u8 c.op)).cset hq (i := 1) (by decide) (.int .u32 c.x)).cset hq (i := 2) (by decide) (.int .u64 c.y)
  have h1h := (hj.if_ ho).1
  obtain ⟨t0, ht0⟩ : ∃ t0, s.topW = t0 := ⟨_, rfl⟩
  have HT : Hid _ := ht0
  have hsp1 : 1 ≤ sp := by omega
  obtain ⟨cw, gw⟩ := hx.word (i := s.ws.length - 1) (by omega) (by omega)
  have htr : t0 < 18446744073709551616 := by rw [← ht0]; exact hG.env.getD _
  unfold Xs.topW at ht0
  rw [ht0, hsp] at cw
  rw [hsp] at gw
  have hkc : N.kb ≠ N.cb := by have := hq.fix (k := N.kb) (.inl (.inr (.inl rfl))); have := hq.lo; have := hq.new; omega
  have hs1 : ((sp : Int) - 1).toNat = sp - 1 := by omega
  have hs2 : wrap64 ((sp : Int) - 1) = (sp : Int) - 1 := by unfold wrap64; omega
  have hs3 : ¬ ((sp : Int) - 1 < 0) := by omega
  have hs4 : (sp : Int) - 1 < 120 := by omega
  clear ht0 h1h
  obtain ⟨hx0, hxl⟩ : 0 ≤ c.x ∧ c.x < 4294967296 := by
    rcases (hj.if_ ho).2.2 with ⟨j, hx, hj2⟩ | ⟨g, hg, _⟩
    · obtain ⟨c2, hc2, _⟩ := hj2
      have := (List.getElem?_eq_some_iff.1 hc2).1
      simp at this
      omega
    · simp at hg
  have HE : Hid _ := hE
  have HX : Hid _ := hX3
  have HQ : Hid _ := hq
  have HG : Hid _ := hG
  have HCU : Hid _ := hc
  have HJ : Hid _ := hj
  have HKF : Hid _ := kf
  have HS : Hid _ := hcx
  have HN : Hid _ := hn
  have HSP : Hid _ := hsp
  have HSL : Hid _ := hsl
  clear hE hX3 kf hq hG hc hcc hj hx hn hcx hsp hsl
  obtain ⟨op, X1, Y1⟩ := c
  dsimp only at ho d0 d1 d2 hx0 hxl
  subst ho
  unfold fx fr42
  rw [hu, u2, u3, u12, u13, u20, u21, u22]
  conv => arg 2; whnf
  by_cases hz : fuel = 0
  · subst hz
    repeat (first | (with_reducible refine xt_exit ?_) | (with_reducible refine xt_normal ?_) | (with_reducible refine xb_normal ?_) | (with_reducible refine xb_eq ?_) | (with_reducible refine xb_ne ?_ ?_; · decide) | (with_reducible refine xt_goto ?_) | (with_reducible refine xb_goto ?_) | go_values | go_skip | go_guarded | go_step | go_upon)
    exact HE.out.trap _ _ 0 46 s.S s.H (step_dry HS.out rfl) (by kernel_rfl) (by kernel_rfl) ⟨_, _, _, HX.out⟩
  obtain ⟨f, hf⟩ : ∃ f, fuel = f + 1 := ⟨fuel - 1, by omega⟩
  have hz' : ((fuel : Int) == 0) = false := by simp; omega
  have hwr : wrap64 ((fuel : Int) - 1) = (f : Int) := by unfold wrap64; omega
  have hst := step_cost (f := f) HS.out rfl
  rw [← hf] at hst
  have HST : Hid _ := hst
  clear hz hfu hf hst
  have ecore : coreX C { s with pc := s.pc + 1 } ⟨4, X1, Y1⟩ = .ok { s with ws := s.ws.take (s.ws.length - 1), pc := if s.topW = 0 then X1.toNat else s.pc + 1 } := rfl
  have HCO : Hid _ := ecore
  clear ecore
  by_cases ht : t0 = 0
  · subst ht
    repeat (first | (with_reducible refine xt_exit ?_) | (with_reducible refine xt_normal ?_) | (with_reducible refine xb_normal ?_) | (with_reducible refine xb_eq ?_) | (with_reducible refine xb_ne ?_ ?_; · decide) | (with_reducible refine xt_goto ?_) | (with_reducible refine xb_goto ?_) | go_values | go_skip | go_guarded | go_step | go_upon)
    refine HE.out.next _ _ f (s.ws.take (s.ws.length - 1)) X1.toNat s.S s.H (by rw [HST.out, HCO.out, HT.out]; rfl) (mid (wrap64 ((fuel : Int) - 1)) ((sp : Int) - 1) (by kernel_rfl) (by kernel_rfl) (by kernel_rfl) (by kernel_rfl) (by kernel_rfl) (by kernel_rfl) (by kernel_rfl) (by kernel_rfl) hwr (by rw [List.length_take, HSP.out]; omega) HN.out HKF.out (HX.out.take _)) ?_
    rw [Int.toNat_of_nonneg hx0]
    kernel_rfl
  · have ht' : ((t0 : Int) == 0) = false := by simp; omega
    repeat (first | (with_reducible refine xt_exit ?_) | (with_reducible refine xt_normal ?_) | (with_reducible refine xb_normal ?_) | (with_reducible refine xb_eq ?_) | (with_reducible refine xb_ne ?_ ?_; · decide) | (with_reducible refine xt_goto ?_) | (with_reducible refine xb_goto ?_) | go_values | go_skip | go_guarded | go_step | go_upon)
    exact HE.out.next _ _ f (s.ws.take (s.ws.length - 1)) (s.pc + 1) s.S s.H (by rw [HST.out, HCO.out, HT.out, if_neg ht]) (mid (wrap64 ((fuel : Int) - 1)) ((sp : Int) - 1) (by kernel_rfl) (by kernel_rfl) (by kernel_rfl) (by kernel_rfl) (by kernel_rfl) (by kernel_rfl) (by kernel_rfl) (by kernel_rfl) hwr (by rw [List.length_take, HSP.out]; omega) HN.out HKF.out (HX.out.take _)) (by kernel_rfl)
end Go.Proofs.Qxb6500275aGreatDoor
