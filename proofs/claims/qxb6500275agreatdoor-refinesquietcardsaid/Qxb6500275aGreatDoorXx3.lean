import Derived.Test.Qxb6500275aGreatDoorXw3
import Derived.Deep.RegionWith
set_option maxRecDepth 1000000
set_option linter.unusedVariables false
set_option linter.unusedSimpArgs false
namespace Go.Proofs.Qxb6500275aGreatDoor
open Go Go.RowKit
set_option maxHeartbeats 8000000 in
theorem c42_drop {w0 : World} {N : Xn} {C : XC} {T : Nat → Prop} {s : Xs} {c : Ins} (ho : c.op = 26) : Case42 w0 N C T s c := by
  intro fuel w u Q ff ci ks h hq hG hc hcx hcc hj hf hu hx hfu h1000 hE
  obtain ⟨n, sp, hr⟩ := r42 hq hG hc hcc hf hx h1000
  obtain ⟨d0, d1, d2, hpc, hn, hn1, ⟨v0, b0⟩, ⟨v1, b1⟩, ⟨v2, b2⟩, g0, g1, g2, hsp, hsl, h120, h10, l10, b100, d5⟩ := hr
  obtain ⟨u2, u3, u12, u13, u20, u21, u22, kf⟩ := hf
  rw [hn] at u12
  rw [hsp] at u2
  have hX3 := ((hx.cset hq (i := 0) (by decide) (.int .u8 c.op)).cset hq (i := 1) (by decide) (.int .u32 c.x)).cset hq (i := 2) (by decide) (.int .u64 c.y)
  have hpl : ¬ (c.op = 4 ∨ c.op = 224 ∨ c.op = 12 ∨ c.op = 13 ∨ c.op = 225 ∨ c.op = 14 ∨ c.op = 15 ∨ c.op = 11) := by omega
  obtain ⟨hi, hth, _, hloc⟩ := plain_step hj hpl (by omega) (take := 1) (give := 0) (by unfold effectP; rw [if_neg (by omega), if_pos (by omega)])
  have hsp1 : 1 ≤ sp := by omega
  have hs2 : wrap64 ((sp : Int) - 1) = (sp : Int) - 1 := by unfold wrap64; omega
  clear hpl hloc hi
  have HE : Hid _ := hE
  have HX : Hid _ := hX3
  have HQ : Hid _ := hq
  have HG : Hid _ := hG
  have HCU : Hid _ := hc
  have HJ : Hid _ := hj
  have HKF : Hid _ := kf
  have HS : Hid _ := hcx
  have HN : Hid _ := hn
  have HSP : Hid _ := hsp
  have HSL : Hid _ := hsl
  clear hE hX3 kf hq hG hc hcc hj hx hn hcx hsp hsl
  obtain ⟨op, X1, Y1⟩ := c
  dsimp only at ho d0 d1 d2
  subst ho
  unfold fx fr42
  rw [hu, u2, u3, u12, u13, u20, u21, u22]
  conv => arg 2; whnf
  by_cases hz : fuel = 0
  · subst hz
    repeat (first | (with_reducible refine xt_exit ?_) | (with_reducible refine xt_normal ?_) | (with_reducible refine xb_normal ?_) | (with_reducible refine xb_eq ?_) | (with_reducible refine xb_ne ?_ ?_; · decide) | (with_reducible refine xt_goto ?_) | (with_reducible refine xb_goto ?_) | go_values | go_skip | go_guarded | go_step | go_step3 | go_upon)
    exact HE.out.trap _ _ 0 46 s.S s.H (step_dry HS.out rfl) (by kernel_rfl) (by kernel_rfl) ⟨_, _, _, HX.out⟩
  obtain ⟨f, hf⟩ : ∃ f, fuel = f + 1 := ⟨fuel - 1, by omega⟩
  have hz' : ((fuel : Int) == 0) = false := by simp; omega
  have hwr : wrap64 ((fuel : Int) - 1) = (f : Int) := by unfold wrap64; omega
  have hst := step_cost (f := f) HS.out rfl
  rw [← hf] at hst
  have HST : Hid _ := hst
  clear hz hfu hf hst
  have ecore : coreX C { s with pc := s.pc + 1 } ⟨26, X1, Y1⟩ = .ok { s with ws := s.ws.take (s.ws.length - 1), pc := s.pc + 1 } := rfl
  repeat (first | (with_reducible refine xt_exit ?_) | (with_reducible refine xt_normal ?_) | (with_reducible refine xb_normal ?_) | (with_reducible refine xb_eq ?_) | (with_reducible refine xb_ne ?_ ?_; · decide) | (with_reducible refine xt_goto ?_) | (with_reducible refine xb_goto ?_) | go_values | go_skip | go_guarded | go_step | go_step3 | go_upon)
  exact HE.out.next _ _ f (s.ws.take (s.ws.length - 1)) (s.pc + 1) s.S s.H (by rw [HST.out, ecore]) (mid (wrap64 ((fuel : Int) - 1)) ((sp : Int) - 1) (by kernel_rfl) (by kernel_rfl) (by kernel_rfl) (by kernel_rfl) (by kernel_rfl) (by kernel_rfl) (by kernel_rfl) (by kernel_rfl) hwr (by rw [List.length_take, HSP.out]; omega) HN.out HKF.out (HX.out.take _)) (by kernel_rfl)
set_option maxHeartbeats 8000000 in
theorem c42_const65 {w0 : World} {N : Xn} {C : XC} {T : Nat → Prop} {s : Xs} {c : Ins} (ho : c.op = 65) : Case42 w0 N C T s c := by
  intro fuel w u Q ff ci ks h hq hG hc hcx hcc hj hf hu hx hfu h1000 hE
  obtain ⟨n, sp, hr⟩ := r42 hq hG hc hcc hf hx h1000
  obtain ⟨d0, d1, d2, hpc, hn, hn1, ⟨v0, b0⟩, ⟨v1, b1⟩, ⟨v2, b2⟩, g0, g1, g2, hsp, hsl, h120, h10, l10, b100, d5⟩ := hr
  obtain ⟨u2, u3, u12, u13, u20, u21, u22, kf⟩ := hf
  rw [hn] at u12
  rw [hsp] at u2
  have hX3 := ((hx.cset hq (i := 0) (by decide) (.int .u8 c.op)).cset hq (i := 1) (by decide) (.int .u32 c.x)).cset hq (i := 2) (by decide) (.int .u64 c.y)
  have hpl : ¬ (c.op = 4 ∨ c.op = 224 ∨ c.op = 12 ∨ c.op = 13 ∨ c.op = 225 ∨ c.op = 14 ∨ c.op = 15 ∨ c.op = 11) := by omega
  obtain ⟨hi, hth, _, hloc⟩ := plain_step hj hpl (by omega) (take := 0) (give := 1) (by unfold effectP; rw [if_neg (by omega), if_neg (by omega), if_neg (by omega), if_pos (by omega)])
  have hgt : h + 1 ≤ 10 := by
    obtain ⟨_, _, hat, _⟩ := plain_step hj hpl (by omega) (take := 0) (give := 1) (by unfold effectP; rw [if_neg (by omega), if_neg (by omega), if_neg (by omega), if_pos (by omega)])
    have := Ato.top hc.fh.ht hat
    omega
  have h119 : sp < 120 := by have := hc.top; omega
  have h119' : (sp : Int) < 120 := by omega
  have hsn : ¬ ((sp : Int) < 0) := by omega
  obtain ⟨⟨vk, ck⟩, gk⟩ := hx.slot (i := sp) h119
  have hkc : N.kb ≠ N.cb := by have := hq.fix (k := N.kb) (.inl (.inr (.inl rfl))); have := hq.lo; have := hq.new; omega
  have hsw : wrap64 ((sp : Int) + 1) = (sp : Int) + 1 := by unfold wrap64; omega
  obtain ⟨hy0, hyl⟩ := hi.y
  clear hpl hloc hi
  have HE : Hid _ := hE
  have HX : Hid _ := hX3
  have HQ : Hid _ := hq
  have HG : Hid _ := hG
  have HCU : Hid _ := hc
  have HJ : Hid _ := hj
  have HKF : Hid _ := kf
  have HS : Hid _ := hcx
  have HN : Hid _ := hn
  have HSP : Hid _ := hsp
  have HSL : Hid _ := hsl
  clear hE hX3 kf hq hG hc hcc hj hx hn hcx hsp hsl
  obtain ⟨op, X1, Y1⟩ := c
  dsimp only at ho d0 d1 d2 hy0 hyl
  subst ho
  unfold fx fr42
  rw [hu, u2, u3, u12, u13, u20, u21, u22]
  conv => arg 2; whnf
  by_cases hz : fuel = 0
  · subst hz
    repeat (first | (with_reducible refine xt_exit ?_) | (with_reducible refine xt_normal ?_) | (with_reducible refine xb_normal ?_) | (with_reducible refine xb_eq ?_) | (with_reducible refine xb_ne ?_ ?_; · decide) | (with_reducible refine xt_goto ?_) | (with_reducible refine xb_goto ?_) | go_values | go_skip | go_guarded | go_step | go_step3 | go_upon)
    exact HE.out.trap _ _ 0 46 s.S s.H (step_dry HS.out rfl) (by kernel_rfl) (by kernel_rfl) ⟨_, _, _, HX.out⟩
  obtain ⟨f, hf⟩ : ∃ f, fuel = f + 1 := ⟨fuel - 1, by omega⟩
  have hz' : ((fuel : Int) == 0) = false := by simp; omega
  have hwr : wrap64 ((fuel : Int) - 1) = (f : Int) := by unfold wrap64; omega
  have hst := step_cost (f := f) HS.out rfl
  rw [← hf] at hst
  have HST : Hid _ := hst
  clear hz hfu hf hst
  have ecore : coreX C { s with pc := s.pc + 1 } ⟨65, X1, Y1⟩ = .ok { s with ws := s.ws ++ [Y1.toNat], pc := s.pc + 1 } := rfl
  have HP : Hid _ := HX.out.push HQ.out (v := Y1.toNat) HSP.out h119
  rw [Int.toNat_of_nonneg hy0] at HP
  repeat (first | (with_reducible refine xt_exit ?_) | (with_reducible refine xt_normal ?_) | (with_reducible refine xb_normal ?_) | (with_reducible refine xb_eq ?_) | (with_reducible refine xb_ne ?_ ?_; · decide) | (with_reducible refine xt_goto ?_) | (with_reducible refine xb_goto ?_) | go_values | go_skip | go_guarded | go_step | go_step3 | go_upon)
  exact HE.out.next _ _ f (s.ws ++ [Y1.toNat]) (s.pc + 1) s.S s.H (by rw [HST.out, ecore]) (mid (wrap64 ((fuel : Int) - 1)) ((sp : Int) + 1) (by kernel_rfl) (by kernel_rfl) (by kernel_rfl) (by kernel_rfl) (by kernel_rfl) (by kernel_rfl) (by kernel_rfl) (by kernel_rfl) hwr (by rw [List.length_append, HSP.out]; rfl) HN.out HKF.out HP.out) (by kernel_rfl)
set_option maxHeartbeats 8000000 in
theorem c42_const66 {w0 : World} {N : Xn} {C : XC} {T : Nat → Prop} {s : Xs} {c : Ins} (ho : c.op = 66) : Case42 w0 N C T s c := by
  intro fuel w u Q ff ci ks h hq hG hc hcx hcc hj hf hu hx hfu h1000 hE
  obtain ⟨n, sp, hr⟩ := r42 hq hG hc hcc hf hx h1000
  obtain ⟨d0, d1, d2, hpc, hn, hn1, ⟨v0, b0⟩, ⟨v1, b1⟩, ⟨v2, b2⟩, g0, g1, g2, hsp, hsl, h120, h10, l10, b100, d5⟩ := hr
  obtain ⟨u2, u3, u12, u13, u20, u21, u22, kf⟩ := hf
  rw [hn] at u12
  rw [hsp] at u2
  have hX3 := ((hx.cset hq (i := 0) (by decide) (.int .u8 c.op)).cset hq (i := 1) (by decide) (.int .u32 c.x)).cset hq (i := 2) (by decide) (.int .u64 c.y)
  have hpl : ¬ (c.op = 4 ∨ c.op = 224 ∨ c.op = 12 ∨ c.op = 13 ∨ c.op = 225 ∨ c.op = 14 ∨ c.op = 15 ∨ c.op = 11) := by omega
  obtain ⟨hi, hth, _, hloc⟩ := plain_step hj hpl (by omega) (take := 0) (give := 1) (by unfold effectP; rw [if_neg (by omega), if_neg (by omega), if_neg (by omega), if_pos (by omega)])
  have hgt : h + 1 ≤ 10 := by
    obtain ⟨_, _, hat, _⟩ := plain_step hj hpl (by omega) (take := 0) (give := 1) (by unfold effectP; rw [if_neg (by omega), if_neg (by omega), if_neg (by omega), if_pos (by omega)])
    have := Ato.top hc.fh.ht hat
    omega
  have h119 : sp < 120 := by have := hc.top; omega
  have h119' : (sp : Int) < 120 := by omega
  have hsn : ¬ ((sp : Int) < 0) := by omega
  obtain ⟨⟨vk, ck⟩, gk⟩ := hx.slot (i := sp) h119
  have hkc : N.kb ≠ N.cb := by have := hq.fix (k := N.kb) (.inl (.inr (.inl rfl))); have := hq.lo; have := hq.new; omega
  have hsw : wrap64 ((sp : Int) + 1) = (sp : Int) + 1 := by unfold wrap64; omega
  obtain ⟨hy0, hyl⟩ := hi.y
  clear hpl hloc hi
  have HE : Hid _ := hE
  have HX : Hid _ := hX3
  have HQ : Hid _ := hq
  have HG : Hid _ := hG
  have HCU : Hid _ := hc
  have HJ : Hid _ := hj
  have HKF : Hid _ := kf
  have HS : Hid _ := hcx
  have HN : Hid _ := hn
  have HSP : Hid _ := hsp
  have HSL : Hid _ := hsl
  clear hE hX3 kf hq hG hc hcc hj hx hn hcx hsp hsl
  obtain ⟨op, X1, Y1⟩ := c
  dsimp only at ho d0 d1 d2 hy0 hyl
  subst ho
  unfold fx fr42
  rw [hu, u2, u3, u12, u13, u20, u21, u22]
  conv => arg 2; whnf
  by_cases hz : fuel = 0
  · subst hz
    repeat (first | (with_reducible refine xt_exit ?_) | (with_reducible refine xt_normal ?_) | (with_reducible refine xb_normal ?_) | (with_reducible refine xb_eq ?_) | (with_reducible refine xb_ne ?_ ?_; · decide) | (with_reducible refine xt_goto ?_) | (with_reducible refine xb_goto ?_) | go_values | go_skip | go_guarded | go_step | go_step3 | go_upon)
    exact HE.out.trap _ _ 0 46 s.S s.H (step_dry HS.out rfl) (by kernel_rfl) (by kernel_rfl) ⟨_, _, _, HX.out⟩
  obtain ⟨f, hf⟩ : ∃ f, fuel = f + 1 := ⟨fuel - 1, by omega⟩
  have hz' : ((fuel : Int) == 0) = false := by simp; omega
  have hwr : wrap64 ((fuel : Int) - 1) = (f : Int) := by unfold wrap64; omega
  have hst := step_cost (f := f) HS.out rfl
  rw [← hf] at hst
  have HST : Hid _ := hst
  clear hz hfu hf hst
  have ecore : coreX C { s with pc := s.pc + 1 } ⟨66, X1, Y1⟩ = .ok { s with ws := s.ws ++ [Y1.toNat], pc := s.pc + 1 } := rfl
  have HP : Hid _ := HX.out.push HQ.out (v := Y1.toNat) HSP.out h119
  rw [Int.toNat_of_nonneg hy0] at HP
  repeat (first | (with_reducible refine xt_exit ?_) | (with_reducible refine xt_normal ?_) | (with_reducible refine xb_normal ?_) | (with_reducible refine xb_eq ?_) | (with_reducible refine xb_ne ?_ ?_; · decide) | (with_reducible refine xt_goto ?_) | (with_reducible refine xb_goto ?_) | go_values | go_skip | go_guarded | go_step | go_step3 | go_upon)
  exact HE.out.next _ _ f (s.ws ++ [Y1.toNat]) (s.pc + 1) s.S s.H (by rw [HST.out, ecore]) (mid (wrap64 ((fuel : Int) - 1)) ((sp : Int) + 1) (by kernel_rfl) (by kernel_rfl) (by kernel_rfl) (by kernel_rfl) (by kernel_rfl) (by kernel_rfl) (by kernel_rfl) (by kernel_rfl) hwr (by rw [List.length_append, HSP.out]; rfl) HN.out HKF.out HP.out) (by kernel_rfl)
end Go.Proofs.Qxb6500275aGreatDoor
