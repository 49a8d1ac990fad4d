import Derived.Test.Qxb6500275aGreatDoorXw3
import Derived.Deep.RegionWith
set_option maxRecDepth 1000000
set_option linter.unusedVariables false
set_option linter.unusedSimpArgs false
namespace Go.Proofs.Qxb6500275aGreatDoor
open Go Go.RowKit
set_option maxHeartbeats 8000000 in
theorem c42_ret {w0 : World} {N : Xn} {C : XC} {T : Nat → Prop} {s : Xs} {c : Ins} (ho : c.op = 15) : Case42 w0 N C T s c := by
  intro fuel w u Q ff ci ks h hq hG hc hcx hcc hj hf hu hx hfu h1000 hE
  obtain ⟨n, sp, hr⟩ := r42 hq hG hc hcc hf hx h1000
  obtain ⟨d0, d1, d2, hpc, hn, hn1, ⟨v0, b0⟩, ⟨v1, b1⟩, ⟨v2, b2⟩, g0, g1, g2, hsp, hsl, h120, h10, l10, b100, d5⟩ := hr
  obtain ⟨u2, u3, u12, u13, u20, u21, u22, kf⟩ := hf
  rw [hn] at u12
  rw [hsp] at u2
  have hX3 := ((hx.cset hq (i := 0) (by decide) (.int .u8 c.op)).cset hq (i := 1) (by decide) (.int .u32 c.x)).cset hq (i := 2) (by decide) (.int .u64 c.y)
  skip
  have HE : Hid _ := hE
  have HX : Hid _ := hX3
  have HQ : Hid _ := hq
  have HG : Hid _ := hG
  have HCU : Hid _ := hc
  have HJ : Hid _ := hj
  have HKF : Hid _ := kf
  have HS : Hid _ := hcx
  have HN : Hid _ := hn
  have HSP : Hid _ := hsp
  have HSL : Hid _ := hsl
  clear hE hX3 kf hq hG hc hcc hj hx hn hcx hsp hsl
  obtain ⟨op, X1, Y1⟩ := c
  dsimp only at ho d0 d1 d2
  subst ho
  unfold fx fr42
  rw [hu, u2, u3, u12, u13, u20, u21, u22]
  conv => arg 2; whnf
  by_cases hz : fuel = 0
  · subst hz
    repeat (first | (with_reducible refine xt_exit ?_) | (with_reducible refine xt_normal ?_) | (with_reducible refine xb_normal ?_) | (with_reducible refine xb_eq ?_) | (with_reducible refine xb_ne ?_ ?_; · decide) | (with_reducible refine xt_goto ?_) | (with_reducible refine xb_goto ?_) | go_values | go_skip | go_guarded | go_step | go_step3 | go_upon)
    exact HE.out.trap _ _ 0 46 s.S s.H (step_dry HS.out rfl) (by kernel_rfl) (by kernel_rfl) ⟨_, _, _, HX.out⟩
  obtain ⟨f, hf⟩ : ∃ f, fuel = f + 1 := ⟨fuel - 1, by omega⟩
  have hz' : ((fuel : Int) == 0) = false := by simp; omega
  have hwr : wrap64 ((fuel : Int) - 1) = (f : Int) := by unfold wrap64; omega
  have hst := step_cost (f := f) HS.out rfl
  rw [← hf] at hst
  have HST : Hid _ := hst
  clear hz hfu hf hst
  repeat (first | (with_reducible refine xt_exit ?_) | (with_reducible refine xt_normal ?_) | (with_reducible refine xb_normal ?_) | (with_reducible refine xb_eq ?_) | (with_reducible refine xb_ne ?_ ?_; · decide) | (with_reducible refine xt_goto ?_) | (with_reducible refine xb_goto ?_) | go_values | go_skip | go_guarded | go_step | go_step3 | go_upon)
  have e : coreX C { s with pc := s.pc + 1 } ⟨15, X1, Y1⟩ = leaveX C { s with pc := s.pc + 1 } := rfl
  exact HE.out.leave _ _ f (by rw [HST.out, e]) (mid (wrap64 ((fuel : Int) - 1)) (sp : Int) (by kernel_rfl) (by kernel_rfl) (by kernel_rfl) (by kernel_rfl) (by kernel_rfl) (by kernel_rfl) (by kernel_rfl) (by kernel_rfl) hwr (by rw [HSP.out]) HN.out HKF.out HX.out) (by rw [HS.out]; simp)
set_option maxHeartbeats 8000000 in
theorem c42_end {w0 : World} {N : Xn} {C : XC} {T : Nat → Prop} {s : Xs} {c : Ins} (ho : c.op = 11) : Case42 w0 N C T s c := by
  intro fuel w u Q ff ci ks h hq hG hc hcx hcc hj hf hu hx hfu h1000 hE
  obtain ⟨n, sp, hr⟩ := r42 hq hG hc hcc hf hx h1000
  obtain ⟨d0, d1, d2, hpc, hn, hn1, ⟨v0, b0⟩, ⟨v1, b1⟩, ⟨v2, b2⟩, g0, g1, g2, hsp, hsl, h120, h10, l10, b100, d5⟩ := hr
  obtain ⟨u2, u3, u12, u13, u20, u21, u22, kf⟩ := hf
  rw [hn] at u12
  rw [hsp] at u2
  have hX3 := ((hx.cset hq (i := 0) (by decide) (.int .u8 c.op)).cset hq (i := 1) (by decide) (.int .u32 c.x)).cset hq (i := 2) (by decide) (.int .u64 c.y)
  skip
  have HE : Hid _ := hE
  have HX : Hid _ := hX3
  have HQ : Hid _ := hq
  have HG : Hid _ := hG
  have HCU : Hid _ := hc
  have HJ : Hid _ := hj
  have HKF : Hid _ := kf
  have HS : Hid _ := hcx
  have HN : Hid _ := hn
  have HSP : Hid _ := hsp
  have HSL : Hid _ := hsl
  clear hE hX3 kf hq hG hc hcc hj hx hn hcx hsp hsl
  obtain ⟨op, X1, Y1⟩ := c
  dsimp only at ho d0 d1 d2
  subst ho
  unfold fx fr42
  rw [hu, u2, u3, u12, u13, u20, u21, u22]
  conv => arg 2; whnf
  clear hfu
  have hst := step_free (f := fuel) HS.out rfl
  have HST : Hid _ := hst
  clear hst
  repeat (first | (with_reducible refine xt_exit ?_) | (with_reducible refine xt_normal ?_) | (with_reducible refine xb_normal ?_) | (with_reducible refine xb_eq ?_) | (with_reducible refine xb_ne ?_ ?_; · decide) | (with_reducible refine xt_goto ?_) | (with_reducible refine xb_goto ?_) | go_values | go_skip | go_guarded | go_step | go_step3 | go_upon)
  have e : coreX C { s with pc := s.pc + 1 } ⟨11, X1, Y1⟩ = leaveX C { s with pc := s.pc + 1 } := rfl
  exact HE.out.leave _ _ fuel (by rw [HST.out, e]) (mid (fuel : Int) (sp : Int) (by kernel_rfl) (by kernel_rfl) (by kernel_rfl) (by kernel_rfl) (by kernel_rfl) (by kernel_rfl) (by kernel_rfl) (by kernel_rfl) rfl (by rw [HSP.out]) HN.out HKF.out HX.out) (by rw [HS.out]; simp)
set_option maxHeartbeats 8000000 in
theorem c42_call {w0 : World} {N : Xn} {C : XC} {T : Nat → Prop} {s : Xs} {c : Ins} (ho : c.op = 16) : Case42 w0 N C T s c := by
  intro fuel w u Q ff ci ks h hq hG hc hcx hcc hj hf hu hx hfu h1000 hE
  obtain ⟨n, sp, hr⟩ := r42 hq hG hc hcc hf hx h1000
  obtain ⟨d0, d1, d2, hpc, hn, hn1, ⟨v0, b0⟩, ⟨v1, b1⟩, ⟨v2, b2⟩, g0, g1, g2, hsp, hsl, h120, h10, l10, b100, d5⟩ := hr
  obtain ⟨u2, u3, u12, u13, u20, u21, u22, kf⟩ := hf
  rw [hn] at u12
  rw [hsp] at u2
  have hX3 := ((hx.cset hq (i := 0) (by decide) (.int .u8 c.op)).cset hq (i := 1) (by decide) (.int .u32 c.x)).cset hq (i := 2) (by decide) (.int .u64 c.y)
  have hpl : ¬ (c.op = 4 ∨ c.op = 224 ∨ c.op = 12 ∨ c.op = 13 ∨ c.op = 225 ∨ c.op = 14 ∨ c.op = 15 ∨ c.op = 11) := by omega
  obtain ⟨hx0, hxl, t, hty, htp⟩ : 0 ≤ c.x ∧ c.x < 4294967296 ∧ ∃ t, C.M.typeOf ((c.x.toNat : Nat) : Int) = some t ∧ t.p.size ≤ sp := by
    obtain ⟨hi, take, give, hef, h1, h2, _⟩ := hj.plain hpl
    unfold effectP at hef
    rw [if_neg (by omega), if_neg (by omega), if_neg (by omega), if_neg (by omega), if_neg (by omega), if_pos ho] at hef
    refine ⟨hi.x.1, hi.x.2, ?_⟩
    cases ht : C.M.typeOf c.x with
    | none => rw [ht] at hef; simp at hef
    | some t =>
      rw [ht] at hef
      simp at hef
      exact ⟨t, by rw [Int.toNat_of_nonneg hi.x.1]; exact ht, by omega⟩
  have HTY : Hid _ := hty
  clear hty hpl
  have HE : Hid _ := hE
  have HX : Hid _ := hX3
  have HQ : Hid _ := hq
  have HG : Hid _ := hG
  have HCU : Hid _ := hc
  have HJ : Hid _ := hj
  have HKF : Hid _ := kf
  have HS : Hid _ := hcx
  have HN : Hid _ := hn
  have HSP : Hid _ := hsp
  have HSL : Hid _ := hsl
  clear hE hX3 kf hq hG hc hcc hj hx hn hcx hsp hsl
  obtain ⟨op, X1, Y1⟩ := c
  dsimp only at ho d0 d1 d2 hx0 hxl HTY
  subst ho
  unfold fx fr42
  rw [hu, u2, u3, u12, u13, u20, u21, u22]
  conv => arg 2; whnf
  by_cases hz : fuel = 0
  · subst hz
    repeat (first | (with_reducible refine xt_exit ?_) | (with_reducible refine xt_normal ?_) | (with_reducible refine xb_normal ?_) | (with_reducible refine xb_eq ?_) | (with_reducible refine xb_ne ?_ ?_; · decide) | (with_reducible refine xt_goto ?_) | (with_reducible refine xb_goto ?_) | go_values | go_skip | go_guarded | go_step | go_step3 | go_upon)
    exact HE.out.trap _ _ 0 46 s.S s.H (step_dry HS.out rfl) (by kernel_rfl) (by kernel_rfl) ⟨_, _, _, HX.out⟩
  obtain ⟨f, hf⟩ : ∃ f, fuel = f + 1 := ⟨fuel - 1, by omega⟩
  have hz' : ((fuel : Int) == 0) = false := by simp; omega
  have hwr : wrap64 ((fuel : Int) - 1) = (f : Int) := by unfold wrap64; omega
  have hst := step_cost (f := f) HS.out rfl
  rw [← hf] at hst
  have HST : Hid _ := hst
  clear hz hfu hf hst
  repeat (first | (with_reducible refine xt_exit ?_) | (with_reducible refine xt_normal ?_) | (with_reducible refine xb_normal ?_) | (with_reducible refine xb_eq ?_) | (with_reducible refine xb_ne ?_ ?_; · decide) | (with_reducible refine xt_goto ?_) | (with_reducible refine xb_goto ?_) | go_values | go_skip | go_guarded | go_step | go_step3 | go_upon)
  have e : coreX C { s with pc := s.pc + 1 } ⟨16, X1, Y1⟩ = enterX C s.ws (⟨s.fn, s.pc + 1, s.base⟩ :: s.fr) X1.toNat s.S s.H := rfl
  refine HE.out.enter _ _ f s.ws X1.toNat (by rw [HST.out, e]) (mid (wrap64 ((fuel : Int) - 1)) (sp : Int) (by kernel_rfl) (by kernel_rfl) (by kernel_rfl) (by kernel_rfl) (by kernel_rfl) (by kernel_rfl) (by kernel_rfl) (by kernel_rfl) hwr (by rw [HSP.out]) HN.out HKF.out HX.out) ?_ (by kernel_rfl) ⟨t, HTY.out, by rw [HSP.out]; exact htp⟩
  rw [Int.toNat_of_nonneg hx0]
  kernel_rfl
end Go.Proofs.Qxb6500275aGreatDoor
