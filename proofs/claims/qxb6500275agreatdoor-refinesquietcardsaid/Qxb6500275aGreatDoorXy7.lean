import Derived.Test.Qxb6500275aGreatDoorXw3
import Derived.Deep.RegionWith
import Derived.StillTailTactics
import Derived.Deep.QuietTactic
import Derived.BigQuiet
import Derived.Test.Qxb6500275aGreatDoorXw7
set_option maxRecDepth 1000000
set_option linter.unusedVariables false
set_option linter.unusedSimpArgs false
namespace Go.Proofs.Qxb6500275aGreatDoor
open Go Go.RowKit
set_option maxHeartbeats 8000000 in
theorem c42_store {w0 : World} {N : Xn} {C : XC} {T : Nat → Prop} {s : Xs} {c : Ins} (ho : 54 ≤ c.op ∧ c.op ≤ 62) : Case42 w0 N C T s c := by
  intro fuel w u Q ff ci ks h hq hG hc hcx hcc hj hf hu hx hfu h1000 hE
  obtain ⟨n, sp, hr⟩ := r42 hq hG hc hcc hf hx h1000
  obtain ⟨d0, d1, d2, hpc, hn, hn1, ⟨v0, b0⟩, ⟨v1, b1⟩, ⟨v2, b2⟩, g0, g1, g2, hsp, hsl, h120, h10, l10, b100, d5⟩ := hr
  obtain ⟨u2, u3, u12, u13, u20, u21, u22, kf⟩ := hf
  rw [hn] at u12
  rw [hsp] at u2
  have hX3 := ((hx.cset hq (i := 0) (by decide) (.int .u8 c.op)).cset hq (i := 1) (by decide) (.int .u32 c.x)).cset hq (i := 2) (by decide) (.int .u64 c.y)
  have hpl : ¬ (c.op = 4 ∨ c.op = 224 ∨ c.op = 12 ∨ c.op = 13 ∨ c.op = 225 ∨ c.op = 14 ∨ c.op = 15 ∨ c.op = 11) := by omega
  obtain ⟨hi, take, give, hef, hth, _, _⟩ := hj.plain hpl
  have hth2 : 2 ≤ h := by
    unfold effectP at hef
    rw [if_neg (by omega), if_neg (by omega), if_neg (by omega), if_neg (by omega), if_neg (by omega), if_neg (by omega), if_neg (by omega), if_neg (by omega), if_pos (by omega)] at hef
    simp at hef
    omega
  clear hpl hef
  have hsp2 : 2 ≤ sp := by have := hsl; omega
  have ne224 : ((c.op : Int) == 224) = false := by simp; omega
  have ne11 : ((c.op : Int) == 11) = false := by simp; omega
  have ne0 : ((c.op : Int) == 0) = false := by simp; omega
  have ne1 : ((c.op : Int) == 1) = false := by simp; omega
  have ne4 : ((c.op : Int) == 4) = false := by simp; omega
  have ne13 : ((c.op : Int) == 13) = false := by simp; omega
  have ne12 : ((c.op : Int) == 12) = false := by simp; omega
  have ne14 : ((c.op : Int) == 14) = false := by simp; omega
  have ne15 : ((c.op : Int) == 15) = false := by simp; omega
  have ne16 : ((c.op : Int) == 16) = false := by simp; omega
  have ne17 : ((c.op : Int) == 17) = false := by simp; omega
  have ne33 : ((c.op : Int) == 33) = false := by simp; omega
  have ne26 : ((c.op : Int) == 26) = false := by simp; omega
  have ne34 : ((c.op : Int) == 34) = false := by simp; omega
  have ne32 : ((c.op : Int) == 32) = false := by simp; omega
  have ne27 : ((c.op : Int) == 27) = false := by simp; omega
  have ne35 : ((c.op : Int) == 35) = false := by simp; omega
  have ne36 : ((c.op : Int) == 36) = false := by simp; omega
  have ne63 : ((c.op : Int) == 63) = false := by simp; omega
  have ne64 : ((c.op : Int) == 64) = false := by simp; omega
  have ne65 : ((c.op : Int) == 65) = false := by simp; omega
  have ne66 : ((c.op : Int) == 66) = false := by simp; omega
  have ne67 : ((c.op : Int) == 67) = false := by simp; omega
  have ne68 : ((c.op : Int) == 68) = false := by simp; omega
  have ne69 : ((c.op : Int) == 69) = false := by simp; omega
  have ne106 : ((c.op : Int) == 106) = false := by simp; omega
  have nf224 : ((c.op : Int) != 224) = true := by simp; omega
  have nf11 : ((c.op : Int) != 11) = true := by simp; omega
  have hsp1 : 1 ≤ sp := by have := hth2; have := hsl; omega
  obtain ⟨t0, ht0⟩ : ∃ t0, s.topW = t0 := ⟨_, rfl⟩
  have HT : Hid _ := ht0
  have hwp2 : s.ws.length ≤ 120 := by rw [hsp]; exact h120
  have hwp : s.ws.length - 1 < s.ws.length := by rw [hsp]; exact Nat.sub_lt hsp1 (by decide)
  obtain ⟨cw, gw⟩ := hx.word (i := s.ws.length - 1) hwp hwp2
  have htr : t0 < 18446744073709551616 := by rw [← ht0]; exact hG.env.getD _
  unfold Xs.topW at ht0
  rw [ht0, hsp] at cw
  rw [hsp] at gw
  have hkc := (kb_cb hq).1
  obtain ⟨hs1, hs2, hs3, hs4⟩ := popx hsp1 h120
  clear ht0 hwp hwp2
  have c3 := hx.c.c3
  have hxc : N.xb ≠ N.cb := by have h1 := hq.fix (k := N.xb) (.inl (.inl rfl)); have h2 := hq.lo; have h3 := hq.new; omega
  have HCS : Hid _ := hX3.word (i := s.ws.length - 2) (by rw [hsp]; omega) (by rw [hsp]; exact h120)
  have HCT : Hid _ := hX3.word (i := s.ws.length - 1) (by rw [hsp]; omega) (by rw [hsp]; exact h120)
  obtain ⟨a0, ha0⟩ : ∃ a0, s.ws.getD (s.ws.length - 2) 0 = a0 := ⟨_, rfl⟩
  have HA0 : Hid _ := ha0
  have har : a0 < 18446744073709551616 := by rw [← ha0]; exact hG.env.getD _
  clear ha0
  have HC3 : Hid _ := hX3.c.c3
  have HCB1 : Hid _ := (cb3 (v0 := v0) (a := .int .u8 c.op) (c := .int .u32 c.x) (d := .int .u64 c.y) b1 b2).1
  have HCB2 : Hid _ := (cb3 (v0 := v0) (a := .int .u8 c.op) (c := .int .u32 c.x) (d := .int .u64 c.y) b1 b2).2
  have HSZ : Hid _ := hX3.slot (i := sp - 1) (by omega)
  have hcb0 : (((w.setCell ⟨N.cb, 0, none⟩ (.int .u8 (c.op : Int))).setCell ⟨N.cb, 1, none⟩ (.int .u32 c.x)).setCell ⟨N.cb, 2, none⟩ (.int .u64 c.y)).cell? ⟨N.cb, 0, none⟩ = some (.int .u8 (c.op : Int)) := by
    rw [World.cell?_setCell_other _ _ _ _ (by simp), World.cell?_setCell_other _ _ _ _ (by simp)]
    exact World.cell?_setCell_same _ _ _ b0
  have HCB0 : Hid _ := hcb0
  clear hcb0
  have hy0 := hi.y.1
  clear hi
  have HE : Hid _ := hE
  have HX : Hid _ := hX3
  have HQ : Hid _ := hq
  have HG : Hid _ := hG
  have HCU : Hid _ := hc
  have HJ : Hid _ := hj
  have HKF : Hid _ := kf
  have HS : Hid _ := hcx
  have HN : Hid _ := hn
  have HSP : Hid _ := hsp
  have HSL : Hid _ := hsl
  clear hE hX3 kf hq hG hc hcc hj hx hn hcx hsp hsl
  obtain ⟨op, X1, Y1⟩ := c
  dsimp only at ho d0 d1 d2 HCB0 HCB1 HCB2 hy0 ne224 ne11 ne0 ne1 ne4 ne13 ne12 ne14 ne15 ne16 ne17 ne33 ne26 ne34 ne32 ne27 ne35 ne36 ne63 ne64 ne65 ne66 ne67 ne68 ne69 ne106 nf224 nf11
  skip
  unfold fx fr42
  rw [hu, u2, u3, u12, u13, u20, u21, u22]
  conv => arg 2; whnf
  by_cases hz : fuel = 0
  · subst hz
    repeat (first | (with_reducible refine xt_exit ?_) | (with_reducible refine xt_normal ?_) | (with_reducible refine xb_normal ?_) | (with_reducible refine xb_eq ?_) | (with_reducible refine xb_ne ?_ ?_; · decide) | (with_reducible refine xt_goto ?_) | (with_reducible refine xb_goto ?_) | go_values | go_skip | go_guarded | go_step | go_step3 | go_upon)
    exact HE.out.trap _ _ 0 46 s.S s.H (step_dry HS.out (by unfold free; simp; omega)) (by kernel_rfl) (by kernel_rfl) ⟨_, _, _, HX.out⟩
  obtain ⟨f, hf, hz', hwr⟩ := dryx hz hfu
  have hst := step_cost (f := f) HS.out (by unfold free; simp; omega)
  rw [← hf] at hst
  have HST : Hid _ := hst
  clear hz hfu hf hst
  have ecore : coreX C { s with pc := s.pc + 1 } ⟨op, X1, Y1⟩ = (match saveS s.S op (lo32 (s.ws.getD (s.ws.length - 2) 0)) (Y1 % 4294967296).toNat s.topW with | none => trapX { s with pc := s.pc + 1 } 42 | some S' => .ok { s with ws := s.ws.take (s.ws.length - 2), S := S', pc := s.pc + 1 }) := by
    unfold coreX
    dsimp only
    rw [if_neg (by omega), if_neg (by omega), if_neg (by omega), if_neg (by omega), if_neg (by omega), if_neg (by omega), if_neg (by omega), if_neg (by omega), if_neg (by omega), if_neg (by omega), if_neg (by omega), if_neg (by omega), if_neg (by omega), if_neg (by omega), if_neg (by omega), if_neg (by omega), if_neg (by omega), if_neg (by omega), if_neg (by omega), if_neg (by omega), if_neg (by omega), if_neg (by omega), if_neg (by omega), if_pos (by omega)]
    rfl
  rw [HT.out, HA0.out] at ecore
  have hwu := u32w (t := a0)
  have hwy := u32y hy0
  obtain ⟨d, hd⟩ : ∃ d, lo32 a0 = d := ⟨_, rfl⟩
  have hdr : d < 4294967296 := by rw [← hd]; unfold lo32; omega
  obtain ⟨q, hq9⟩ : ∃ q, (Y1 % 4294967296).toNat = q := ⟨_, rfl⟩
  have hqr : q < 4294967296 := by omega
  rw [hd] at ecore hwu
  rw [hq9] at ecore hwy
  have hop6 : IntKind.i64.wrap (op : Int) = (op : Int) := iwr (by omega) (by omega)
  have h53 : ((op : Int) ≤ 53) = False := by simp; omega
  have h62 : (op : Int) ≤ 62 := by omega
  have HCO : Hid _ := ecore
  clear ecore hd hq9
  repeat (first | (with_reducible refine xt_exit ?_) | (with_reducible refine xt_normal ?_) | (with_reducible refine xb_normal ?_) | (with_reducible refine xb_eq ?_) | (with_reducible refine xb_ne ?_ ?_; · decide) | (with_reducible refine xt_goto ?_) | (with_reducible refine xb_goto ?_) | go_values | go_skip | go_guarded | go_step | go_step3 | go_upon)
  generalize (((w.setCell ⟨N.cb, 0, none⟩ (.int .u8 (op : Int))).setCell ⟨N.cb, 1, none⟩ (.int .u32 X1)).setCell ⟨N.cb, 2, none⟩ (.int .u64 Y1)) = W at HX HCS HCT HC3 HCB0 HCB1 HCB2 HSZ ⊢
  have cb0 := HCB0.out
  obtain ⟨cs1, gs1⟩ := HCS.out
  rw [HA0.out, HSP.out] at cs1
  obtain ⟨cw1, gw1⟩ := HCT.out
  have cx3 := HC3.out
  have cb1 := HCB1.out
  have cb2 := HCB2.out
  have hTT := HT.out
  unfold Xs.topW at hTT
  rw [hTT, HSP.out] at cw1
  rw [HSP.out] at gw1
  have hi1 : IntKind.i64.wrap ((sp : Int) - 1) = (sp : Int) - 1 := iwr (by omega) (by omega)
  have hi2 : (1 : Int) ≤ (sp : Int) := by omega
  clear hTT HCT HC3 HCB1 HCB2 HSZ cw gw d0 d1 d2 b0 b1 b2 g0 g1 g2 c3
  have hj3 : IntKind.i64.wrap ((sp : Int) - 1 - 1) = (sp : Int) - 2 := by rw [iwr (by omega) (by omega)]; omega
  have hj4 : (2 : Int) ≤ (sp : Int) := by omega
  have hj5 : ((sp : Int) - 2).toNat = sp - 2 := by omega
  have hj6 : (sp : Int) - 2 < 120 := by omega
  have hj7 : IntKind.i64.wrap ((sp : Int) - 2) = (sp : Int) - 2 := iwr (by omega) (by omega)
  have hj8 : IntKind.i64.wrap ((sp : Int) - 2 + 1) = (sp : Int) - 1 := by rw [iwr (by omega) (by omega)]; omega
  clear HCS
  clear HCB0
  have hcal := save_calls HX.out.drew.mm HG.out.env.sm op d q t0 ho.1 ho.2 hdr hqr htr
  go_still_tail 20, (by kernel_rfl)
  repeat (first | (with_reducible refine xt_exit ?_) | (with_reducible refine xt_normal ?_) | (with_reducible refine xb_normal ?_) | (with_reducible refine xb_eq ?_) | (with_reducible refine xb_ne ?_ ?_; · decide) | (with_reducible refine xt_goto ?_) | (with_reducible refine xb_goto ?_) | go_values | go_skip | go_guarded | go_step | go_step3 | go_upon)
  refine hcal.mono ?_
  clear hcal
  cases hl : saveS s.S op d q t0 with
  | none =>
    rw [hl] at HCO
    rintro en w6 ⟨rfl, rfl⟩
    have HX6 : Hid _ := HX.out.drew
    clear hl
    dsimp only
    repeat (first | (with_reducible refine xt_exit ?_) | (with_reducible refine xt_normal ?_) | (with_reducible refine xb_normal ?_) | (with_reducible refine xb_eq ?_) | (with_reducible refine xb_ne ?_ ?_; · decide) | (with_reducible refine xt_goto ?_) | (with_reducible refine xb_goto ?_) | go_values | go_skip | go_guarded | go_step | go_step3 | go_upon)
    exact HE.out.trap' (f := f) (e := 42) (S := s.S) (H := s.H) (f : Int) 42 (by rw [HST.out, HCO.out]; rfl) (by kernel_rfl) (by kernel_rfl) rfl rfl ⟨_, _, _, HX6.out⟩
  | some S' =>
    rw [hl] at HCO
    rintro en w6 ⟨rfl, hk6, hm6⟩
    have HX6 : Hid _ := (HX.out.drew.store HQ.out (hk6.mono (fun _ e => .inr e)) hm6).take (s.ws.length - 2)
    clear hl hk6 hm6
    dsimp only
    repeat (first | (with_reducible refine xt_exit ?_) | (with_reducible refine xt_normal ?_) | (with_reducible refine xb_normal ?_) | (with_reducible refine xb_eq ?_) | (with_reducible refine xb_ne ?_ ?_; · decide) | (with_reducible refine xt_goto ?_) | (with_reducible refine xb_goto ?_) | go_values | go_skip | go_guarded | go_step | go_step3 | go_upon)
    exact HE.out.next _ _ f (s.ws.take (s.ws.length - 2)) (s.pc + 1) S' s.H (by rw [HST.out, HCO.out]) (mid (f : Int) ((sp : Int) - 2) (by kernel_rfl) (by kernel_rfl) (by kernel_rfl) (by kernel_rfl) (by kernel_rfl) (by kernel_rfl) (by kernel_rfl) (by kernel_rfl) rfl (len_t2 HSP.out hsp2) HN.out HKF.out HX6.out) (by kernel_rfl)
end Go.Proofs.Qxb6500275aGreatDoor
