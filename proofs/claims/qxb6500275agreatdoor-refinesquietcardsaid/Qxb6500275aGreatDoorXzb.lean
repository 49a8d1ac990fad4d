import Derived.Test.Qxb6500275aGreatDoorXw3
import Derived.Deep.RegionWith
import Derived.StillTailTactics
import Derived.Deep.QuietTactic
import Derived.BigQuiet
import Derived.Laws.StructEq
import Derived.Test.Qxb6500275aGreatDoorXw7
set_option maxRecDepth 1000000
set_option linter.unusedVariables false
set_option linter.unusedSimpArgs false
namespace Go.Proofs.Qxb6500275aGreatDoor
open Go Go.RowKit
theorem eq90 (p0 p1 p2 p3 p4 p5 k0 k1 k2 k3 k4 k5 : Int) (w : World) : (Op.equalIn 10000 90 (.agg #[.int .u8 p0, .int .u8 p1, .int .u8 p2, .int .u8 p3, .int .u8 p4, .int .u8 p5]) (.agg #[.int .u8 k0, .int .u8 k1, .int .u8 k2, .int .u8 k3, .int .u8 k4, .int .u8 k5])).run Tryz.prog w = .ok (decide (p0 = k0 ∧ p1 = k1 ∧ p2 = k2 ∧ p3 = k3 ∧ p4 = k4 ∧ p5 = k5)) w := by
  have u5 := Tryz.underlying5
  have a5 := Tryz.isAgg5
  have z5 := Tryz.sizeOf5
  rw [show (10000 : Nat) = 9999 + 1 from rfl, Op.equalIn]
  simp only [Sem.run_bind, run_underlying Tryz.underlying90, Result.andThen_ok]
  simp only [Std.Legacy.Range.forIn_eq_forIn_range', Std.Legacy.Range.size, Nat.sub_zero, Nat.add_sub_cancel, Nat.div_one, List.range'_succ, List.range'_zero, List.forIn_cons, List.forIn_nil]
  go_simp
  by_cases h0 : p0 = k0
  · by_cases h1 : p1 = k1
    · by_cases h2 : p2 = k2
      · by_cases h3 : p3 = k3
        · by_cases h4 : p4 = k4
          · by_cases h5 : p5 = k5 <;> simp [h0, h1, h2, h3, h4, h5]
          · simp [h0, h1, h2, h3, h4]
        · simp [h0, h1, h2, h3]
      · simp [h0, h1, h2]
    · simp [h0, h1]
  · simp [h0]
theorem Qm_kp {w : World} {v : Value} {e : Ending} {w' : World} (h : Qm w v e w') : e = .returned v ∧ Kp (fun _ => False) w w' := by
  obtain ⟨h1, rfl⟩ := h
  exact ⟨h1, Kp.refl _ _⟩
set_option maxHeartbeats 8000000 in
theorem c42_ci {w0 : World} {N : Xn} {C : XC} {T : Nat → Prop} {s : Xs} {c : Ins} (ho : c.op = 17) (hTy : ∀ j : Nat, j < C.M.imports.length + C.M.funcs.length → ∃ t, C.M.typeOf (j : Int) = some t) : Case42 w0 N C T s c := by
  intro fuel w u Q ff ci ks h hq hG hc hcx hcc hj hf hu hx hfu h1000 hE
  obtain ⟨n, sp, hr⟩ := r42 hq hG hc hcc hf hx h1000
  obtain ⟨d0, d1, d2, hpc, hn, hn1, ⟨v0, b0⟩, ⟨v1, b1⟩, ⟨v2, b2⟩, g0, g1, g2, hsp, hsl, h120, h10, l10, b100, d5⟩ := hr
  obtain ⟨u2, u3, u12, u13, u20, u21, u22, kf⟩ := hf
  rw [hn] at u12
  rw [hsp] at u2
  have hX3 := ((hx.cset hq (i := 0) (by decide) (.int .u8 c.op)).cset hq (i := 1) (by decide) (.int .u32 c.x)).cset hq (i := 2) (by decide) (.int .u64 c.y)
  have hpl : ¬ (c.op = 4 ∨ c.op = 224 ∨ c.op = 12 ∨ c.op = 13 ∨ c.op = 225 ∨ c.op = 14 ∨ c.op = 15 ∨ c.op = 11) := by omega
  obtain ⟨hx0, hxl, ty, hu, hth⟩ : 0 ≤ c.x ∧ c.x < 4294967296 ∧ ∃ t, C.M.types[c.x.toNat]? = some t ∧ t.p.size + 1 ≤ h := by
    obtain ⟨hi, take, give, hef, h1, h2, _⟩ := hj.plain hpl
    unfold effectP at hef
    rw [if_neg (by omega), if_neg (by omega), if_neg (by omega), if_neg (by omega), if_neg (by omega), if_neg (by omega), if_pos ho] at hef
    refine ⟨hi.x.1, hi.x.2, ?_⟩
    cases ht : C.M.types[c.x.toNat]? with
    | none => rw [ht] at hef; simp at hef
    | some t =>
      rw [ht] at hef
      simp at hef
      exact ⟨t, rfl, by omega⟩
  clear hpl
  have hth1 : 1 ≤ h := by omega
  have hsp1 : 1 ≤ sp := by have := hth1; have := hsl; omega
  obtain ⟨t0, ht0⟩ : ∃ t0, s.topW = t0 := ⟨_, rfl⟩
  have HT : Hid _ := ht0
  have hwp2 : s.ws.length ≤ 120 := by rw [hsp]; exact h120
  have hwp : s.ws.length - 1 < s.ws.length := by rw [hsp]; exact Nat.sub_lt hsp1 (by decide)
  obtain ⟨cw, gw⟩ := hx.word (i := s.ws.length - 1) hwp hwp2
  have htr : t0 < 18446744073709551616 := by rw [← ht0]; exact hG.env.getD _
  unfold Xs.topW at ht0
  rw [ht0, hsp] at cw
  rw [hsp] at gw
  have hkc := (kb_cb hq).1
  obtain ⟨hs1, hs2, hs3, hs4⟩ := popx hsp1 h120
  clear ht0 hwp hwp2
  have c3 := hx.c.c3
  have hxc : N.xb ≠ N.cb := by have h1 := hq.fix (k := N.xb) (.inl (.inl rfl)); have h2 := hq.lo; have h3 := hq.new; omega
  have HCT : Hid _ := hX3.word (i := s.ws.length - 1) (by rw [hsp]; omega) (by rw [hsp]; exact h120)
  have HC3 : Hid _ := hX3.c.c3
  have HCB1 : Hid _ := (cb3 (v0 := v0) (a := .int .u8 c.op) (c := .int .u32 c.x) (d := .int .u64 c.y) b1 b2).1
  have HCB2 : Hid _ := (cb3 (v0 := v0) (a := .int .u8 c.op) (c := .int .u32 c.x) (d := .int .u64 c.y) b1 b2).2
  have HSZ : Hid _ := hX3.slot (i := sp - 1) (by omega)
  have HU : Hid _ := hu
  clear hu
  have HE : Hid _ := hE
  have HX : Hid _ := hX3
  have HQ : Hid _ := hq
  have HG : Hid _ := hG
  have HCU : Hid _ := hc
  have HJ : Hid _ := hj
  have HKF : Hid _ := kf
  have HS : Hid _ := hcx
  have HN : Hid _ := hn
  have HSP : Hid _ := hsp
  have HSL : Hid _ := hsl
  clear hE hX3 kf hq hG hc hcc hj hx hn hcx hsp hsl
  obtain ⟨op, X1, Y1⟩ := c
  dsimp only at ho d0 d1 d2 hx0 hxl HU HCB1 HCB2
  subst ho
  obtain ⟨xn, hxn⟩ : ∃ xn : Nat, X1 = xn := ⟨X1.toNat, (Int.toNat_of_nonneg hx0).symm⟩
  subst hxn
  have hu9 := HU.out
  simp only [Int.toNat_natCast] at hu9
  clear HU
  have HU : Hid _ := hu9
  clear hu9
  unfold fx fr42
  rw [hu, u2, u3, u12, u13, u20, u21, u22]
  conv => arg 2; whnf
  by_cases hz : fuel = 0
  · subst hz
    repeat (first | (with_reducible refine xt_exit ?_) | (with_reducible refine xt_normal ?_) | (with_reducible refine xb_normal ?_) | (with_reducible refine xb_eq ?_) | (with_reducible refine xb_ne ?_ ?_; · decide) | (with_reducible refine xt_goto ?_) | (with_reducible refine xb_goto ?_) | go_values | go_skip | go_guarded | go_step | go_step3 | go_upon)
    exact HE.out.trap _ _ 0 46 s.S s.H (step_dry HS.out rfl) (by kernel_rfl) (by kernel_rfl) ⟨_, _, _, HX.out⟩
  obtain ⟨f, hf, hz', hwr⟩ := dryx hz hfu
  have hst := step_cost (f := f) HS.out rfl
  rw [← hf] at hst
  have HST : Hid _ := hst
  clear hz hfu hf hst
  have ecore : coreX C { s with pc := s.pc + 1 } ⟨17, (xn : Int), Y1⟩ = (if (elemS s.S (lo32 s.topW)).2 ≠ 0 then trapX { s with pc := s.pc + 1 } (elemS s.S (lo32 s.topW)).2 else
      match C.M.typeOf (elemS s.S (lo32 s.topW)).1, C.M.types[xn]? with
      | some t, some u => if packS t ≠ packS u then trapX { s with pc := s.pc + 1 } 44 else enterX C (s.ws.take (s.ws.length - 1)) (⟨s.fn, s.pc + 1, s.base⟩ :: s.fr) (elemS s.S (lo32 s.topW)).1.toNat s.S s.H
      | _, _ => trapX { s with pc := s.pc + 1 } 44) := rfl
  rw [HT.out, HU.out] at ecore
  have hwu := u32w (t := t0)
  obtain ⟨d, hd⟩ : ∃ d, lo32 t0 = d := ⟨_, rfl⟩
  have hdr : d < 4294967296 := by rw [← hd]; unfold lo32; omega
  rw [hd] at ecore hwu
  have hel : ((elemS s.S d).2 = 43) ∨ ((elemS s.S d).2 = 0 ∧ 0 ≤ (elemS s.S d).1 ∧ (elemS s.S d).1 < ((C.M.imports.length + C.M.funcs.length : Nat) : Int)) := by
    unfold elemS
    cases hq2 : s.S.tab[d]? with
    | none => exact .inl rfl
    | some z =>
      dsimp only
      by_cases hz : z < 0
      · rw [if_pos hz]; exact .inl rfl
      · rw [if_neg hz]; exact .inr ⟨rfl, by dsimp only; omega, HG.out.env.tab z (List.mem_of_getElem? hq2)⟩
  have HEC : Hid (∀ w, Mm w N.sb N.rb s.S → Calls Tryz.prog 97 #[.pointer (some ⟨N.sb, 0, none⟩), .int .u32 (d : Int)] w (Qm w (.tuple #[.int .i64 (elemS s.S d).1, .int .i64 (elemS s.S d).2]))) := fun w hm => elem_calls hm HG.out.env.sm d hdr
  obtain ⟨el, hel9⟩ : ∃ el, elemS s.S d = el := ⟨_, rfl⟩
  rw [hel9] at ecore hel HEC
  clear hel9
  obtain ⟨z, er⟩ := el
  dsimp only at ecore hel HEC
  have HCO : Hid _ := ecore
  clear ecore hd
  repeat (first | (with_reducible refine xt_exit ?_) | (with_reducible refine xt_normal ?_) | (with_reducible refine xb_normal ?_) | (with_reducible refine xb_eq ?_) | (with_reducible refine xb_ne ?_ ?_; · decide) | (with_reducible refine xt_goto ?_) | (with_reducible refine xb_goto ?_) | go_values | go_skip | go_guarded | go_step | go_step3 | go_upon)
  generalize (((w.setCell ⟨N.cb, 0, none⟩ (.int .u8 17)).setCell ⟨N.cb, 1, none⟩ (.int .u32 (xn : Int))).setCell ⟨N.cb, 2, none⟩ (.int .u64 Y1)) = W at HX HCT HC3 HCB1 HCB2 HSZ ⊢
  obtain ⟨cw1, gw1⟩ := HCT.out
  have cx3 := HC3.out
  have cb1 := HCB1.out
  have cb2 := HCB2.out
  have hTT := HT.out
  unfold Xs.topW at hTT
  rw [hTT, HSP.out] at cw1
  rw [HSP.out] at gw1
  have hi1 : IntKind.i64.wrap ((sp : Int) - 1) = (sp : Int) - 1 := iwr (by omega) (by omega)
  have hi2 : (1 : Int) ≤ (sp : Int) := by omega
  clear hTT HCT HC3 HCB1 HCB2 HSZ cw gw d0 d1 d2 b0 b1 b2 g0 g1 g2 c3
  obtain ⟨I, F, ⟨i0, hi0⟩, hF1, hF2⟩ := kpF W
  have hne9 : Nonempty I := ⟨i0⟩
  have fq0 := cellF hF1 cw1
  have fq1 := cellF hF1 cx3
  have hcal := fun i => (HEC.out (F i) (HX.out.none HQ.out (hF1 i)).mm).mono (fun _ _ h => Qm_kp h)
  have HF1 : Hid _ := hF1
  have HF2 : Hid _ := hF2
  clear hF1 hF2
  refine wp_region_F (by kernel_rfl) (by kernel_rfl) ⟨i0, hi0⟩ ?_
  clear hi0
  repeat (go_big_quiet_step ((go_at_call 97; exact Calls.F HF2.out (hcal _))))
  refine wpQuiet_nil ?_
  rintro _ ⟨i, rfl⟩
  have HX6 : Hid _ := HX.out.none HQ.out (HF1.out i)
  have cb16 := cellF HF1.out cb1 i
  clear hcal HF1 HF2 fq0 fq1
  generalize F i = w6 at HX6 cb16 ⊢
  clear hne9 i0 i F I

  rcases hel with he43 | ⟨he0, hz0, hzl⟩
  · subst he43
    repeat (first | (with_reducible refine xt_exit ?_) | (with_reducible refine xt_normal ?_) | (with_reducible refine xb_normal ?_) | (with_reducible refine xb_eq ?_) | (with_reducible refine xb_ne ?_ ?_; · decide) | (with_reducible refine xt_goto ?_) | (with_reducible refine xb_goto ?_) | go_values | go_skip | go_guarded | go_step | go_step3 | go_upon)
    exact HE.out.trap' (f := f) (e := 43) (S := s.S) (H := s.H) (wrap64 ((fuel : Int) - 1)) 43 (by rw [HST.out, HCO.out, if_pos (by decide)]; rfl) (by kernel_rfl) (by kernel_rfl) hwr rfl ⟨_, _, _, HX6.out⟩
  · subst he0
    obtain ⟨fz, hfz⟩ : ∃ fz : Nat, z = fz := ⟨z.toNat, by omega⟩
    subst hfz
    obtain ⟨t, hty⟩ := hTy fz (by omega)
    rw [hty, if_neg (by simp)] at HCO
    dsimp only at HCO
    simp only [Int.toNat_natCast] at HCO
    have HTY : Hid _ := hty
    obtain ⟨sa, scap, hfv, hsg⟩ := (HX6.out.kx HQ.out).fg
    obtain ⟨gk, hsa, -, hgc⟩ := hsg fz (packS t) (by omega) ⟨t, hty, rfl⟩
    obtain ⟨sa', scap', hsv, hsg'⟩ := (HX6.out.kx HQ.out).sg
    have hux := (List.getElem?_eq_some_iff.1 HU.out).1
    obtain ⟨sk, hsa', -, hgc'⟩ := hsg' xn (packS ty) hux ⟨ty, HU.out, rfl⟩
    have c7 := HX6.out.c.c7
    have c8 := HX6.out.c.c8
    rw [hfv, hsa] at c8
    rw [hsv, hsa'] at c7
    obtain ⟨ng, hng⟩ : ∃ ng, C.M.imports.length + C.M.funcs.length = ng := ⟨_, rfl⟩
    obtain ⟨nt, hnt⟩ : ∃ nt, C.M.types.length = nt := ⟨_, rfl⟩
    rw [hng] at c8 hzl
    rw [hnt] at c7 hux
    have lt1 : (fz : Int) < (ng : Int) := hzl
    have lt2 : (xn : Int) < (nt : Int) := by omega
    have q0 := hgc 0 _ rfl
    have q1 := hgc 1 _ rfl
    have q2 := hgc 2 _ rfl
    have q3 := hgc 3 _ rfl
    have q4 := hgc 4 _ rfl
    have q5 := hgc 5 _ rfl
    have k0 := hgc' 0 _ rfl
    have k1 := hgc' 1 _ rfl
    have k2 := hgc' 2 _ rfl
    have k3 := hgc' 3 _ rfl
    have k4 := hgc' 4 _ rfl
    have k5 := hgc' 5 _ rfl
    simp only [Nat.add_zero] at q0 k0
    have hpe : packS t = packS ty ↔ (t.p.size = ty.p.size ∧ pAt t.p 0 = pAt ty.p 0 ∧ pAt t.p 1 = pAt ty.p 1 ∧ pAt t.p 2 = pAt ty.p 2 ∧ pAt t.p 3 = pAt ty.p 3 ∧ resT t = resT ty) := by unfold packS; simp
    by_cases hpk : packS t = packS ty
    · rw [if_neg (by simp [hpk])] at HCO
      obtain ⟨e0, e1, e2, e3, e4, e5⟩ := hpe.1 hpk
      have HPS : Hid (t.p.size + 1 ≤ h) := by rw [e0]; exact hth
      rw [← e0] at k0
      rw [← e1] at k1
      rw [← e2] at k2
      rw [← e3] at k3
      rw [← e4] at k4
      rw [← e5] at k5
      clear e0 e1 e2 e3 e4 e5 hpe hpk hgc hgc' hsg hsg' hsa hsa' hfv hsv hty
      generalize t.p.size = p0 at q0 k0
      generalize pAt t.p 0 = p1 at q1 k1
      generalize pAt t.p 1 = p2 at q2 k2
      generalize pAt t.p 2 = p3 at q3 k3
      generalize pAt t.p 3 = p4 at q4 k4
      generalize resT t = p5 at q5 k5
      repeat (first | (with_reducible refine xt_exit ?_) | (with_reducible refine xt_normal ?_) | (with_reducible refine xb_normal ?_) | (with_reducible refine xb_eq ?_) | (with_reducible refine xb_ne ?_ ?_; · decide) | (with_reducible refine xt_goto ?_) | (with_reducible refine xb_goto ?_) | go_values | go_skip | go_guarded | go_step | go_step3 | go_upon)
      have h90 := fun w => eq90 (p0 : Int) (p1 : Int) (p2 : Int) (p3 : Int) (p4 : Int) (p5 : Int) (p0 : Int) (p1 : Int) (p2 : Int) (p3 : Int) (p4 : Int) (p5 : Int) w
      simp only [and_self, decide_true] at h90
      go_quiet (fail)
      have HX7 : Hid _ := (HX6.out.drewN nq).take (s.ws.length - 1)
      clear h90 q0 q1 q2 q3 q4 q5 k0 k1 k2 k3 k4 k5
      repeat (first | (with_reducible refine xt_exit ?_) | (with_reducible refine xt_normal ?_) | (with_reducible refine xb_normal ?_) | (with_reducible refine xb_eq ?_) | (with_reducible refine xb_ne ?_ ?_; · decide) | (with_reducible refine xt_goto ?_) | (with_reducible refine xb_goto ?_) | go_values | go_skip | go_guarded | go_step | go_step3 | go_upon)
      refine HE.out.enter _ _ f (s.ws.take (s.ws.length - 1)) fz (by rw [HST.out, HCO.out]) (mid (wrap64 ((fuel : Int) - 1)) ((sp : Int) - 1) (by kernel_rfl) (by kernel_rfl) (by kernel_rfl) (by kernel_rfl) (by kernel_rfl) (by kernel_rfl) (by kernel_rfl) (by kernel_rfl) hwr (len_t1 HSP.out hsp1) HN.out HKF.out HX7.out) (by kernel_rfl) (by kernel_rfl) ⟨t, HTY.out, ?_⟩
      rw [List.length_take, HSP.out]
      have h1 := HPS.out
      have h2 := HSL.out
      omega
    · rw [if_pos (by simp [hpk])] at HCO
      have hne := fun h => hpk (hpe.2 h)
      clear hpe hpk hgc hgc' hsg hsg' hsa hsa' hfv hsv hty
      generalize t.p.size = p0 at q0 hne
      generalize pAt t.p 0 = p1 at q1 hne
      generalize pAt t.p 1 = p2 at q2 hne
      generalize pAt t.p 2 = p3 at q3 hne
      generalize pAt t.p 3 = p4 at q4 hne
      generalize resT t = p5 at q5 hne
      generalize ty.p.size = r0 at k0 hne hth
      generalize pAt ty.p 0 = r1 at k1 hne
      generalize pAt ty.p 1 = r2 at k2 hne
      generalize pAt ty.p 2 = r3 at k3 hne
      generalize pAt ty.p 3 = r4 at k4 hne
      generalize resT ty = r5 at k5 hne
      have h90 := fun w => eq90 (p0 : Int) (p1 : Int) (p2 : Int) (p3 : Int) (p4 : Int) (p5 : Int) (r0 : Int) (r1 : Int) (r2 : Int) (r3 : Int) (r4 : Int) (r5 : Int) w
      have hd9 : decide ((p0 : Int) = r0 ∧ (p1 : Int) = r1 ∧ (p2 : Int) = r2 ∧ (p3 : Int) = r3 ∧ (p4 : Int) = r4 ∧ (p5 : Int) = r5) = false := by
        simp only [decide_eq_false_iff_not]
        exact fun ⟨a0, a1, a2, a3, a4, a5⟩ => hne ⟨Int.ofNat.inj a0, Int.ofNat.inj a1, Int.ofNat.inj a2, Int.ofNat.inj a3, Int.ofNat.inj a4, Int.ofNat.inj a5⟩
      rw [hd9] at h90
      clear hne hd9
      repeat (first | (with_reducible refine xt_exit ?_) | (with_reducible refine xt_normal ?_) | (with_reducible refine xb_normal ?_) | (with_reducible refine xb_eq ?_) | (with_reducible refine xb_ne ?_ ?_; · decide) | (with_reducible refine xt_goto ?_) | (with_reducible refine xb_goto ?_) | go_values | go_skip | go_guarded | go_step | go_step3 | go_upon)
      go_quiet (fail)
      have HX7 : Hid _ := HX6.out.drewN nq
      clear h90 q0 q1 q2 q3 q4 q5 k0 k1 k2 k3 k4 k5
      repeat (first | (with_reducible refine xt_exit ?_) | (with_reducible refine xt_normal ?_) | (with_reducible refine xb_normal ?_) | (with_reducible refine xb_eq ?_) | (with_reducible refine xb_ne ?_ ?_; · decide) | (with_reducible refine xt_goto ?_) | (with_reducible refine xb_goto ?_) | go_values | go_skip | go_guarded | go_step | go_step3 | go_upon)
      exact HE.out.trap' (f := f) (e := 44) (S := s.S) (H := s.H) (wrap64 ((fuel : Int) - 1)) 44 (by rw [HST.out, HCO.out]; rfl) (by kernel_rfl) (by kernel_rfl) hwr rfl ⟨_, _, _, HX7.out⟩
end Go.Proofs.Qxb6500275aGreatDoor
