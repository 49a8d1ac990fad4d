import Derived.Test.Qxb6500275aGreatDoorXz1
import Derived.Deep.RegionWith
import Derived.StillTailTactics
import Derived.Deep.QuietTactic
import Derived.BigQuiet
set_option maxRecDepth 1000000
set_option linter.unusedVariables false
set_option linter.unusedSimpArgs false
namespace Go.Proofs.Qxb6500275aGreatDoor
open Go Go.RowKit
theorem subi {a b c : Nat} (h : a = b + c) : (a : Int) - (b : Int) = (c : Int) := by omega
theorem addi {a b c : Nat} (h : a + b = c) : (a : Int) + (b : Int) = (c : Int) := by omega
/- at the label enter -/
structure En42 (w0 w : World) (N : Xn) (C : XC) (T : Nat → Prop) (u : Nat → Value) (fuel : Nat) (ws : List Nat) (cur : List Fr) (f : Nat) (S : Sm) (H : Hm) : Prop where
  u1 : u 1 = .int .i64 f
  u2 : u 2 = .int .i64 ws.length
  u3 : u 3 = .int .i64 fuel
  u22 : u 22 = .int .i64 ((cur.length : Int) - 1)
  x : (cur = [] ∧ Xr w0 w N T ws [] none S H) ∨ ∃ c cs ff ci, cur = c :: cs ∧ u 19 = .int .i64 c.pc ∧ Xr w0 w N T ws cs (some (c.fn, c.base)) S H ∧ Hf w0 N C u fuel ws.length c.base c.fn cs.length ff ci ∧ C.fs[c.fn]? = some ff
/- amid the zeroing of the locals -/
structure Zr (w0 w : World) (N : Xn) (C : XC) (T : Nat → Prop) (u : Nat → Value) (fuel f fn sp b fl d n k : Nat) (ws : List Nat) (cur : List Fr) (S : Sm) (H : Hm) : Prop where
  u1 : u 1 = .int .i64 f
  u2 : u 2 = .int .i64 ((sp + k : Nat) : Int)
  u3 : u 3 = .int .i64 fuel
  u13 : u 13 = .pointer (some ⟨N.kk, fn * 4, none⟩)
  u20 : u 20 = .int .i64 b
  u21 : u 21 = .int .i64 fl
  u22 : u 22 = .int .i64 d
  le : sp + k ≤ fl
  nn : n = fl - (sp + k)
  x : Xr w0 w N T (ws ++ List.replicate k 0) cur none S H
def loopI (w0 : World) (N : Xn) (C : XC) (T : Nat → Prop) (fuel f fn sp b fl d : Nat) (ws : List Nat) (cur : List Fr) (S : Sm) (H : Hm) (n : Nat) (a : Act) (w : World) : Prop := ∃ u k, a = ⟨fx N C u, []⟩ ∧ Zr w0 w N C T u fuel f fn sp b fl d n k ws cur S H
theorem loopI_of {w0 w : World} {N : Xn} {C : XC} {T : Nat → Prop} {fuel f fn sp b fl d n k : Nat} {ws : List Nat} {cur : List Fr} {S : Sm} {H : Hm} {tmps : Array Value} (z : Int) (heq : tmps = fx N C (fun i => tmps.getD i undef)) (h1 : tmps.getD 1 undef = .int .i64 (f : Int)) (h2 : tmps.getD 2 undef = .int .i64 z) (h3 : tmps.getD 3 undef = .int .i64 (fuel : Int)) (h13 : tmps.getD 13 undef = .pointer (some ⟨N.kk, fn * 4, none⟩)) (h20 : tmps.getD 20 undef = .int .i64 (b : Int)) (h21 : tmps.getD 21 undef = .int .i64 (fl : Int)) (h22 : tmps.getD 22 undef = .int .i64 (d : Int)) (hz : z = ((sp + k : Nat) : Int)) (hle : sp + k ≤ fl) (hn : n = fl - (sp + k)) (hx : Xr w0 w N T (ws ++ List.replicate k 0) cur none S H) : loopI w0 N C T fuel f fn sp b fl d ws cur S H n ⟨tmps, []⟩ w :=
  ⟨_, k, by rw [← heq], h1, by rw [h2, hz], h3, h13, h20, h21, h22, hle, hn, hx⟩
set_option maxHeartbeats 8000000 in
theorem p42_own {w0 w : World} {N : Xn} {C : XC} {T : Nat → Prop} {u : Nat → Value} {fuel f fn : Nat} {ws : List Nat} {cur : List Fr} {S : Sm} {H : Hm} {ff : FF} {Q : Exit → Act → World → Prop} (hq : Xq w0 N C T) (he : En42 w0 w N C T u fuel ws cur f S H) (hd6 : cur.length ≤ 6)
    (hfn : f = C.M.imports.length + fn) (hni : C.M.imports.length ≤ 4) (hff : C.fs[fn]? = some ff) (hfs : C.fs.length ≤ 8) (hpl : ff.params ≤ ff.locals ∧ ff.locals ≤ 10 ∧ ff.params ≤ 4) (hpw : ff.params ≤ ws.length) (hroom : cur.length ≤ 5 → ws.length - ff.params + ff.locals ≤ 110) (h120 : ws.length ≤ 120)
    (hQ0 : ∀ tmps w', cur.length = 6 → tmps.getD 8 undef = .int .i64 (fuel : Int) → tmps.getD 9 undef = .int .i64 45 → (∃ ws' fr' hd', Xr w0 w' N T ws' fr' hd' S H) → Q .ret ⟨tmps, []⟩ w')
    (hQ : ∀ tmps w' ci, cur.length ≤ 5 → Mid w0 w' N C T tmps fuel (ws ++ List.replicate (ff.locals - ff.params) 0) cur fn (ws.length - ff.params) S H ff ci → tmps.getD 19 undef = .int .i64 0 → Q (.goto 1) ⟨tmps, []⟩ w') :
    Code.wp Tryz.prog (labR Tryz.f42.body 0) Q ⟨fx N C u, []⟩ w := by
  obtain ⟨u1, u2, u3, u22, hx⟩ := he
  obtain ⟨sp, hsp⟩ : ∃ sp, ws.length = sp := ⟨_, rfl⟩
  obtain ⟨d, hd⟩ : ∃ d, cur.length = d := ⟨_, rfl⟩
  obtain ⟨lf, hlf⟩ : ∃ lf, C.fs.length = lf := ⟨_, rfl⟩
  have hfl : (fn : Int) < (lf : Int) := by rw [← hlf]; have := (List.getElem?_eq_some_iff.1 hff).1; omega
  obtain ⟨ap1, ap2, ap3, ap4, ap5, ap6, ap7⟩ := hq.ap
  rw [hsp] at u2 h120 hpw hroom hQ
  rw [hd] at u22 hd6 hQ0 hQ hroom
  rw [hlf] at hfs
  have lt1 : ¬ ((f : Int) < (C.M.imports.length : Int)) := by omega
  have hf9 : f < 1000000 := by omega
  have hsub : wrap64 ((f : Int) - (C.M.imports.length : Int)) = (fn : Int) := subx hfn hf9
  have HFN : Hid _ := hfn
  clear hfn
  by_cases hd7 : d = 6
  · subst hd7
    have HX : Hid (∃ ws' fr' hd', Xr w0 w N T ws' fr' hd' S H) := by
      rcases hx with ⟨_, h⟩ | ⟨c, cs, _, _, _, _, h, _⟩
      · exact ⟨_, _, _, h⟩
      · exact ⟨_, _, _, h⟩
    have HQ0 : Hid _ := hQ0
    clear hQ0 hQ hx hq hroom
    unfold fx fr42
    rw [u1, u2, u3, u22]
    conv => arg 2; whnf
    repeat (first | (with_reducible refine xt_exit ?_) | (with_reducible refine xt_normal ?_) | (with_reducible refine xb_normal ?_) | (with_reducible refine xb_eq ?_) | (with_reducible refine xb_ne ?_ ?_; · decide) | (with_reducible refine xt_goto ?_) | (with_reducible refine xb_goto ?_) | go_values | go_skip | go_guarded | go_step | go_step3 | go_upon)
    exact HQ0.out _ _ rfl (by kernel_rfl) (by kernel_rfl) HX.out
  have HSUB : Hid _ := hsub
  have HLT1 : Hid _ := lt1
  clear hsub lt1
  have hd5 : d ≤ 5 := by omega
  have hroom := hroom hd5
  obtain ⟨p, hp⟩ : ∃ p, ff.params = p := ⟨_, rfl⟩
  obtain ⟨lc, hlc⟩ : ∃ lc, ff.locals = lc := ⟨_, rfl⟩
  rw [hp] at hpl hpw hroom hQ
  rw [hlc] at hpl hroom hQ
  obtain ⟨b, hb⟩ : ∃ b, sp - p = b := ⟨_, rfl⟩
  obtain ⟨fl, hfl2⟩ : ∃ fl, b + lc = fl := ⟨_, rfl⟩
  rw [hb] at hQ hroom
  have hspb : sp = p + b := by omega
  have hsp9 : sp < 1000000 := by omega
  have hfl8 : fl < 1000000 := by omega
  have hspf : sp ≤ fl := by omega
  have hkl : lc - p = fl - sp := by omega
  have hfl9 : fl ≤ 110 := by omega
  have HQ : Hid _ := hQ
  have HQQ : Hid _ := hq
  have HSP : Hid _ := hsp
  have HD : Hid _ := hd
  have HFF : Hid _ := hff
  have HLF : Hid _ := hlf
  have HP : Hid _ := hp
  have HLC : Hid _ := hlc
  have HKL : Hid _ := hkl
  have HB : Hid _ := hb
  have HF2 : Hid _ := hfl2
  have HF9 : Hid (f < 1000000) := hf9
  have HB9 : Hid (b ≤ 120) := by show b ≤ 120; omega
  have HL9 : Hid (lc ≤ 10) := hpl.2.1
  have HSPF : Hid _ := hspf
  have HSPB : Hid _ := hspb
  clear hQ0 hQ hd7 hq hsp hd hff hlf hp hlc hkl hb hfl2 hroom hpl hspb hsp9 hfl8 hspf hf9
  unfold fx fr42
  rw [u1, u2, u3]
  conv => arg 2; whnf
  rcases hx with ⟨hc0, hx⟩ | ⟨c, cs, ff0, ci0, hc0, u19, hx, hf0, hfc⟩
  · subst hc0
    have hd0 : d = 0 := by rw [← HD.out]; rfl
    subst hd0
    have e1 : ((0 : Nat) : Int) - 1 = -1 := by decide
    rw [u22, e1]
    have HX1 : Hid _ := hx
    clear hx
    have hc6 := HX1.out.c.c6
    obtain ⟨hcode, ci, hkf⟩ := (HX1.out.kx HQQ.out).code fn ff HFF.out
    have kc0 := hkf.c0
    have kc1 := hkf.c1
    rw [HLF.out] at hcode
    rw [HP.out] at kc0
    rw [HLC.out] at kc1
    clear hkf
    have hsub2 : (f : Int) - (C.M.imports.length : Int) = (fn : Int) := subi HFN.out
    have hwb2 : (sp : Int) - (p : Int) = (b : Int) := subi HSPB.out
    have hwf2 : (b : Int) + (lc : Int) = (fl : Int) := addi HF2.out
    have lt1 : ¬ ((f : Int) < (C.M.imports.length : Int)) := HLT1.out
    have hf9 := HF9.out
    have hb9 := HB9.out
    have hl9 := HL9.out
    repeat (first | (with_reducible refine xt_exit ?_) | (with_reducible refine xt_normal ?_) | (with_reducible refine xb_normal ?_) | (with_reducible refine xb_eq ?_) | (with_reducible refine xb_ne ?_ ?_; · decide) | (with_reducible refine xt_goto ?_) | (with_reducible refine xb_goto ?_) | go_values | go_skip | go_guarded | go_step | go_step3 | go_upon)
    have HSL0 : Hid (sp ≤ fl) := HSPF.out
    refine wp_loop_n (loopI w0 N C T fuel f fn sp b fl 0 ws [] S H) ?_ (fl - sp) ?_
    rotate_left
    · exact loopI_of (k := 0) (sp : Int) (by kernel_rfl) (by kernel_rfl) (by kernel_rfl) (by kernel_rfl) (by kernel_rfl) (by kernel_rfl) (by kernel_rfl) (by kernel_rfl) (by simp) (by simpa using HSPF.out) (by simp) (by simpa using HX1.out)
    clear hc6 hcode kc0 kc1 hsub2 hwb2 hwf2 lt1 hf9 hb9 hl9 hpw hfs hfl
    rintro n a w' ⟨u', k, rfl, hz⟩
    obtain ⟨v1, v2, v3, v13, v20, v21, v22, hle, hnn, hzx⟩ := hz
    obtain ⟨sk, hsk⟩ : ∃ sk, sp + k = sk := ⟨_, rfl⟩
    rw [hsk] at v2 hle hnn
    obtain ⟨hcode2, ci, hkf0⟩ := HQQ.out.kx.code fn ff HFF.out
    have hkf := hzx.kf HQQ.out hkf0
    have kc3 := hkf.c3
    have hkx : N.kk ≠ N.xb := by have h1 := HQQ.out.fix (k := N.xb) (.inl (.inl rfl)); have h2 := hkf0.lo.1; omega
    have HZX : Hid _ := hzx
    have HSK : Hid _ := hsk
    have HNN : Hid _ := hnn
    have HKF : Hid _ := hkf0
    obtain ⟨nc, hnc⟩ : ∃ nc, ff.cells.length = nc := ⟨_, rfl⟩
    rw [hnc] at kc3
    have HNC : Hid _ := hnc
    have hzl : (ws ++ List.replicate k 0).length = sk := by rw [List.length_append, List.length_replicate, HSP.out]; exact hsk
    have HZL : Hid _ := hzl
    clear hcode2 hkf hkf0 hsk hnn hnc hzx hzl
    unfold fx fr42
    rw [v1, v2, v3, v13, v20, v21, v22]
    by_cases hlt : sk < fl
    · have hlt' : (sk : Int) < (fl : Int) := by omega
      have h119 : sk < 120 := by omega
      obtain ⟨⟨vk, ck⟩, gk⟩ := HZX.out.slot (i := sk) h119
      have HP9 : Hid _ := HZX.out.push HQQ.out (v := 0) HZL.out h119
      have hm9 : fl - (sk + 1) < n := by rw [HNN.out]; omega
      have hle9 : sp + (k + 1) ≤ fl := by have := HSK.out; omega
      have hnn9 : fl - (sk + 1) = fl - (sp + (k + 1)) := by have := HSK.out; omega
      have hzz9 : ((sk : Int) + 1) = ((sp + (k + 1) : Nat) : Int) := by have := HSK.out; omega
      have HM9 : Hid _ := hm9
      have HLE9 : Hid _ := hle9
      have HNN9 : Hid _ := hnn9
      have HZZ9 : Hid _ := hzz9
      clear hm9 hle9 hnn9 hzz9
      obtain ⟨h119', hsn, hsw⟩ := pushx h119
      repeat (first | (with_reducible refine xt_exit ?_) | (with_reducible refine xt_normal ?_) | (with_reducible refine xb_normal ?_) | (with_reducible refine xb_eq ?_) | (with_reducible refine xb_ne ?_ ?_; · decide) | (with_reducible refine xt_goto ?_) | (with_reducible refine xb_goto ?_) | go_values | go_skip | go_guarded | go_step | go_step3 | go_upon)
      refine ⟨fl - (sk + 1), HM9.out, loopI_of (k := k + 1) ((sk : Int) + 1) (by kernel_rfl) (by kernel_rfl) (by kernel_rfl) (by kernel_rfl) (by kernel_rfl) (by kernel_rfl) (by kernel_rfl) (by kernel_rfl) HZZ9.out HLE9.out HNN9.out ?_⟩
      rw [List.replicate_succ', ← List.append_assoc]
      exact HP9.out
    · have hske : sk = fl := by omega
      subst hske
      have hlt' : ¬ ((sk : Int) < (sk : Int)) := by omega
      have hd9 : (0 : Int) < 6 := by omega
      obtain ⟨⟨x0, cx0⟩, gx0⟩ := HZX.out.xslot (i := 10 + 0 * 3) (by omega)
      obtain ⟨⟨x1, cx1⟩, gx1⟩ := HZX.out.xslot (i := 10 + 0 * 3 + 1) (by omega)
      obtain ⟨⟨x2, cx2⟩, gx2⟩ := HZX.out.xslot (i := 10 + 0 * 3 + 2) (by omega)
      have hX9 := HZX.out.frset HQQ.out (by rw [HD.out]; omega) fn b (.int .i64 0)
      rw [HD.out, Nat.mul_comm 3 0] at hX9
      have hkk9 : k = lc - p := by have h1 := HSK.out; have h2 := HKL.out; omega
      rw [hkk9] at hX9
      have HX9 : Hid _ := hX9
      have HKK9 : Hid _ := hkk9
      clear hX9 hkk9
      have hsub2 : (f : Int) - (C.M.imports.length : Int) = (fn : Int) := subi HFN.out
      have hf9 := HF9.out
      repeat (first | (with_reducible refine xt_exit ?_) | (with_reducible refine xt_normal ?_) | (with_reducible refine xb_normal ?_) | (with_reducible refine xb_eq ?_) | (with_reducible refine xb_ne ?_ ?_; · decide) | (with_reducible refine xt_goto ?_) | (with_reducible refine xb_goto ?_) | go_values | go_skip | go_guarded | go_step | go_step3 | go_upon)
      refine HQ.out _ _ ci hd5 (mid2 (fuel : Int) (sk : Int) (zf := (sk : Int)) (by have h := HF2.out; rw [HLC.out, ← h]; simp) (by kernel_rfl) (by kernel_rfl) (by kernel_rfl) (by kernel_rfl) (by kernel_rfl) (by kernel_rfl) (by kernel_rfl) (by rw [HD.out]; kernel_rfl) rfl (by rw [← HKK9.out, HZL.out]) HNC.out HKF.out HX9.out) (by kernel_rfl)
  · obtain ⟨-, -, u12, u13, u20, u21, -, kf0⟩ := hf0
    rw [u22, u19, u12, u13, u20, u21]
    have hdc : d = cs.length + 1 := by rw [← HD.out, hc0]; rfl
    have e1 : (d : Int) - 1 = (cs.length : Int) := by omega
    rw [e1]
    obtain ⟨dd, hdd⟩ : ∃ dd, cs.length = dd := ⟨_, rfl⟩
    rw [hdd]
    have hdd5 : dd ≤ 4 := by omega
    have e2 : wrap64 ((dd : Int) + 1) = (d : Int) := by rw [sucx (by omega)]; omega
    have e3 : ¬ ((d : Int) ≥ 6) := by omega
    have e7 : (dd : Int) + 1 = (d : Int) := by omega
    have HX1 : Hid _ := hx.pcset HQQ.out (by rw [hdd]; omega) c.pc
    obtain ⟨⟨vx, cx⟩, gx⟩ := hx.xslot (i := 10 + 3 * cs.length + 1) (by rw [hdd]; omega)
    rw [hdd, Nat.mul_comm 3 dd] at HX1 cx gx
    have hceq : (⟨c.fn, c.pc, c.base⟩ : Fr) :: cs = cur := by rw [hc0]
    rw [hceq] at HX1
    have hc6 := hx.c.c6
    obtain ⟨hcode, ci, hkf⟩ := (hx.kx HQQ.out).code fn ff HFF.out
    have kc0 := hkf.c0
    have kc1 := hkf.c1
    have hkx0 : N.kk ≠ N.xb := by have h1 := HQQ.out.fix (k := N.xb) (.inl (.inl rfl)); have h2 := hkf.lo.1; omega
    have hkx1 : N.kc ≠ N.xb := by have h1 := HQQ.out.fix (k := N.xb) (.inl (.inl rfl)); have h2 := HQQ.out.kx.kc; omega
    rw [HLF.out] at hcode
    rw [HP.out] at kc0
    rw [HLC.out] at kc1
    have h6a : ¬ (6 = 10 + dd * 3 + 1) := by omega
    clear hx hceq hc0 hfc kf0 u19 u12 u13 u20 u21 hdc hkf
    have hsub2 : (f : Int) - (C.M.imports.length : Int) = (fn : Int) := subi HFN.out
    have hwb2 : (sp : Int) - (p : Int) = (b : Int) := subi HSPB.out
    have hwf2 : (b : Int) + (lc : Int) = (fl : Int) := addi HF2.out
    have lt1 : ¬ ((f : Int) < (C.M.imports.length : Int)) := HLT1.out
    have hf9 := HF9.out
    have hb9 := HB9.out
    have hl9 := HL9.out
    repeat (first | (with_reducible refine xt_exit ?_) | (with_reducible refine xt_normal ?_) | (with_reducible refine xb_normal ?_) | (with_reducible refine xb_eq ?_) | (with_reducible refine xb_ne ?_ ?_; · decide) | (with_reducible refine xt_goto ?_) | (with_reducible refine xb_goto ?_) | go_values | go_skip | go_guarded | go_step | go_step3 | go_upon)
    generalize (w.setCell ⟨N.xb, 10 + dd * 3 + 1, none⟩ (.int .i64 (c.pc : Int))) = W1 at HX1 ⊢
    clear cx gx h6a hkx0 hkx1
    have HSL0 : Hid (sp ≤ fl) := HSPF.out
    refine wp_loop_n (loopI w0 N C T fuel f fn sp b fl d ws cur S H) ?_ (fl - sp) ?_
    rotate_left
    · exact loopI_of (k := 0) (sp : Int) (by kernel_rfl) (by kernel_rfl) (by kernel_rfl) (by kernel_rfl) (by kernel_rfl) (by kernel_rfl) (by kernel_rfl) (by kernel_rfl) (by simp) (by simpa using HSPF.out) (by simp) (by simpa using HX1.out)
    clear hc6 hcode kc0 kc1 hsub2 hwb2 hwf2 lt1 hf9 hb9 hl9 hpw hfs hfl
    rintro n a w' ⟨u', k, rfl, hz⟩
    obtain ⟨v1, v2, v3, v13, v20, v21, v22, hle, hnn, hzx⟩ := hz
    obtain ⟨sk, hsk⟩ : ∃ sk, sp + k = sk := ⟨_, rfl⟩
    rw [hsk] at v2 hle hnn
    obtain ⟨hcode2, ci, hkf0⟩ := HQQ.out.kx.code fn ff HFF.out
    have hkf := hzx.kf HQQ.out hkf0
    have kc3 := hkf.c3
    have hkx : N.kk ≠ N.xb := by have h1 := HQQ.out.fix (k := N.xb) (.inl (.inl rfl)); have h2 := hkf0.lo.1; omega
    have HZX : Hid _ := hzx
    have HSK : Hid _ := hsk
    have HNN : Hid _ := hnn
    have HKF : Hid _ := hkf0
    obtain ⟨nc, hnc⟩ : ∃ nc, ff.cells.length = nc := ⟨_, rfl⟩
    rw [hnc] at kc3
    have HNC : Hid _ := hnc
    have hzl : (ws ++ List.replicate k 0).length = sk := by rw [List.length_append, List.length_replicate, HSP.out]; exact hsk
    have HZL : Hid _ := hzl
    clear hcode2 hkf hkf0 hsk hnn hnc hzx hzl
    unfold fx fr42
    rw [v1, v2, v3, v13, v20, v21, v22]
    by_cases hlt : sk < fl
    · have hlt' : (sk : Int) < (fl : Int) := by omega
      have h119 : sk < 120 := by omega
      obtain ⟨⟨vk, ck⟩, gk⟩ := HZX.out.slot (i := sk) h119
      have HP9 : Hid _ := HZX.out.push HQQ.out (v := 0) HZL.out h119
      have hm9 : fl - (sk + 1) < n := by rw [HNN.out]; omega
      have hle9 : sp + (k + 1) ≤ fl := by have := HSK.out; omega
      have hnn9 : fl - (sk + 1) = fl - (sp + (k + 1)) := by have := HSK.out; omega
      have hzz9 : ((sk : Int) + 1) = ((sp + (k + 1) : Nat) : Int) := by have := HSK.out; omega
      have HM9 : Hid _ := hm9
      have HLE9 : Hid _ := hle9
      have HNN9 : Hid _ := hnn9
      have HZZ9 : Hid _ := hzz9
      clear hm9 hle9 hnn9 hzz9
      obtain ⟨h119', hsn, hsw⟩ := pushx h119
      repeat (first | (with_reducible refine xt_exit ?_) | (with_reducible refine xt_normal ?_) | (with_reducible refine xb_normal ?_) | (with_reducible refine xb_eq ?_) | (with_reducible refine xb_ne ?_ ?_; · decide) | (with_reducible refine xt_goto ?_) | (with_reducible refine xb_goto ?_) | go_values | go_skip | go_guarded | go_step | go_step3 | go_upon)
      refine ⟨fl - (sk + 1), HM9.out, loopI_of (k := k + 1) ((sk : Int) + 1) (by kernel_rfl) (by kernel_rfl) (by kernel_rfl) (by kernel_rfl) (by kernel_rfl) (by kernel_rfl) (by kernel_rfl) (by kernel_rfl) HZZ9.out HLE9.out HNN9.out ?_⟩
      rw [List.replicate_succ', ← List.append_assoc]
      exact HP9.out
    · have hske : sk = fl := by omega
      subst hske
      have hlt' : ¬ ((sk : Int) < (sk : Int)) := by omega
      have hd9 : (d : Int) < 6 := by omega
      obtain ⟨⟨x0, cx0⟩, gx0⟩ := HZX.out.xslot (i := 10 + d * 3) (by omega)
      obtain ⟨⟨x1, cx1⟩, gx1⟩ := HZX.out.xslot (i := 10 + d * 3 + 1) (by omega)
      obtain ⟨⟨x2, cx2⟩, gx2⟩ := HZX.out.xslot (i := 10 + d * 3 + 2) (by omega)
      have hX9 := HZX.out.frset HQQ.out (by rw [HD.out]; omega) fn b (.int .i64 0)
      rw [HD.out, Nat.mul_comm 3 d] at hX9
      have hkk9 : k = lc - p := by have h1 := HSK.out; have h2 := HKL.out; omega
      rw [hkk9] at hX9
      have HX9 : Hid _ := hX9
      have HKK9 : Hid _ := hkk9
      clear hX9 hkk9
      have hsub2 : (f : Int) - (C.M.imports.length : Int) = (fn : Int) := subi HFN.out
      have hf9 := HF9.out
      repeat (first | (with_reducible refine xt_exit ?_) | (with_reducible refine xt_normal ?_) | (with_reducible refine xb_normal ?_) | (with_reducible refine xb_eq ?_) | (with_reducible refine xb_ne ?_ ?_; · decide) | (with_reducible refine xt_goto ?_) | (with_reducible refine xb_goto ?_) | go_values | go_skip | go_guarded | go_step | go_step3 | go_upon)
      refine HQ.out _ _ ci hd5 (mid2 (fuel : Int) (sk : Int) (zf := (sk : Int)) (by have h := HF2.out; rw [HLC.out, ← h]; simp) (by kernel_rfl) (by kernel_rfl) (by kernel_rfl) (by kernel_rfl) (by kernel_rfl) (by kernel_rfl) (by kernel_rfl) (by rw [HD.out]; kernel_rfl) rfl (by rw [← HKK9.out, HZL.out]) HNC.out HKF.out HX9.out) (by kernel_rfl)
end Go.Proofs.Qxb6500275aGreatDoor
