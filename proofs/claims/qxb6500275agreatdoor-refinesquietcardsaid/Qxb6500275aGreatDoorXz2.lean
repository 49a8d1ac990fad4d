import Derived.Test.Qxb6500275aGreatDoorXz1
import Derived.Deep.RegionWith
import Derived.StillTailTactics
import Derived.Deep.QuietTactic
import Derived.BigQuiet
set_option maxRecDepth 1000000
set_option linter.unusedVariables false
set_option linter.unusedSimpArgs false
namespace Go.Proofs.Qxb6500275aGreatDoor
open Go Go.RowKit
theorem predx {d dd : Nat} (h : d = dd + 1) (hd : dd ≤ 4) : wrap64 ((d : Int) - 1) = (dd : Int) := by
  subst h; unfold wrap64; omega
set_option maxHeartbeats 8000000 in
theorem p42_leave {w0 w : World} {N : Xn} {C : XC} {T : Nat → Prop} {u : Nat → Value} {fuel fn base ci : Nat} {ws : List Nat} {fr : List Fr} {S : Sm} {H : Hm} {ff : FF} {Q : Exit → Act → World → Prop} (hq : Xq w0 N C T) (hf : Hf w0 N C u fuel ws.length base fn fr.length ff ci) (hx : Xr w0 w N T ws fr (some (fn, base)) S H)
    (h120 : ws.length ≤ 120) (hb : base ≤ 100) (hr1 : ff.results ≤ 1) (hsl : base + ff.results ≤ ws.length) (hd5 : fr.length ≤ 5) (hfs : C.fs.length ≤ 8)
    (hQ0 : ∀ tmps w', fr = [] → tmps.getD 8 undef = .int .i64 (fuel : Int) → tmps.getD 9 undef = .int .i64 0 → Xr w0 w' N T (ws.take base ++ (if ff.results = 1 then [ws.getD (ws.length - 1) 0] else [])) [] none S H → Q .ret ⟨tmps, []⟩ w')
    (hQ : ∀ tmps w' c cs ff' ci', fr = c :: cs → C.fs[c.fn]? = some ff' → Mid w0 w' N C T tmps fuel (ws.take base ++ (if ff.results = 1 then [ws.getD (ws.length - 1) 0] else [])) cs c.fn c.base S H ff' ci' → tmps.getD 19 undef = .int .i64 (c.pc : Int) → Q (.goto 1) ⟨tmps, []⟩ w')
    (hfr : ∀ c cs, fr = c :: cs → c.base ≤ 100 ∧ ∃ ff', C.fs[c.fn]? = some ff' ∧ ff'.locals ≤ 10) :
    Code.wp Tryz.prog (labR Tryz.f42.body 3) Q ⟨fx N C u, []⟩ w := by
  obtain ⟨u2, u3, u12, u13, u20, u21, u22, kf⟩ := hf
  obtain ⟨sp, hsp⟩ : ∃ sp, ws.length = sp := ⟨_, rfl⟩
  obtain ⟨d, hd⟩ : ∃ d, fr.length = d := ⟨_, rfl⟩
  have kc2 := (hx.kf hq kf).c2
  obtain ⟨ap1, ap2, ap3, ap4, ap5, ap6, ap7⟩ := hq.ap
  rw [hsp] at u2 h120 hsl
  rw [hd] at u22 hd5
  obtain ⟨rs, hrs⟩ : ∃ rs, ff.results = rs := ⟨_, rfl⟩
  rw [hrs] at kc2 hr1 hsl
  have hkk : N.kk ≠ N.kb := by have h1 := hq.fix (k := N.kb) (.inl (.inr (.inl rfl))); have h2 := kf.lo.1; omega
  obtain ⟨z, hz⟩ : ∃ z, (ws.take base ++ (if ff.results = 1 then [ws.getD (ws.length - 1) 0] else [])) = z := ⟨_, rfl⟩
  rw [hz] at hQ0 hQ
  have hzl : z.length = base + rs := by
    rw [← hz, hrs]
    rcases (by omega : rs = 0 ∨ rs = 1) with e | e <;> subst e <;> simp <;> omega
  /- behind the result -/
  have key : ∀ (u : Nat → Value) (w1 : World), u 2 = .int .i64 (sp : Int) → u 3 = .int .i64 (fuel : Int) → u 13 = .pointer (some ⟨N.kk, fn * 4, none⟩) → u 20 = .int .i64 (base : Int) → u 22 = .int .i64 (d : Int) → w1.cell? ⟨N.kk, fn * 4 + 2, none⟩ = some (.int .i64 (rs : Int)) → Xr w0 w1 N T z fr (some (fn, base)) S H → True := fun _ _ _ _ _ _ _ _ _ => trivial
  clear key
  have HQ0 : Hid _ := hQ0
  have HQ : Hid _ := hQ
  have HX : Hid _ := hx
  have HQQ : Hid _ := hq
  have HFR : Hid _ := hfr
  have HSP : Hid _ := hsp
  have HD : Hid _ := hd
  have HZ : Hid _ := hz
  have HKF : Hid _ := kf
  have HRS : Hid _ := hrs
  have HZL : Hid _ := hzl
  clear hQ0 hQ hx hq hfr hsp hd hz kf hrs hzl u12
  unfold fx fr42
  rw [u2, u3, u13, u20, u22]
  generalize u 12 = x12
  conv => arg 2; whnf
  rcases (by omega : rs = 0 ∨ rs = 1) with e | e
  · subst e
    have HX1 : Hid _ := HX.out.take base
    have hz0 : ws.take base = z := by have h := HZ.out; rw [HRS.out] at h; simpa using h
    rw [hz0] at HX1
    clear hz0
    cases fr with
    | nil =>
      have hd0 : d = 0 := by rw [← HD.out]; rfl
      subst hd0
      clear HX
      repeat (first | (with_reducible refine xt_exit ?_) | (with_reducible refine xt_normal ?_) | (with_reducible refine xb_normal ?_) | (with_reducible refine xb_eq ?_) | (with_reducible refine xb_ne ?_ ?_; · decide) | (with_reducible refine xt_goto ?_) | (with_reducible refine xb_goto ?_) | go_values | go_skip | go_guarded | go_step | go_step3 | go_upon)
      exact HQ0.out _ _ rfl (by kernel_rfl) (by kernel_rfl) HX1.out.head
    | cons c cs =>
      obtain ⟨hcb, ff', hff', hloc⟩ := HFR.out c cs rfl
      have hdc : d = cs.length + 1 := by rw [← HD.out]; rfl
      obtain ⟨dd, hdd⟩ : ∃ dd, cs.length = dd := ⟨_, rfl⟩
      rw [hdd] at hdc
      have hdd4 : dd ≤ 4 := by omega
      obtain ⟨-, px0, px1, px2⟩ := HX.out.popf (by omega)
      have hXq := (((HX1.out.popf (by omega)).1.qset HQQ.out (i := 0) (by decide) (.int .i64 (c.fn : Int))).qset HQQ.out (i := 1) (by decide) (.int .i64 (c.pc : Int))).qset HQQ.out (i := 2) (by decide) (.int .i64 (c.base : Int))
      obtain ⟨⟨j0, k0⟩, l0⟩ := HX.out.qbz 0 (by decide)
      obtain ⟨⟨j1, k1⟩, l1⟩ := HX.out.qbz 1 (by decide)
      obtain ⟨⟨j2, k2⟩, l2⟩ := HX.out.qbz 2 (by decide)
      rw [hdd, Nat.mul_comm 3 dd] at px0 px1 px2
      obtain ⟨Dq, dq⟩ := HX1.out.qb
      have hBq := ((dq.set (i := 0) (by decide) (.int .i64 (c.fn : Int))).set (i := 1) (by decide) (.int .i64 (c.pc : Int))).set (i := 2) (by decide) (.int .i64 (c.base : Int))
      have z0 := hBq.cell (i := 0) (by decide)
      have z1 := hBq.cell (i := 1) (by decide)
      have z2 := hBq.cell (i := 2) (by decide)
      simp [upd] at z0 z1 z2
      have HZ0 : Hid _ := z0
      have HZ1 : Hid _ := z1
      have HZ2 : Hid _ := z2
      have HXQ : Hid _ := hXq
      have HFF : Hid _ := hff'
      have HDD : Hid _ := hdd
      obtain ⟨lf, hlf⟩ : ∃ lf, C.fs.length = lf := ⟨_, rfl⟩
      have hfl : (c.fn : Int) < (lf : Int) := by rw [← hlf]; have := (List.getElem?_eq_some_iff.1 hff').1; omega
      have HLF : Hid _ := hlf
      have e2 : wrap64 ((d : Int) - 1) = (dd : Int) := predx hdc hdd4
      have e4 : (dd : Int) < 6 := by omega
      have e5 : (d : Int) - 1 = (dd : Int) := by omega
      have e6 : ¬ ((dd : Int) < 0) := by omega
      clear hXq z0 z1 z2 hBq dq hff' hdd hlf HX hdc
      repeat (first | (with_reducible refine xt_exit ?_) | (with_reducible refine xt_normal ?_) | (with_reducible refine xb_normal ?_) | (with_reducible refine xb_eq ?_) | (with_reducible refine xb_ne ?_ ?_; · decide) | (with_reducible refine xt_goto ?_) | (with_reducible refine xb_goto ?_) | go_values | go_skip | go_guarded | go_step | go_step3 | go_upon)
      generalize (((w.setCell ⟨N.qb, 0, none⟩ (.int .i64 (c.fn : Int))).setCell ⟨N.qb, 1, none⟩ (.int .i64 (c.pc : Int))).setCell ⟨N.qb, 2, none⟩ (.int .i64 (c.base : Int))) = W5 at HZ0 HZ1 HZ2 HXQ ⊢
      clear px0 px1 px2 k0 k1 k2 l0 l1 l2 kc2
      have z0 := HZ0.out
      have z1 := HZ1.out
      have z2 := HZ2.out
      have c6 := HXQ.out.c.c6
      obtain ⟨hcode, -⟩ := (HXQ.out.kx HQQ.out).code c.fn ff' HFF.out
      obtain ⟨-, ci', hkf0⟩ := HQQ.out.kx.code c.fn ff' HFF.out
      have hkf := HXQ.out.kf HQQ.out hkf0
      have y1 := hkf.c1
      have y3 := hkf.c3
      rw [HLF.out] at hcode
      obtain ⟨nc, hnc⟩ : ∃ nc, ff'.cells.length = nc := ⟨_, rfl⟩
      obtain ⟨lo', hlo'⟩ : ∃ lo', ff'.locals = lo' := ⟨_, rfl⟩
      rw [hnc] at y3
      rw [hlo'] at y1 hloc
      have HNC : Hid _ := hnc
      have HLO : Hid _ := hlo'
      have HKF2 : Hid _ := hkf0
      clear hkf hnc hlo' hkf0
      go_quiet (fail)
      have HX7 : Hid _ := HXQ.out.drewN nq
      repeat (first | (with_reducible refine xt_exit ?_) | (with_reducible refine xt_normal ?_) | (with_reducible refine xb_normal ?_) | (with_reducible refine xb_eq ?_) | (with_reducible refine xb_ne ?_ ?_; · decide) | (with_reducible refine xt_goto ?_) | (with_reducible refine xb_goto ?_) | go_values | go_skip | go_guarded | go_step | go_step3 | go_upon)
      exact HQ.out _ _ c cs ff' ci' rfl HFF.out (mid2 (fuel : Int) (base : Int) (zf := (c.base : Int) + (lo' : Int)) (by rw [HLO.out]) (by kernel_rfl) (by kernel_rfl) (by kernel_rfl) (by kernel_rfl) (by kernel_rfl) (by kernel_rfl) (by kernel_rfl) (by rw [HDD.out]; kernel_rfl) rfl (by rw [HZL.out]; simp) HNC.out HKF2.out HX7.out) (by kernel_rfl)
  · subst e
    have hsp1 : 1 ≤ sp := by omega
    obtain ⟨cw, gw⟩ := HX.out.word (i := ws.length - 1) (by rw [HSP.out]; omega) (by rw [HSP.out]; exact h120)
    obtain ⟨t0, ht0⟩ : ∃ t0, ws.getD (ws.length - 1) 0 = t0 := ⟨_, rfl⟩
    rw [ht0, HSP.out] at cw
    rw [HSP.out] at gw
    obtain ⟨⟨vg, cg⟩, gg⟩ := HX.out.slot (i := base) (by omega)
    have HX1 : Hid _ := (HX.out.set HQQ.out (i := base) (v := t0) (by omega)).take (base + 1)
    have hlist : (ws.set base t0).take (base + 1) = z := by
      have hgl : base < ws.length := by rw [HSP.out]; omega
      have h := HZ.out
      rw [HRS.out, if_pos rfl, ht0] at h
      rw [← h]
      exact take_set1 hgl
    rw [hlist] at HX1
    clear hlist ht0
    cases fr with
    | nil =>
      have hd0 : d = 0 := by rw [← HD.out]; rfl
      subst hd0
      clear HX
      obtain ⟨hs1, hs2, hs3, hs4⟩ := popx hsp1 h120
      repeat (first | (with_reducible refine xt_exit ?_) | (with_reducible refine xt_normal ?_) | (with_reducible refine xb_normal ?_) | (with_reducible refine xb_eq ?_) | (with_reducible refine xb_ne ?_ ?_; · decide) | (with_reducible refine xt_goto ?_) | (with_reducible refine xb_goto ?_) | go_values | go_skip | go_guarded | go_step | go_step3 | go_upon)
      exact HQ0.out _ _ rfl (by kernel_rfl) (by kernel_rfl) HX1.out.head
    | cons c cs =>
      obtain ⟨hcb, ff', hff', hloc⟩ := HFR.out c cs rfl
      have hdc : d = cs.length + 1 := by rw [← HD.out]; rfl
      obtain ⟨dd, hdd⟩ : ∃ dd, cs.length = dd := ⟨_, rfl⟩
      rw [hdd] at hdc
      have hdd4 : dd ≤ 4 := by omega
      obtain ⟨-, px0, px1, px2⟩ := HX.out.popf (by omega)
      have hXq := (((HX1.out.popf (by omega)).1.qset HQQ.out (i := 0) (by decide) (.int .i64 (c.fn : Int))).qset HQQ.out (i := 1) (by decide) (.int .i64 (c.pc : Int))).qset HQQ.out (i := 2) (by decide) (.int .i64 (c.base : Int))
      obtain ⟨⟨j0, k0⟩, l0⟩ := HX.out.qbz 0 (by decide)
      obtain ⟨⟨j1, k1⟩, l1⟩ := HX.out.qbz 1 (by decide)
      obtain ⟨⟨j2, k2⟩, l2⟩ := HX.out.qbz 2 (by decide)
      rw [hdd, Nat.mul_comm 3 dd] at px0 px1 px2
      obtain ⟨Dq, dq⟩ := HX1.out.qb
      have hBq := ((dq.set (i := 0) (by decide) (.int .i64 (c.fn : Int))).set (i := 1) (by decide) (.int .i64 (c.pc : Int))).set (i := 2) (by decide) (.int .i64 (c.base : Int))
      have z0 := hBq.cell (i := 0) (by decide)
      have z1 := hBq.cell (i := 1) (by decide)
      have z2 := hBq.cell (i := 2) (by decide)
      simp [upd] at z0 z1 z2
      have HZ0 : Hid _ := z0
      have HZ1 : Hid _ := z1
      have HZ2 : Hid _ := z2
      have HXQ : Hid _ := hXq
      have HFF : Hid _ := hff'
      have HDD : Hid _ := hdd
      obtain ⟨lf, hlf⟩ : ∃ lf, C.fs.length = lf := ⟨_, rfl⟩
      have hfl : (c.fn : Int) < (lf : Int) := by rw [← hlf]; have := (List.getElem?_eq_some_iff.1 hff').1; omega
      have HLF : Hid _ := hlf
      have e2 : wrap64 ((d : Int) - 1) = (dd : Int) := predx hdc hdd4
      have e4 : (dd : Int) < 6 := by omega
      have e5 : (d : Int) - 1 = (dd : Int) := by omega
      have e6 : ¬ ((dd : Int) < 0) := by omega
      clear hXq z0 z1 z2 hBq dq hff' hdd hlf HX hdc
      obtain ⟨hs1, hs2, hs3, hs4⟩ := popx hsp1 h120
      repeat (first | (with_reducible refine xt_exit ?_) | (with_reducible refine xt_normal ?_) | (with_reducible refine xb_normal ?_) | (with_reducible refine xb_eq ?_) | (with_reducible refine xb_ne ?_ ?_; · decide) | (with_reducible refine xt_goto ?_) | (with_reducible refine xb_goto ?_) | go_values | go_skip | go_guarded | go_step | go_step3 | go_upon)
      generalize ((((w.setCell ⟨N.kb, base, none⟩ (.int .u64 (t0 : Int))).setCell ⟨N.qb, 0, none⟩ (.int .i64 (c.fn : Int))).setCell ⟨N.qb, 1, none⟩ (.int .i64 (c.pc : Int))).setCell ⟨N.qb, 2, none⟩ (.int .i64 (c.base : Int))) = W5 at HZ0 HZ1 HZ2 HXQ ⊢
      clear px0 px1 px2 k0 k1 k2 l0 l1 l2 kc2
      have z0 := HZ0.out
      have z1 := HZ1.out
      have z2 := HZ2.out
      have c6 := HXQ.out.c.c6
      obtain ⟨hcode, -⟩ := (HXQ.out.kx HQQ.out).code c.fn ff' HFF.out
      obtain ⟨-, ci', hkf0⟩ := HQQ.out.kx.code c.fn ff' HFF.out
      have hkf := HXQ.out.kf HQQ.out hkf0
      have y1 := hkf.c1
      have y3 := hkf.c3
      rw [HLF.out] at hcode
      obtain ⟨nc, hnc⟩ : ∃ nc, ff'.cells.length = nc := ⟨_, rfl⟩
      obtain ⟨lo', hlo'⟩ : ∃ lo', ff'.locals = lo' := ⟨_, rfl⟩
      rw [hnc] at y3
      rw [hlo'] at y1 hloc
      have HNC : Hid _ := hnc
      have HLO : Hid _ := hlo'
      have HKF2 : Hid _ := hkf0
      clear hkf hnc hlo' hkf0
      go_quiet (fail)
      have HX7 : Hid _ := HXQ.out.drewN nq
      repeat (first | (with_reducible refine xt_exit ?_) | (with_reducible refine xt_normal ?_) | (with_reducible refine xb_normal ?_) | (with_reducible refine xb_eq ?_) | (with_reducible refine xb_ne ?_ ?_; · decide) | (with_reducible refine xt_goto ?_) | (with_reducible refine xb_goto ?_) | go_values | go_skip | go_guarded | go_step | go_step3 | go_upon)
      exact HQ.out _ _ c cs ff' ci' rfl HFF.out (mid2 (fuel : Int) ((base : Int) + 1) (zf := (c.base : Int) + (lo' : Int)) (by rw [HLO.out]) (by kernel_rfl) (by kernel_rfl) (by kernel_rfl) (by kernel_rfl) (by kernel_rfl) (by kernel_rfl) (by kernel_rfl) (by rw [HDD.out]; kernel_rfl) rfl (by rw [HZL.out]; simp) HNC.out HKF2.out HX7.out) (by kernel_rfl)
end Go.Proofs.Qxb6500275aGreatDoor
