import Derived.Test.Qxb6500275aGreatDoorRc2
set_option maxRecDepth 100000
set_option linter.unusedVariables false
set_option linter.unusedSimpArgs false
namespace Go.Proofs.Qxb6500275aGreatDoor
open Go Go.RowKit
set_option maxHeartbeats 32000000 in
theorem c10_k {num : NumF} {W : World} {a0 : Option Addr} {len cap : Nat} {X Y : Mx} {bb ib tb : Nat} {i : Nat} {oa ob oc : Int} {os ot : ByteArray} {M : Mod} (hd : decodeS os = .ok M) : Case10 num W a0 len cap X Y bb ib tb i ⟨1, oa, ob, oc, os, ot⟩ := by
  intro wr vv u st t Q hNr hNo hkn hW0 hlt hle hmx hsc hL hN
  obtain ⟨sb, off, hsc⟩ := hsc
  have HNR : Hid (NumR num) := hNr
  have HNO : Hid (NumOk num) := hNo
  have HKN : Hid (Kn W) := hkn
  have HW0 : Hid (0 < W.heap.size) := hW0
  have HL : Hid (Kr num W wr X Y st bb ib tb t) := hL
  have HN : Hid (Next10 num W (.slice a0 len cap) (.pointer (some ⟨bb, 0, none⟩)) vv X Y bb ib tb i Q) := hN
  clear hNr hNo hkn hW0 hL hN
  have hat := hsc.at_
  subst hat
  have hib : (i : Int) < (len : Int) := by omega
  have kc : ∀ j v, W.cell? ⟨sb, j, none⟩ = some v → wr.cell? ⟨sb, j, none⟩ = some v := fun j v e => by
    rw [HL.out.d.kp.cell (p := ⟨sb, j, none⟩) (lt_of_cell e) (fun h => h)]
    exact e
  have c0 := kc _ _ hsc.c0
  have c1 := kc _ _ hsc.c1
  have c2 := kc _ _ hsc.c2
  have c3 := kc _ _ hsc.c3
  have c4 := kc _ _ hsc.c4
  have c5 := kc _ _ hsc.c5
  have HOK : Hid _ := hsc.ok
  clear kc hsc
  dsimp only at c0 c1 c2 c3 c4 c5
  obtain ⟨n8, hn8⟩ : ∃ n, wr.heap.size = n := ⟨_, rfl⟩
  have h8 := O8.new wr 1 oa ob oc os ot
  have h9 := O8.new (wr.alloc (.cells #[.int .i64 1, .int .i64 oa, .int .i64 ob, .int .i64 oc, .string os, .string ot] 30)) 1 oa ob oc os ot
  have z9 := O8.fz (wr.alloc (.cells #[.int .i64 1, .int .i64 oa, .int .i64 ob, .int .i64 oc, .string os, .string ot] 30)) 1 oa ob oc os ot 4 (by decide)
  rw [World.size_alloc, hn8] at h9 z9
  rw [hn8] at h8
  have k8 : Kp (fun _ => False) wr ((wr.alloc (.cells #[.int .i64 1, .int .i64 oa, .int .i64 ob, .int .i64 oc, .string os, .string ot] 30)).alloc (.cells #[.int .i64 1, .int .i64 oa, .int .i64 ob, .int .i64 oc, .string os, .string ot] 30)) := ((Kp.refl _ _).alloc _).alloc _
  have H8 : Hid (O8 ((wr.alloc (.cells #[.int .i64 1, .int .i64 oa, .int .i64 ob, .int .i64 oc, .string os, .string ot] 30)).alloc (.cells #[.int .i64 1, .int .i64 oa, .int .i64 ob, .int .i64 oc, .string os, .string ot] 30)) n8 ⟨1, oa, ob, oc, os, ot⟩) := h8.keep ((Kp.refl (fun _ => False) _).alloc _) (fun h => h)
  have H9 : Hid (O8 ((wr.alloc (.cells #[.int .i64 1, .int .i64 oa, .int .i64 ob, .int .i64 oc, .string os, .string ot] 30)).alloc (.cells #[.int .i64 1, .int .i64 oa, .int .i64 ob, .int .i64 oc, .string os, .string ot] 30)) (n8 + 1) ⟨1, oa, ob, oc, os, ot⟩) := h9
  have Z9 : Hid (((wr.alloc (.cells #[.int .i64 1, .int .i64 oa, .int .i64 ob, .int .i64 oc, .string os, .string ot] 30)).alloc (.cells #[.int .i64 1, .int .i64 oa, .int .i64 ob, .int .i64 oc, .string os, .string ot] 30)).frozen? ⟨n8 + 1, 4, none⟩ = false) := z9
  have HD : Hid (Duo num (fun k => VB bb ib tb t k ∨ k = n8 ∨ k = n8 + 1) W ((wr.alloc (.cells #[.int .i64 1, .int .i64 oa, .int .i64 ob, .int .i64 oc, .string os, .string ot] 30)).alloc (.cells #[.int .i64 1, .int .i64 oa, .int .i64 ob, .int .i64 oc, .string os, .string ot] 30)) X Y st st) := HL.out.d.own k8 (fun _ e => e.elim) (fun k e => by
    rcases e with e | e | e
    · exact .inl e
    · exact .inr ⟨by omega, by rw [World.size_alloc, World.size_alloc]; omega⟩
    · exact .inr ⟨by omega, by rw [World.size_alloc, World.size_alloc]; omega⟩)
  have HQ : Hid (Bq ((wr.alloc (.cells #[.int .i64 1, .int .i64 oa, .int .i64 ob, .int .i64 oc, .string os, .string ot] 30)).alloc (.cells #[.int .i64 1, .int .i64 oa, .int .i64 ob, .int .i64 oc, .string os, .string ot] 30)) bb ib tb t) := HL.out.q.keep k8 (fun _ _ e => e)
  have HV8 : Hid (∀ k, VB bb ib tb t k → k < n8) := fun k e => hn8 ▸ HL.out.q.lt e
  clear h8 h9 z9 k8
  unfold fr10
  conv => arg 2; whnf
  go_wp2_with fail
  generalize ((wr.alloc (.cells #[.int .i64 1, .int .i64 oa, .int .i64 ob, .int .i64 oc, .string os, .string ot] 30)).alloc (.cells #[.int .i64 1, .int .i64 oa, .int .i64 ob, .int .i64 oc, .string os, .string ot] 30)) = U at HD H8 H9 Z9 HQ ⊢
  try rw [hn8]
  clear c0 c1 c2 c3 c4 c5 HL
  obtain ⟨ty0, hbt⟩ := HQ.out.bt
  have hdc := @decode_calls ⟨t⟩ _ os _ _ _ ty0 hbt
  rw [hd] at hdc
  refine hdc.mono ?_
  rintro en u1 ⟨kd1, hbt1, mb, hmb, rfl, hmd⟩
  have HD1 : Hid (Duo num (fun k => VB bb ib tb t k ∨ k = n8 ∨ k = n8 + 1) W u1 X Y st st) := HD.out.own kd1 (fun k e => by
    rcases e with e | e | e
    · exact .inl (.inl e)
    · exact .inl (.inr (.inl e))
    · exact .inl (.inr (.inr (.inl e)))) (fun k e => .inl e)
  have hnn : ∀ k, n8 ≤ k → ¬ (k = bb ∨ k = ib ∨ k = tb) := fun k hk e => by
    have b1 := HV8.out bb (.inl rfl)
    have b2 := HV8.out ib (.inr (.inl rfl))
    have b3 := HV8.out tb (.inr (.inr (.inl rfl)))
    omega
  have H81 : Hid (O8 u1 n8 ⟨1, oa, ob, oc, os, ot⟩) := H8.out.keep kd1 (hnn _ (Nat.le_refl _))
  have H91 : Hid (O8 u1 (n8 + 1) ⟨1, oa, ob, oc, os, ot⟩) := H9.out.keep kd1 (hnn _ (by omega))
  have HQ1 : Hid (Bq u1 bb ib tb t) := HQ.out.decoded kd1 hbt1
  have Z91 : Hid (u1.frozen? ⟨n8 + 1, 4, none⟩ = false) := by
    show _ = _
    rw [kd1.frozen (p := ⟨n8 + 1, 4, none⟩) (lt_of_cell H9.out.c4) (hnn (n8 + 1) (by omega))]
    exact Z9.out
  have hn9 : n8 + 1 < U.heap.size := lt_of_cell H9.out.c0
  have hVm : ∀ k, VB bb ib tb t k → k < mb := fun k e => by have := HV8.out k e; omega
  have hde := decode_encode hd
  have hsz : os.size ≤ 1024 := by
    unfold decodeS at hd
    split at hd
    · simp at hd
    · omega
  have hdr := decodeS_r hd
  have henc := encode_calls hdr.1 hdr.2 hmd (Nat.le_trans hde.1 hsz) hde.2.1 HQ1.out hVm
  have HMD : Hid (Md u1 mb M) := hmd
  have HMO : Hid (ModOk M) := hdr.1
  have hes : (bytesOf (encMod M)).size ≤ os.size := by rw [bytesOf_size]; exact hde.1
  have HVM : Hid (∀ k, VB bb ib tb t k → k < mb) := hVm
  have HD0 : Hid (decodeS os = .ok M) := hd
  have hmn : n8 + 1 < mb := by omega
  have h9c := H91.out.c4
  dsimp only at h9c
  obtain ⟨es, hese⟩ : ∃ e, bytesOf (encMod M) = e := ⟨_, rfl⟩
  have HES : Hid (bytesOf (encMod M) = es) := hese
  rw [hese] at henc hes
  have HDE : Hid (decodeS es = .ok M) := hese ▸ hde.2.2
  clear hdc kd1 hbt1 hbt hnn HD H8 H9 HQ Z9 hmd hde hdr hVm hd hmb hese
  go_wp2_with fail
  refine henc.mono ?_
  rintro en u2 ⟨rfl, tq, hq2, hvb, k2⟩
  have z92 : u2.frozen? ⟨n8 + 1, 4, none⟩ = false := by
    rw [k2.frozen (p := ⟨n8 + 1, 4, none⟩) (lt_of_cell h9c) (fun e => by have := HV8.out (n8 + 1) e; omega)]
    exact Z91.out
  have h92 := H91.out.keep k2 (fun e => by have := HV8.out _ e; omega)
  have h82 := H81.out.keep k2 (fun e => by have := HV8.out _ e; omega)
  have c92 := h92.c4
  dsimp only at c92
  have hn1 : n8 + 1 < u1.heap.size := lt_of_cell h9c
  have hd2 : Duo num (fun k => VB bb ib tb tq k ∨ k = n8 ∨ k = n8 + 1) W u2 X Y st st := HD1.out.own k2 (fun k e => .inl e) (fun k e => by
    rcases e with e | e
    · rcases hvb k e with e2 | e2
      · exact .inl (.inl e2)
      · exact .inr ⟨e2, hq2.lt e⟩
    · exact .inl (.inr e))
  have HVT : Hid (∀ k, VB bb ib tb tq k → k < n8 ∨ n8 + 1 < k) := fun k e => by
    rcases hvb k e with e2 | e2
    · exact .inl (HV8.out k e2)
    · exact .inr (by omega)
  have ks : Kp (fun k => k = n8 + 1) u2 (u2.setCell ⟨n8 + 1, 4, none⟩ (.string es)) := (Kp.refl (fun k => k = n8 + 1) u2).setCell (p := ⟨n8 + 1, 4, none⟩) (.inl rfl) _
  have HD3 : Hid (Duo num (fun k => VB bb ib tb tq k ∨ k = n8 ∨ k = n8 + 1) W (u2.setCell ⟨n8 + 1, 4, none⟩ (.string es)) X Y st st) := hd2.own ks (fun k e => .inr (.inr e)) (fun k e => .inl e)
  have HQ3 : Hid (Bq (u2.setCell ⟨n8 + 1, 4, none⟩ (.string es)) bb ib tb tq) := hq2.keep ks (fun k e e2 => by have := HVT.out k e; omega)
  have H83 : Hid (O8 (u2.setCell ⟨n8 + 1, 4, none⟩ (.string es)) n8 ⟨1, oa, ob, oc, os, ot⟩) := h82.keep ks (by omega)
  have H93 : Hid (O8 (u2.setCell ⟨n8 + 1, 4, none⟩ (.string es)) (n8 + 1) ⟨1, oa, ob, oc, es, ot⟩) := h92.setS es
  have HMD3 : Hid (Md (u2.setCell ⟨n8 + 1, 4, none⟩ (.string es)) mb M) := (HMD.out.keep k2 HVM.out).keep ks (fun k e => by omega)
  obtain ⟨ty3, hbt3⟩ := HQ3.out.bt
  have hck := @bcheck_calls ⟨tq⟩ _ _ _ _ ty3 hbt3
  clear henc hq2 hvb k2 h92 h82 hd2 ks HD1 HQ1 H81 H91 Z91 HMD h9c hbt3
  go_wp2_with fail
  generalize (u2.setCell ⟨n8 + 1, 4, none⟩ (.string es)) = U3 at HD3 HQ3 H83 H93 HMD3 hck ⊢
  refine hck.mono ?_
  rintro en u4 ⟨rfl, k4⟩
  have HD4 : Hid (Duo num (fun k => VB bb ib tb tq k ∨ k = n8 ∨ k = n8 + 1) W u4 X Y st st) := HD3.out.quiet k4
  have HQ4 : Hid (Bq u4 bb ib tb tq) := HQ3.out.keep k4 (fun _ _ e => e)
  have H84 : Hid (O8 u4 n8 ⟨1, oa, ob, oc, os, ot⟩) := H83.out.keep k4 (fun e => e)
  have H94 : Hid (O8 u4 (n8 + 1) ⟨1, oa, ob, oc, es, ot⟩) := H93.out.keep k4 (fun e => e)
  have HMD4 : Hid (Md u4 mb M) := HMD3.out.keep k4 (fun k e => e.elim)
  have c94 := H94.out.c4
  dsimp only at c94
  obtain ⟨ty4, hbt4⟩ := HQ4.out.bt
  have hdc := @decode_calls ⟨tq⟩ _ es _ _ _ ty4 hbt4
  rw [HDE.out] at hdc
  clear hck k4 HD3 HQ3 H83 H93 HMD3 hbt4 c92 z92
  go_wp2_with fail
  refine hdc.mono ?_
  rintro en u5 ⟨k5, hbt5, mb2, hmb2, rfl, hmd2⟩
  have hnn : ∀ k, k = bb ∨ k = ib ∨ k = tb → VB bb ib tb tq k := fun k e => by
    rcases e with e | e | e
    · exact .inl e
    · exact .inr (.inl e)
    · exact .inr (.inr (.inl e))
  have HD5 : Hid (Duo num (fun k => VB bb ib tb tq k ∨ k = n8 ∨ k = n8 + 1) W u5 X Y st st) := HD4.out.own k5 (fun k e => .inl (hnn k e)) (fun k e => .inl e)
  have HQ5 : Hid (Bq u5 bb ib tb tq) := HQ4.out.decoded k5 hbt5
  have H85 : Hid (O8 u5 n8 ⟨1, oa, ob, oc, os, ot⟩) := H84.out.keep k5 (fun e => by have := HVT.out _ (hnn _ e); omega)
  have H95 : Hid (O8 u5 (n8 + 1) ⟨1, oa, ob, oc, es, ot⟩) := H94.out.keep k5 (fun e => by have := HVT.out _ (hnn _ e); omega)
  have hmd5 : Md u5 mb M := HMD4.out.keep k5 (fun k e => by
    rcases e with e | e | e
    · exact HVM.out k (.inl e)
    · exact HVM.out k (.inr (.inl e))
    · exact HVM.out k (.inr (.inr (.inl e))))
  have HM2 : Hid (Md u5 mb2 M) := hmd2
  have hsh := show_calls HMO.out hmd5
  obtain ⟨sm, hsm⟩ : ∃ x, showMod M = x := ⟨_, rfl⟩
  rw [hsm] at hsh
  have HSM : Hid (showMod M = sm) := hsm
  have c84 := H85.out.c4
  have c94 := H95.out.c4
  dsimp only at c84 c94
  have gl : decide ((os.size : Int) < (es.size : Int)) = false := decide_eq_false (by omega)
  have gl2 : decide (os.size < es.size) = false := decide_eq_false (by omega)
  clear hdc k5 hbt5 hmd5 hmd2 hmb2 hnn HD4 HQ4 H84 H94 HMD4 hsm
  go_wp2_with fail
  refine hsh.mono ?_
  rintro en u6 ⟨rfl, k6⟩
  have hsh2 := show_calls HMO.out (HM2.out.keep k6 (fun k e => e.elim))
  rw [HSM.out] at hsh2
  have HD6 : Hid (Duo num (fun k => VB bb ib tb tq k ∨ k = n8 ∨ k = n8 + 1) W u6 X Y st st) := HD5.out.quiet k6
  have HQ6 : Hid (Bq u6 bb ib tb tq) := HQ5.out.keep k6 (fun _ _ e => e)
  have H86 : Hid (O8 u6 n8 ⟨1, oa, ob, oc, os, ot⟩) := H85.out.keep k6 (fun e => e)
  have H96 : Hid (O8 u6 (n8 + 1) ⟨1, oa, ob, oc, es, ot⟩) := H95.out.keep k6 (fun e => e)
  clear hsh k6 HD5 HQ5 H85 H95 HM2 c84 c94 gl gl2
  go_wp2_with fail
  refine hsh2.mono ?_
  rintro en u7 ⟨rfl, k7⟩
  have HD : Hid (Duo num (fun k => VB bb ib tb tq k ∨ k = n8 ∨ k = n8 + 1) W u7 X Y st st) := HD6.out.quiet k7
  have HQ : Hid (Bq u7 bb ib tb tq) := HQ6.out.keep k7 (fun _ _ e => e)
  have H8 : Hid (O8 u7 n8 ⟨1, oa, ob, oc, os, ot⟩) := H86.out.keep k7 (fun e => e)
  have H9 : Hid (O8 u7 (n8 + 1) ⟨1, oa, ob, oc, es, ot⟩) := H96.out.keep k7 (fun e => e)
  have HOK2 : Hid (OpOk ⟨1, oa, ob, oc, es, ot⟩) := ⟨HOK.out.a, Nat.le_trans hes HOK.out.s, HOK.out.t⟩
  have HDET : Hid (∀ a st1, DoR num st ⟨1, oa, ob, oc, os, ot⟩ a st1 → DoR num st ⟨1, oa, ob, oc, es, ot⟩ a st1) := fun a st1 hr => by
    have := DoR.recode HD0.out rfl hr
    rw [HES.out] at this
    exact this
  clear hsh2 k7 HD6 HQ6 H86 H96 hes
  obtain ⟨c0, c1, c2, c3, c4, c5⟩ := H8.out
  dsimp only at c0 c1 c2 c3 c4 c5
  have hdo := HD.out.do_ HNR.out HNO.out HKN.out HW0.out ⟨1, oa, ob, oc, os, ot⟩ HOK.out
  unfold Op6.val at hdo
  dsimp only at hdo
  have HV9 : Hid (∀ k, VB bb ib tb tq k ∨ k = n8 ∨ k = n8 + 1 → ¬ (W.heap.size ≤ k ∧ ¬ (VB bb ib tb tq k ∨ k = n8 ∨ k = n8 + 1))) := fun k e e2 => e2.2 e
  go_wp2_with fail
  refine hdo.mono ?_
  rintro en u2 ⟨st1, ⟨a, rfl, hR⟩, t2, k2⟩
  obtain ⟨ae, an, am, asx⟩ := a
  unfold An4.val
  dsimp only at hR ⊢
  have HR : Hid (DoR num st ⟨1, oa, ob, oc, os, ot⟩ ⟨ae, an, am, asx⟩ st1) := hR
  have hka : Kp (fun _ => False) u2 (u2.alloc (.cells #[.int .i64 ae, .int .i64 an, .int .i64 am, .string asx] 39)) := (Kp.refl _ _).alloc _
  have HD2 : Hid (Duo num (fun k => VB bb ib tb tq k ∨ k = n8 ∨ k = n8 + 1 ∨ k = u2.heap.size) W (u2.alloc (.cells #[.int .i64 ae, .int .i64 an, .int .i64 am, .string asx] 39)) X Y st1 st) := t2.own hka (fun _ e => e.elim) (fun k e => by
    rcases e with e | e | e | e
    · exact .inl (.inl e)
    · exact .inl (.inr (.inl e))
    · exact .inl (.inr (.inr e))
    · exact .inr ⟨by omega, by rw [World.size_alloc]; omega⟩)
  have H92 : Hid (O8 (u2.alloc (.cells #[.int .i64 ae, .int .i64 an, .int .i64 am, .string asx] 39)) (n8 + 1) ⟨1, oa, ob, oc, es, ot⟩) := (H9.out.keep k2 (HV9.out _ (.inr (.inr rfl)))).keep hka (fun h => h)
  have HQ2 : Hid (Bq (u2.alloc (.cells #[.int .i64 ae, .int .i64 an, .int .i64 am, .string asx] 39)) bb ib tb tq) := (HQ.out.keep k2 (fun k e => HV9.out k (.inl e))).keep hka (fun _ _ e => e)
  have HA2 : Hid (A4 (u2.alloc (.cells #[.int .i64 ae, .int .i64 an, .int .i64 am, .string asx] 39)) u2.heap.size ⟨ae, an, am, asx⟩) := A4.new u2 ae an am asx
  clear hR t2 k2 hdo HD H8 H9 HQ c0 c1 c2 c3 c4 c5 hka HV9
  obtain ⟨c0, c1, c2, c3, c4, c5⟩ := H92.out
  dsimp only at c0 c1 c2 c3 c4 c5
  have hdo := HD2.out.rot.do_ HNR.out HNO.out HKN.out HW0.out ⟨1, oa, ob, oc, es, ot⟩ HOK2.out
  unfold Op6.val at hdo
  dsimp only at hdo
  go_wp2_with fail
  refine hdo.mono ?_
  rintro en u3 ⟨st2, ⟨b, rfl, hR2⟩, t3, k3⟩
  obtain ⟨hab, hst⟩ := (HDET.out _ _ HR.out).det hR2
  subst hab hst
  unfold An4.val
  dsimp only
  obtain ⟨n10, hn10e⟩ : ∃ n, u2.heap.size = n := ⟨_, rfl⟩
  rw [hn10e] at HD2 HA2 t3 k3 ⊢
  have HV9 : Hid (∀ k, VB bb ib tb tq k ∨ k = n8 ∨ k = n8 + 1 ∨ k = n10 → ¬ (W.heap.size ≤ k ∧ ¬ (VB bb ib tb tq k ∨ k = n8 ∨ k = n8 + 1 ∨ k = n10))) := fun k e e2 => e2.2 e
  have hka : Kp (fun _ => False) u3 (u3.alloc (.cells #[.int .i64 ae, .int .i64 an, .int .i64 am, .string asx] 39)) := (Kp.refl _ _).alloc _
  have HD3 : Hid (Duo num (fun k => VB bb ib tb tq k ∨ k = n8 ∨ k = n8 + 1 ∨ k = n10) W (u3.alloc (.cells #[.int .i64 ae, .int .i64 an, .int .i64 am, .string asx] 39)) X Y st1 st1) := t3.rot.quiet hka
  have HQ3 : Hid (Bq (u3.alloc (.cells #[.int .i64 ae, .int .i64 an, .int .i64 am, .string asx] 39)) bb ib tb tq) := (HQ2.out.keep k3 (fun k e => HV9.out k (.inl e))).keep hka (fun _ _ e => e)
  have HA3 : Hid (A4 (u3.alloc (.cells #[.int .i64 ae, .int .i64 an, .int .i64 am, .string asx] 39)) n10 ⟨ae, an, am, asx⟩) := (HA2.out.keep k3 (HV9.out _ (.inr (.inr (.inr rfl))))).keep hka (fun h => h)
  have HA4 : Hid (A4 (u3.alloc (.cells #[.int .i64 ae, .int .i64 an, .int .i64 am, .string asx] 39)) u3.heap.size ⟨ae, an, am, asx⟩) := A4.new u3 ae an am asx
  obtain ⟨a0', a1', a2', a3'⟩ := HA3.out
  obtain ⟨b0', b1', b2', b3'⟩ := HA4.out
  dsimp only at a0' a1' a2' a3' b0' b1' b2' b3'
  have heq := eq39s ⟨ae, an, am, asx⟩
  unfold An4.val at heq
  dsimp only at heq
  have hsh := HD3.out.show
  clear hR2 t3 k3 hdo HD2 H92 HQ2 HA2 c0 c1 c2 c3 c4 c5 hn10e hka HV9
  go_wp2_with fail
  refine hsh.mono ?_
  rintro en u4 ⟨rfl, k4⟩
  have HD4 : Hid (Duo num (fun k => VB bb ib tb tq k ∨ k = n8 ∨ k = n8 + 1 ∨ k = n10) W u4 X Y st1 st1) := HD3.out.quiet k4
  have HQ4 : Hid (Bq u4 bb ib tb tq) := HQ3.out.keep k4 (fun _ _ e => e)
  have hsh2 := HD4.out.rot.show
  clear hsh k4 HD3 HQ3 HA3 HA4 a0' a1' a2' a3' b0' b1' b2' b3' heq
  go_wp2_with fail
  refine hsh2.mono ?_
  rintro en u5 ⟨rfl, k5⟩
  have HD5 : Hid (Duo num (VB bb ib tb tq) W u5 X Y st1 st1) := HD4.out.own k5 (fun _ e => e.elim) (fun k e => .inl (.inl e))
  have HQ5 : Hid (Bq u5 bb ib tb tq) := HQ4.out.keep k5 (fun _ _ e => e)
  clear hsh2 k5 HD4 HQ4
  go_wp2_with fail
  exact HN.out _ _ st1 tq (by kernel_rfl) ⟨HD5.out, HQ5.out⟩
end Go.Proofs.Qxb6500275aGreatDoor
