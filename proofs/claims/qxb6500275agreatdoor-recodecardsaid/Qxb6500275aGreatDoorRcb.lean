import Derived.Test.Qxb6500275aGreatDoorRc2
set_option maxRecDepth 100000
set_option linter.unusedVariables false
set_option linter.unusedSimpArgs false
namespace Go.Proofs.Qxb6500275aGreatDoor
open Go Go.RowKit
set_option maxHeartbeats 32000000 in
theorem c10_e {num : NumF} {W : World} {a0 : Option Addr} {len cap : Nat} {X Y : Mx} {bb ib tb : Nat} {i : Nat} {oa ob oc : Int} {os ot : ByteArray} {c : Int} {p : Nat} (hd : decodeS os = .error (c, p)) (hc : c ≠ 0) : Case10 num W a0 len cap X Y bb ib tb i ⟨1, oa, ob, oc, os, ot⟩ := by
  intro wr vv u st t Q hNr hNo hkn hW0 hlt hle hmx hsc hL hN
  obtain ⟨sb, off, hsc⟩ := hsc
  have HNR : Hid (NumR num) := hNr
  have HNO : Hid (NumOk num) := hNo
  have HKN : Hid (Kn W) := hkn
  have HW0 : Hid (0 < W.heap.size) := hW0
  have HL : Hid (Kr num W wr X Y st bb ib tb t) := hL
  have HN : Hid (Next10 num W (.slice a0 len cap) (.pointer (some ⟨bb, 0, none⟩)) vv X Y bb ib tb i Q) := hN
  clear hNr hNo hkn hW0 hL hN
  have hat := hsc.at_
  subst hat
  have hib : (i : Int) < (len : Int) := by omega
  have kc : ∀ j v, W.cell? ⟨sb, j, none⟩ = some v → wr.cell? ⟨sb, j, none⟩ = some v := fun j v e => by
    rw [HL.out.d.kp.cell (p := ⟨sb, j, none⟩) (lt_of_cell e) (fun h => h)]
    exact e
  have c0 := kc _ _ hsc.c0
  have c1 := kc _ _ hsc.c1
  have c2 := kc _ _ hsc.c2
  have c3 := kc _ _ hsc.c3
  have c4 := kc _ _ hsc.c4
  have c5 := kc _ _ hsc.c5
  have HOK : Hid _ := hsc.ok
  clear kc hsc
  dsimp only at c0 c1 c2 c3 c4 c5
  obtain ⟨n8, hn8⟩ : ∃ n, wr.heap.size = n := ⟨_, rfl⟩
  have h8 := O8.new wr 1 oa ob oc os ot
  have h9 := O8.new (wr.alloc (.cells #[.int .i64 1, .int .i64 oa, .int .i64 ob, .int .i64 oc, .string os, .string ot] 30)) 1 oa ob oc os ot
  have z9 := O8.fz (wr.alloc (.cells #[.int .i64 1, .int .i64 oa, .int .i64 ob, .int .i64 oc, .string os, .string ot] 30)) 1 oa ob oc os ot 4 (by decide)
  rw [World.size_alloc, hn8] at h9 z9
  rw [hn8] at h8
  have k8 : Kp (fun _ => False) wr ((wr.alloc (.cells #[.int .i64 1, .int .i64 oa, .int .i64 ob, .int .i64 oc, .string os, .string ot] 30)).alloc (.cells #[.int .i64 1, .int .i64 oa, .int .i64 ob, .int .i64 oc, .string os, .string ot] 30)) := ((Kp.refl _ _).alloc _).alloc _
  have H8 : Hid (O8 ((wr.alloc (.cells #[.int .i64 1, .int .i64 oa, .int .i64 ob, .int .i64 oc, .string os, .string ot] 30)).alloc (.cells #[.int .i64 1, .int .i64 oa, .int .i64 ob, .int .i64 oc, .string os, .string ot] 30)) n8 ⟨1, oa, ob, oc, os, ot⟩) := h8.keep ((Kp.refl (fun _ => False) _).alloc _) (fun h => h)
  have H9 : Hid (O8 ((wr.alloc (.cells #[.int .i64 1, .int .i64 oa, .int .i64 ob, .int .i64 oc, .string os, .string ot] 30)).alloc (.cells #[.int .i64 1, .int .i64 oa, .int .i64 ob, .int .i64 oc, .string os, .string ot] 30)) (n8 + 1) ⟨1, oa, ob, oc, os, ot⟩) := h9
  have Z9 : Hid (((wr.alloc (.cells #[.int .i64 1, .int .i64 oa, .int .i64 ob, .int .i64 oc, .string os, .string ot] 30)).alloc (.cells #[.int .i64 1, .int .i64 oa, .int .i64 ob, .int .i64 oc, .string os, .string ot] 30)).frozen? ⟨n8 + 1, 4, none⟩ = false) := z9
  have HD : Hid (Duo num (fun k => VB bb ib tb t k ∨ k = n8 ∨ k = n8 + 1) W ((wr.alloc (.cells #[.int .i64 1, .int .i64 oa, .int .i64 ob, .int .i64 oc, .string os, .string ot] 30)).alloc (.cells #[.int .i64 1, .int .i64 oa, .int .i64 ob, .int .i64 oc, .string os, .string ot] 30)) X Y st st) := HL.out.d.own k8 (fun _ e => e.elim) (fun k e => by
    rcases e with e | e | e
    · exact .inl e
    · exact .inr ⟨by omega, by rw [World.size_alloc, World.size_alloc]; omega⟩
    · exact .inr ⟨by omega, by rw [World.size_alloc, World.size_alloc]; omega⟩)
  have HQ : Hid (Bq ((wr.alloc (.cells #[.int .i64 1, .int .i64 oa, .int .i64 ob, .int .i64 oc, .string os, .string ot] 30)).alloc (.cells #[.int .i64 1, .int .i64 oa, .int .i64 ob, .int .i64 oc, .string os, .string ot] 30)) bb ib tb t) := HL.out.q.keep k8 (fun _ _ e => e)
  have HV8 : Hid (∀ k, VB bb ib tb t k → k < n8) := fun k e => hn8 ▸ HL.out.q.lt e
  clear h8 h9 z9 k8
  unfold fr10
  conv => arg 2; whnf
  go_wp2_with fail
  generalize ((wr.alloc (.cells #[.int .i64 1, .int .i64 oa, .int .i64 ob, .int .i64 oc, .string os, .string ot] 30)).alloc (.cells #[.int .i64 1, .int .i64 oa, .int .i64 ob, .int .i64 oc, .string os, .string ot] 30)) = U at HD H8 H9 Z9 HQ ⊢
  try rw [hn8]
  clear c0 c1 c2 c3 c4 c5 HL
  obtain ⟨ty0, hbt⟩ := HQ.out.bt
  have hdc := @decode_calls ⟨t⟩ _ os _ _ _ ty0 hbt
  rw [hd] at hdc
  refine hdc.mono ?_
  rintro en u1 ⟨kd1, hbt1, rfl⟩
  have HD1 : Hid (Duo num (fun k => VB bb ib tb t k ∨ k = n8 ∨ k = n8 + 1) W u1 X Y st st) := HD.out.own kd1 (fun k e => by
    rcases e with e | e | e
    · exact .inl (.inl e)
    · exact .inl (.inr (.inl e))
    · exact .inl (.inr (.inr (.inl e)))) (fun k e => .inl e)
  have hnn : ∀ k, n8 ≤ k → ¬ (k = bb ∨ k = ib ∨ k = tb) := fun k hk e => by
    have b1 := HV8.out bb (.inl rfl)
    have b2 := HV8.out ib (.inr (.inl rfl))
    have b3 := HV8.out tb (.inr (.inr (.inl rfl)))
    omega
  have H81 : Hid (O8 u1 n8 ⟨1, oa, ob, oc, os, ot⟩) := H8.out.keep kd1 (hnn _ (Nat.le_refl _))
  have H91 : Hid (O8 u1 (n8 + 1) ⟨1, oa, ob, oc, os, ot⟩) := H9.out.keep kd1 (hnn _ (by omega))
  have HQ1 : Hid (Bq u1 bb ib tb t) := HQ.out.decoded kd1 hbt1
  have gc : (c == 0) = false := by rw [beq_eq_false_iff_ne]; exact hc
  clear hdc kd1 hbt1 hbt hnn HD H8 H9 HQ Z9
  have HD := HD1
  have H8 := H81
  have H9 := H91
  have HQ := HQ1
  clear HD1 H81 H91 HQ1
  obtain ⟨c0, c1, c2, c3, c4, c5⟩ := H8.out
  dsimp only at c0 c1 c2 c3 c4 c5
  have hdo := HD.out.do_ HNR.out HNO.out HKN.out HW0.out ⟨1, oa, ob, oc, os, ot⟩ HOK.out
  unfold Op6.val at hdo
  dsimp only at hdo
  have HV9 : Hid (∀ k, VB bb ib tb t k ∨ k = n8 ∨ k = n8 + 1 → ¬ (W.heap.size ≤ k ∧ ¬ (VB bb ib tb t k ∨ k = n8 ∨ k = n8 + 1))) := fun k e e2 => e2.2 e
  go_wp2_with fail
  refine hdo.mono ?_
  rintro en u2 ⟨st1, ⟨a, rfl, hR⟩, t2, k2⟩
  obtain ⟨ae, an, am, asx⟩ := a
  unfold An4.val
  dsimp only at hR ⊢
  have HR : Hid (DoR num st ⟨1, oa, ob, oc, os, ot⟩ ⟨ae, an, am, asx⟩ st1) := hR
  have hka : Kp (fun _ => False) u2 (u2.alloc (.cells #[.int .i64 ae, .int .i64 an, .int .i64 am, .string asx] 39)) := (Kp.refl _ _).alloc _
  have HD2 : Hid (Duo num (fun k => VB bb ib tb t k ∨ k = n8 ∨ k = n8 + 1 ∨ k = u2.heap.size) W (u2.alloc (.cells #[.int .i64 ae, .int .i64 an, .int .i64 am, .string asx] 39)) X Y st1 st) := t2.own hka (fun _ e => e.elim) (fun k e => by
    rcases e with e | e | e | e
    · exact .inl (.inl e)
    · exact .inl (.inr (.inl e))
    · exact .inl (.inr (.inr e))
    · exact .inr ⟨by omega, by rw [World.size_alloc]; omega⟩)
  have H92 : Hid (O8 (u2.alloc (.cells #[.int .i64 ae, .int .i64 an, .int .i64 am, .string asx] 39)) (n8 + 1) ⟨1, oa, ob, oc, os, ot⟩) := (H9.out.keep k2 (HV9.out _ (.inr (.inr rfl)))).keep hka (fun h => h)
  have HQ2 : Hid (Bq (u2.alloc (.cells #[.int .i64 ae, .int .i64 an, .int .i64 am, .string asx] 39)) bb ib tb t) := (HQ.out.keep k2 (fun k e => HV9.out k (.inl e))).keep hka (fun _ _ e => e)
  have HA2 : Hid (A4 (u2.alloc (.cells #[.int .i64 ae, .int .i64 an, .int .i64 am, .string asx] 39)) u2.heap.size ⟨ae, an, am, asx⟩) := A4.new u2 ae an am asx
  clear hR t2 k2 hdo HD H8 H9 HQ c0 c1 c2 c3 c4 c5 hka HV9
  obtain ⟨c0, c1, c2, c3, c4, c5⟩ := H92.out
  dsimp only at c0 c1 c2 c3 c4 c5
  have hdo := HD2.out.rot.do_ HNR.out HNO.out HKN.out HW0.out ⟨1, oa, ob, oc, os, ot⟩ HOK.out
  unfold Op6.val at hdo
  dsimp only at hdo
  go_wp2_with fail
  refine hdo.mono ?_
  rintro en u3 ⟨st2, ⟨b, rfl, hR2⟩, t3, k3⟩
  obtain ⟨hab, hst⟩ := HR.out.det hR2
  subst hab hst
  unfold An4.val
  dsimp only
  obtain ⟨n10, hn10e⟩ : ∃ n, u2.heap.size = n := ⟨_, rfl⟩
  rw [hn10e] at HD2 HA2 t3 k3 ⊢
  have HV9 : Hid (∀ k, VB bb ib tb t k ∨ k = n8 ∨ k = n8 + 1 ∨ k = n10 → ¬ (W.heap.size ≤ k ∧ ¬ (VB bb ib tb t k ∨ k = n8 ∨ k = n8 + 1 ∨ k = n10))) := fun k e e2 => e2.2 e
  have hka : Kp (fun _ => False) u3 (u3.alloc (.cells #[.int .i64 ae, .int .i64 an, .int .i64 am, .string asx] 39)) := (Kp.refl _ _).alloc _
  have HD3 : Hid (Duo num (fun k => VB bb ib tb t k ∨ k = n8 ∨ k = n8 + 1 ∨ k = n10) W (u3.alloc (.cells #[.int .i64 ae, .int .i64 an, .int .i64 am, .string asx] 39)) X Y st1 st1) := t3.rot.quiet hka
  have HQ3 : Hid (Bq (u3.alloc (.cells #[.int .i64 ae, .int .i64 an, .int .i64 am, .string asx] 39)) bb ib tb t) := (HQ2.out.keep k3 (fun k e => HV9.out k (.inl e))).keep hka (fun _ _ e => e)
  have HA3 : Hid (A4 (u3.alloc (.cells #[.int .i64 ae, .int .i64 an, .int .i64 am, .string asx] 39)) n10 ⟨ae, an, am, asx⟩) := (HA2.out.keep k3 (HV9.out _ (.inr (.inr (.inr rfl))))).keep hka (fun h => h)
  have HA4 : Hid (A4 (u3.alloc (.cells #[.int .i64 ae, .int .i64 an, .int .i64 am, .string asx] 39)) u3.heap.size ⟨ae, an, am, asx⟩) := A4.new u3 ae an am asx
  obtain ⟨a0', a1', a2', a3'⟩ := HA3.out
  obtain ⟨b0', b1', b2', b3'⟩ := HA4.out
  dsimp only at a0' a1' a2' a3' b0' b1' b2' b3'
  have heq := eq39s ⟨ae, an, am, asx⟩
  unfold An4.val at heq
  dsimp only at heq
  have hsh := HD3.out.show
  clear hR2 t3 k3 hdo HD2 H92 HQ2 HA2 c0 c1 c2 c3 c4 c5 hn10e hka HV9
  go_wp2_with fail
  refine hsh.mono ?_
  rintro en u4 ⟨rfl, k4⟩
  have HD4 : Hid (Duo num (fun k => VB bb ib tb t k ∨ k = n8 ∨ k = n8 + 1 ∨ k = n10) W u4 X Y st1 st1) := HD3.out.quiet k4
  have HQ4 : Hid (Bq u4 bb ib tb t) := HQ3.out.keep k4 (fun _ _ e => e)
  have hsh2 := HD4.out.rot.show
  clear hsh k4 HD3 HQ3 HA3 HA4 a0' a1' a2' a3' b0' b1' b2' b3' heq
  go_wp2_with fail
  refine hsh2.mono ?_
  rintro en u5 ⟨rfl, k5⟩
  have HD5 : Hid (Duo num (VB bb ib tb t) W u5 X Y st1 st1) := HD4.out.own k5 (fun _ e => e.elim) (fun k e => .inl (.inl e))
  have HQ5 : Hid (Bq u5 bb ib tb t) := HQ4.out.keep k5 (fun _ _ e => e)
  clear hsh2 k5 HD4 HQ4
  go_wp2_with fail
  exact HN.out _ _ st1 t (by kernel_rfl) ⟨HD5.out, HQ5.out⟩
end Go.Proofs.Qxb6500275aGreatDoor
