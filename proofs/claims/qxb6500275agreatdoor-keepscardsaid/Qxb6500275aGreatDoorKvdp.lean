import Derived.Test.Qxb6500275aGreatDoorKva
set_option maxRecDepth 100000
set_option linter.unusedVariables false
set_option linter.unusedSimpArgs false
namespace Go.Proofs.Qxb6500275aGreatDoor
open Go Go.RowKit
set_option maxHeartbeats 32000000 in
theorem c9_6p {num : NumF} {W : World} {a0 : Option Addr} {len cap : Nat} {X Y Z : Mx} {i : Nat} {oa ob oc : Int} {os ot : ByteArray} (hneg : 0 ≤ oa) : Case9 num W a0 len cap X Y Z i ⟨6, oa, ob, oc, os, ot⟩ := by
  intro wr u lev st stz Q hNr hNo hkn hW0 hlt hle hmx hsc hL hN
  obtain ⟨sb, off, hsc⟩ := hsc
  have HNR : Hid (NumR num) := hNr
  have HNO : Hid (NumOk num) := hNo
  have HKN : Hid (Kn W) := hkn
  have HW0 : Hid (0 < W.heap.size) := hW0
  have HL : Hid (Kl num W wr X Y Z st stz lev) := hL
  have HN : Hid (Next9 num W (.slice a0 len cap) X Y Z i Q) := hN
  clear hNr hNo hkn hW0 hL hN
  have hat := hsc.at_
  subst hat
  have hib : (i : Int) < (len : Int) := by omega
  have kc : ∀ j v, W.cell? ⟨sb, j, none⟩ = some v → wr.cell? ⟨sb, j, none⟩ = some v := fun j v e => by
    rw [HL.out.t.kp.cell (p := ⟨sb, j, none⟩) (lt_of_cell e) (fun h => h)]
    exact e
  have c0 := kc _ _ hsc.c0
  have c1 := kc _ _ hsc.c1
  have c2 := kc _ _ hsc.c2
  have c3 := kc _ _ hsc.c3
  have c4 := kc _ _ hsc.c4
  have c5 := kc _ _ hsc.c5
  have HOK : Hid _ := hsc.ok
  have HLO : Hid _ := hsc.lo
  clear kc hsc
  dsimp only at c0 c1 c2 c3 c4 c5
  have hk8 : Kp (fun _ => False) wr (wr.alloc (.cells #[.int .i64 6, .int .i64 oa, .int .i64 ob, .int .i64 oc, .string os, .string ot] 30)) := (Kp.refl _ _).alloc _
  have hb8 := blk_alloc wr #[.int .i64 6, .int .i64 oa, .int .i64 ob, .int .i64 oc, .string os, .string ot] 30
  have HT8 : Hid (Tri num (fun k => k = wr.heap.size) W (wr.alloc (.cells #[.int .i64 6, .int .i64 oa, .int .i64 ob, .int .i64 oc, .string os, .string ot] 30)) X Y Z st st stz) := HL.out.t.vars hk8 (fun k e => .inr ⟨by omega, by rw [World.size_alloc]; omega⟩)
  unfold fr9
  conv => arg 2; whnf
  have hge : (0 : Int) ≤ oa := by omega
  have hnd : decide (oa < 0) = false := decide_eq_false (by omega)
  clear hneg
  have hc1 := hb8.cell (i := 1) (by simp)
  have hc4 := hb8.cell (i := 4) (by simp)
  have hc5 := hb8.cell (i := 5) (by simp)
  have H8 : Hid (O8 (wr.alloc (.cells #[.int .i64 6, .int .i64 oa, .int .i64 ob, .int .i64 oc, .string os, .string ot] 30)) wr.heap.size ⟨6, oa, ob, oc, os, ot⟩) := ⟨hb8.cell (i := 0) (by simp), hb8.cell (i := 1) (by simp), hb8.cell (i := 2) (by simp), hb8.cell (i := 3) (by simp), hb8.cell (i := 4) (by simp), hb8.cell (i := 5) (by simp)⟩
  have hoa : oa < 9223372036854775808 := HOK.out.a
  have hlA := HT8.out.rot.load HNR.out HNO.out os oa hoa
  go_wp2_with fail
  refine hlA.mono ?_
  rintro en v1 ⟨sy1, ⟨⟨_, rfl⟩, _⟩, t1, k1⟩
  obtain ⟨n8, hn8e⟩ : ∃ n, wr.heap.size = n := ⟨_, rfl⟩
  rw [hn8e] at t1 k1 H8 ⊢
  have hn8 : ¬ (W.heap.size ≤ n8 ∧ ¬ (n8 = n8)) := fun e => e.2 rfl
  have H81 : Hid (O8 v1 n8 ⟨6, oa, ob, oc, os, ot⟩) := H8.out.keep k1 hn8
  obtain ⟨c0, c1, c2, c3, c4, c5⟩ := H81.out
  dsimp only at c0 c1 c2 c3 c4 c5
  clear hk8 hb8 hlA HT8 H8 hn8e hc1 hc4 hc5
  have hlB := t1.inv HNR.out ⟨#[102, 48]⟩ ot (by decide) HOK.out.t oa hoa
  go_wp2_with fail
  refine hlB.mono ?_
  rintro en v2 ⟨sy2, ⟨_, rfl⟩, t2, k2⟩
  have hlC := t2.rot.rot.load HNR.out HNO.out ⟨#[]⟩ 0 (by decide)
  go_wp2_with fail
  refine hlC.mono ?_
  rintro en v3 ⟨sx3, ⟨⟨_, rfl⟩, l3, L3⟩, t3, k3⟩
  have hlD := t3.rot.load HNR.out HNO.out ⟨#[]⟩ 0 (by decide)
  go_wp2_with fail
  refine hlD.mono ?_
  rintro en v4 ⟨sy4, ⟨⟨_, rfl⟩, l4, L4⟩, t4, k4⟩
  have hlE := t4.rot.load HNR.out HNO.out ⟨#[]⟩ 0 (by decide)
  go_wp2_with fail
  refine hlE.mono ?_
  rintro en v5 ⟨sz5, ⟨⟨_, rfl⟩, l5, L5⟩, t5, k5⟩
  have e3 := load_empty L3
  have e4 := load_empty L4
  have e5 := load_empty L5
  subst e3 e4 e5
  have hlF := t5.rot.tape ⟨#[]⟩ (by decide)
  go_wp2_with fail
  refine hlF.mono ?_
  rintro en v6 ⟨sx6, ⟨⟨_, rfl⟩, e6⟩, t6, k6⟩
  have hlG := t6.rot.tape ⟨#[]⟩ (by decide)
  go_wp2_with fail
  refine hlG.mono ?_
  rintro en v7 ⟨sy7, ⟨⟨_, rfl⟩, e7⟩, t7, k7⟩
  have hlH := t7.rot.tape ⟨#[]⟩ (by decide)
  go_wp2_with fail
  refine hlH.mono ?_
  rintro en v8 ⟨sz8, ⟨⟨_, rfl⟩, e8⟩, t8, k8⟩
  rw [tape_empty] at e6 e7 e8
  subst e6 e7 e8
  have H88 : Hid (O8 v8 n8 ⟨6, oa, ob, oc, os, ot⟩) := ((((((H81.out.keep k2 (fun e => e.2 rfl)).keep k3 (fun e => e.2 rfl)).keep k4 (fun e => e.2 rfl)).keep k5 (fun e => e.2 rfl)).keep k6 (fun e => e.2 rfl)).keep k7 (fun e => e.2 rfl)).keep k8 (fun e => e.2 rfl)
  have t9 : Tri num (fun k => k = n8) W v8 X Y Z ma0 ma0 ma0 := t8.rot
  clear c0 c1 c2 c3 c4 c5 H81 k1 k2 k3 k4 k5 k6 k7 k8 t1 t2 t3 t4 t5 t6 t7 t8 hlB hlC hlD hlE hlF hlG hlH L3 L4 L5 HL
  obtain ⟨st, stz, HT8, HGD, HLV⟩ : ∃ st stz, Hid (Tri num (fun k => k = n8) W v8 X Y Z st st stz) ∧ Hid (Good num st) ∧ Hid (stz = st) := ⟨ma0, ma0, t9, t9.good, rfl⟩
  have H8 : Hid (O8 v8 n8 ⟨6, oa, ob, oc, os, ot⟩) := H88
  clear t9 H88
  go_wp2_with fail
  refine HT8.out.show.mono ?_
  rintro en u1 ⟨rfl, k1⟩
  have HT1 : Hid (Tri num (fun k => k = n8) W u1 X Y Z st st stz) := HT8.out.quiet k1
  have H81 : Hid (O8 u1 n8 ⟨6, oa, ob, oc, os, ot⟩) := H8.out.keep k1 (fun h => h)
  obtain ⟨c0, c1, c2, c3, c4, c5⟩ := H81.out
  dsimp only at c0 c1 c2 c3 c4 c5
  have hdo := HT1.out.do_ HNR.out HNO.out HKN.out HW0.out ⟨6, oa, ob, oc, os, ot⟩ HOK.out
  unfold Op6.val at hdo
  dsimp only at hdo
  clear k1 HT8 H8
  go_wp2_with fail
  refine hdo.mono ?_
  rintro en u2 ⟨st1, ⟨a, rfl, hR⟩, t2, k2⟩
  have H82 : Hid (O8 (u2.alloc (.cells #[.int .i64 a.e, .int .i64 a.n, .int .i64 a.m, .string a.s] 39)) n8 ⟨6, oa, ob, oc, os, ot⟩) := H81.out.keep (k2.alloc _) (fun e => e.2 rfl)
  obtain ⟨ae, an, am, asx⟩ := a
  unfold An4.val
  dsimp only at hR H82 ⊢
  have ha2 := A4.new u2 ae an am asx
  have hka : Kp (fun _ => False) u2 (u2.alloc (.cells #[.int .i64 ae, .int .i64 an, .int .i64 am, .string asx] 39)) := (Kp.refl _ _).alloc _
  have HT2 : Hid (Tri num (fun k => k = n8 ∨ k = u2.heap.size) W (u2.alloc (.cells #[.int .i64 ae, .int .i64 an, .int .i64 am, .string asx] 39)) X Y Z st1 st stz) := t2.vars hka (fun k e => by
    rcases e with e | e
    · exact .inl e
    · exact .inr ⟨by omega, by rw [World.size_alloc]; omega⟩)
  have HA2 : Hid (A4 (u2.alloc (.cells #[.int .i64 ae, .int .i64 an, .int .i64 am, .string asx] 39)) u2.heap.size ⟨ae, an, am, asx⟩) := ha2
  have HR : Hid (DoR num st ⟨6, oa, ob, oc, os, ot⟩ ⟨ae, an, am, asx⟩ st1) := hR
  clear ha2 hka hR t2 k2 hdo HT1 H81 c0 c1 c2 c3 c4 c5
  obtain ⟨c0, c1, c2, c3, c4, c5⟩ := H82.out
  dsimp only at c0 c1 c2 c3 c4 c5
  have hdo := HT2.out.rot.do_ HNR.out HNO.out HKN.out HW0.out ⟨6, oa, ob, oc, os, ot⟩ HOK.out
  unfold Op6.val at hdo
  dsimp only at hdo
  go_wp2_with fail
  refine hdo.mono ?_
  rintro en u3 ⟨st2, ⟨b, rfl, hR2⟩, t3, k3⟩
  obtain ⟨hab, hst⟩ := HR.out.det hR2
  subst hab hst
  unfold An4.val
  dsimp only
  obtain ⟨n10, hn10e⟩ : ∃ n, u2.heap.size = n := ⟨_, rfl⟩
  rw [hn10e] at HT2 HA2 t3 k3 ⊢
  have hn8 : ¬ (W.heap.size ≤ n8 ∧ ¬ (n8 = n8 ∨ n8 = n10)) := fun e => e.2 (.inl rfl)
  have hn10 : ¬ (W.heap.size ≤ n10 ∧ ¬ (n10 = n8 ∨ n10 = n10)) := fun e => e.2 (.inr rfl)
  have hka : Kp (fun _ => False) u3 (u3.alloc (.cells #[.int .i64 ae, .int .i64 an, .int .i64 am, .string asx] 39)) := (Kp.refl _ _).alloc _
  have HT3 : Hid (Tri num (fun k => k = n8 ∨ k = n10) W (u3.alloc (.cells #[.int .i64 ae, .int .i64 an, .int .i64 am, .string asx] 39)) X Y Z st1 st1 stz) := t3.rot.rot.quiet hka
  have H83 : Hid (O8 (u3.alloc (.cells #[.int .i64 ae, .int .i64 an, .int .i64 am, .string asx] 39)) n8 ⟨6, oa, ob, oc, os, ot⟩) := (H82.out.keep k3 hn8).keep hka (fun h => h)
  have HA3 : Hid (A4 (u3.alloc (.cells #[.int .i64 ae, .int .i64 an, .int .i64 am, .string asx] 39)) n10 ⟨ae, an, am, asx⟩) := (HA2.out.keep k3 hn10).keep hka (fun h => h)
  have ha4 := A4.new u3 ae an am asx
  have HA4 : Hid (A4 (u3.alloc (.cells #[.int .i64 ae, .int .i64 an, .int .i64 am, .string asx] 39)) u3.heap.size ⟨ae, an, am, asx⟩) := ha4
  clear ha4 hka hR2 t3 k3 hdo HT2 H82 HA2 c0 c1 c2 c3 c4 c5 hn8 hn10 hn10e
  have hsh := HT3.out.show
  go_wp2_with fail
  refine hsh.mono ?_
  rintro en u4 ⟨rfl, k4⟩
  have HT4 : Hid (Tri num (fun k => k = n8 ∨ k = n10) W u4 X Y Z st1 st1 stz) := HT3.out.quiet k4
  have H84 : Hid (O8 u4 n8 ⟨6, oa, ob, oc, os, ot⟩) := H83.out.keep k4 (fun h => h)
  have HA5 : Hid (A4 u4 n10 ⟨ae, an, am, asx⟩) := HA3.out.keep k4 (fun h => h)
  obtain ⟨a0', a1', a2', a3'⟩ := HA3.out.keep k4 (fun h => h)
  obtain ⟨b0', b1', b2', b3'⟩ := HA4.out.keep k4 (fun h => h)
  dsimp only at a0' a1' a2' a3' b0' b1' b2' b3'
  have heq := eq39s ⟨ae, an, am, asx⟩
  unfold An4.val at heq
  dsimp only at heq
  have hsh2 := HT4.out.rot.show
  clear hsh k4 HT3 H83 HA3 HA4
  go_wp2_with fail
  refine hsh2.mono ?_
  rintro en u5 ⟨rfl, k5⟩
  have HT5 : Hid (Tri num (fun k => k = n8 ∨ k = n10) W u5 X Y Z st1 st1 stz) := HT4.out.quiet k5
  have H85 : Hid (O8 u5 n8 ⟨6, oa, ob, oc, os, ot⟩) := H84.out.keep k5 (fun h => h)
  have HA6 : Hid (A4 u5 n10 ⟨ae, an, am, asx⟩) := HA5.out.keep k5 (fun h => h)
  obtain ⟨c0, c1, c2, c3, c4, c5⟩ := H85.out
  obtain ⟨d0, d1, d2, d3⟩ := HA6.out
  dsimp only at c0 c1 c2 c3 c4 c5 d0 d1 d2 d3
  have HF : Hid _ := HR.out.facts HNO.out HGD.out
  clear hsh2 heq k5 HT4 H84 HA5 a0' a1' a2' a3' b0' b1' b2' b3'
  have hrn := ran_calls u5 ⟨6, oa, ob, oc, os, ot⟩ ⟨ae, an, am, asx⟩
  have hrv : ranS ⟨6, oa, ob, oc, os, ot⟩ ⟨ae, an, am, asx⟩ = false := by
    unfold ranS
    dsimp only
    rw [if_neg (by show ¬ ((6 : Int) = 3); decide)]
    exact decide_eq_false (fun e => absurd e.1 (by show ¬ ((6 : Int) = 1); decide))
  rw [hrv] at hrn
  unfold Op6.val An4.val at hrn
  dsimp only at hrn
  have HRV : Hid _ := hrv
  clear hrv
  dsimp only
  go_wp2_with fail
  refine hrn.mono ?_
  rintro en u6 ⟨rfl, k6⟩
  have hstz := (HLV.out).symm
  subst hstz
  have HT6 : Hid (Tri num (fun k => k = n8 ∨ k = n10) W u6 X Y Z st1 st1 st) := HT5.out.quiet k6
  obtain ⟨c0, c1, c2, c3, c4, c5⟩ := H85.out.keep k6 (fun h => h)
  dsimp only at c0 c1 c2 c3 c4 c5
  have hk7 : Kp (fun _ => False) u6 (u6.alloc (.cells #[.int .i64 6, .int .i64 oa, .int .i64 ob, .int .i64 oc, .string os, .string ot] 30)) := (Kp.refl _ _).alloc _
  have hdz := (HT6.out.quiet hk7).rot.rot.do_ HNR.out HNO.out HKN.out HW0.out ⟨6, oa, ob, oc, os, ot⟩ HOK.out
  unfold Op6.val at hdz
  dsimp only at hdz
  have HA7 : Hid (A4 (u6.alloc (.cells #[.int .i64 6, .int .i64 oa, .int .i64 ob, .int .i64 oc, .string os, .string ot] 30)) n10 ⟨ae, an, am, asx⟩) := (HA6.out.keep k6 (fun h => h)).keep hk7 (fun h => h)
  go_wp2_with fail
  refine hdz.mono ?_
  rintro en u7 ⟨stz2, ⟨cz, rfl, hRz⟩, t7, k7⟩
  obtain ⟨hac, hst⟩ := HR.out.det hRz
  subst hac hst
  unfold An4.val
  dsimp only
  have hn8 : ¬ (W.heap.size ≤ n8 ∧ ¬ (n8 = n8 ∨ n8 = n10)) := fun e => e.2 (.inl rfl)
  have hn10 : ¬ (W.heap.size ≤ n10 ∧ ¬ (n10 = n8 ∨ n10 = n10)) := fun e => e.2 (.inr rfl)
  have hk8 : Kp (fun _ => False) u7 (u7.alloc (.cells #[.int .i64 ae, .int .i64 an, .int .i64 am, .string asx] 39)) := (Kp.refl _ _).alloc _
  have HT8 : Hid (Tri num (fun k => k = n8 ∨ k = n10) W (u7.alloc (.cells #[.int .i64 ae, .int .i64 an, .int .i64 am, .string asx] 39)) X Y Z st1 st1 st1) := t7.rot.quiet hk8
  have H88 : Hid (O8 (u7.alloc (.cells #[.int .i64 ae, .int .i64 an, .int .i64 am, .string asx] 39)) n8 ⟨6, oa, ob, oc, os, ot⟩) := (((H85.out.keep k6 (fun h => h)).keep hk7 (fun h => h)).keep k7 hn8).keep hk8 (fun h => h)
  have HA8 : Hid (A4 (u7.alloc (.cells #[.int .i64 ae, .int .i64 an, .int .i64 am, .string asx] 39)) n10 ⟨ae, an, am, asx⟩) := (HA7.out.keep k7 hn10).keep hk8 (fun h => h)
  have HA9 : Hid (A4 (u7.alloc (.cells #[.int .i64 ae, .int .i64 an, .int .i64 am, .string asx] 39)) u7.heap.size ⟨ae, an, am, asx⟩) := A4.new u7 ae an am asx
  obtain ⟨c0, c1, c2, c3, c4, c5⟩ := H88.out
  obtain ⟨d0, d1, d2, d3⟩ := HA8.out
  dsimp only at c0 c1 c2 c3 c4 c5 d0 d1 d2 d3
  have hrn2 := ran_calls (u7.alloc (.cells #[.int .i64 ae, .int .i64 an, .int .i64 am, .string asx] 39)) ⟨6, oa, ob, oc, os, ot⟩ ⟨ae, an, am, asx⟩
  rw [HRV.out] at hrn2
  unfold Op6.val An4.val at hrn2
  dsimp only at hrn2
  clear hk7 k7 t7 hRz hdz hk8 hn8 hn10 hrn k6
  go_wp2_with fail
  refine hrn2.mono ?_
  rintro en u9 ⟨rfl, k9⟩
  obtain ⟨d0, d1, d2, d3⟩ := HA8.out.keep k9 (fun h => h)
  obtain ⟨f0, f1, f2, f3⟩ := HA9.out.keep k9 (fun h => h)
  dsimp only at d0 d1 d2 d3 f0 f1 f2 f3
  have heq := eq39s ⟨ae, an, am, asx⟩
  unfold An4.val at heq
  dsimp only at heq
  have HT9 : Hid (Tri num (fun _ => False) W u9 X Y Z st1 st1 st1) := (HT8.out.quiet k9).vars (Kp.refl _ _) (fun k e => e.elim)
  clear hrn2 k9
  go_wp2_with fail
  exact HN.out _ _ true st1 st1 (by kernel_rfl) ⟨HT9.out, fun _ => rfl⟩
end Go.Proofs.Qxb6500275aGreatDoor
