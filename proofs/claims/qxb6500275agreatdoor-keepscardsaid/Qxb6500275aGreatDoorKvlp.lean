import Derived.Test.Qxb6500275aGreatDoorKva
set_option maxRecDepth 100000
set_option linter.unusedVariables false
set_option linter.unusedSimpArgs false
namespace Go.Proofs.Qxb6500275aGreatDoor
open Go Go.RowKit
set_option maxHeartbeats 32000000 in
theorem c9_1p {num : NumF} {W : World} {a0 : Option Addr} {len cap : Nat} {X Y Z : Mx} {i : Nat} {oa ob oc : Int} {os ot : ByteArray} (hneg : 0 ≤ oa) : Case9 num W a0 len cap X Y Z i ⟨1, oa, ob, oc, os, ot⟩ := by
  intro wr u lev st stz Q hNr hNo hkn hW0 hlt hle hmx hsc hL hN
  obtain ⟨sb, off, hsc⟩ := hsc
  have HNR : Hid (NumR num) := hNr
  have HNO : Hid (NumOk num) := hNo
  have HKN : Hid (Kn W) := hkn
  have HW0 : Hid (0 < W.heap.size) := hW0
  have HL : Hid (Kl num W wr X Y Z st stz lev) := hL
  have HN : Hid (Next9 num W (.slice a0 len cap) X Y Z i Q) := hN
  clear hNr hNo hkn hW0 hL hN
  have hat := hsc.at_
  subst hat
  have hib : (i : Int) < (len : Int) := by omega
  have kc : ∀ j v, W.cell? ⟨sb, j, none⟩ = some v → wr.cell? ⟨sb, j, none⟩ = some v := fun j v e => by
    rw [HL.out.t.kp.cell (p := ⟨sb, j, none⟩) (lt_of_cell e) (fun h => h)]
    exact e
  have c0 := kc _ _ hsc.c0
  have c1 := kc _ _ hsc.c1
  have c2 := kc _ _ hsc.c2
  have c3 := kc _ _ hsc.c3
  have c4 := kc _ _ hsc.c4
  have c5 := kc _ _ hsc.c5
  have HOK : Hid _ := hsc.ok
  have HLO : Hid _ := hsc.lo
  clear kc hsc
  dsimp only at c0 c1 c2 c3 c4 c5
  have hk8 : Kp (fun _ => False) wr (wr.alloc (.cells #[.int .i64 1, .int .i64 oa, .int .i64 ob, .int .i64 oc, .string os, .string ot] 30)) := (Kp.refl _ _).alloc _
  have hb8 := blk_alloc wr #[.int .i64 1, .int .i64 oa, .int .i64 ob, .int .i64 oc, .string os, .string ot] 30
  have HT8 : Hid (Tri num (fun k => k = wr.heap.size) W (wr.alloc (.cells #[.int .i64 1, .int .i64 oa, .int .i64 ob, .int .i64 oc, .string os, .string ot] 30)) X Y Z st st stz) := HL.out.t.vars hk8 (fun k e => .inr ⟨by omega, by rw [World.size_alloc]; omega⟩)
  unfold fr9
  conv => arg 2; whnf
  have hge : (0 : Int) ≤ oa := by omega
  have hnd : decide (oa < 0) = false := decide_eq_false (by omega)
  clear hneg
  have HGD : Hid (Good num st) := HL.out.t.good
  have HLV : Hid (lev = true → stz = st) := HL.out.l
  have H8 : Hid (O8 (wr.alloc (.cells #[.int .i64 1, .int .i64 oa, .int .i64 ob, .int .i64 oc, .string os, .string ot] 30)) wr.heap.size ⟨1, oa, ob, oc, os, ot⟩) := ⟨hb8.cell (i := 0) (by simp), hb8.cell (i := 1) (by simp), hb8.cell (i := 2) (by simp), hb8.cell (i := 3) (by simp), hb8.cell (i := 4) (by simp), hb8.cell (i := 5) (by simp)⟩
  go_wp2_with fail
  generalize (wr.alloc (.cells #[.int .i64 1, .int .i64 oa, .int .i64 ob, .int .i64 oc, .string os, .string ot] 30)) = U at HT8 H8 ⊢
  obtain ⟨n8, hn8e⟩ : ∃ n, wr.heap.size = n := ⟨_, rfl⟩
  rw [hn8e] at HT8 H8 ⊢
  clear hb8 hk8 c0 c1 c2 c3 c4 c5 hn8e
  refine HT8.out.show.mono ?_
  rintro en u1 ⟨rfl, k1⟩
  have HT1 : Hid (Tri num (fun k => k = n8) W u1 X Y Z st st stz) := HT8.out.quiet k1
  have H81 : Hid (O8 u1 n8 ⟨1, oa, ob, oc, os, ot⟩) := H8.out.keep k1 (fun h => h)
  obtain ⟨c0, c1, c2, c3, c4, c5⟩ := H81.out
  dsimp only at c0 c1 c2 c3 c4 c5
  have hdo := HT1.out.do_ HNR.out HNO.out HKN.out HW0.out ⟨1, oa, ob, oc, os, ot⟩ HOK.out
  unfold Op6.val at hdo
  dsimp only at hdo
  clear k1 HT8 H8
  go_wp2_with fail
  refine hdo.mono ?_
  rintro en u2 ⟨st1, ⟨a, rfl, hR⟩, t2, k2⟩
  have H82 : Hid (O8 (u2.alloc (.cells #[.int .i64 a.e, .int .i64 a.n, .int .i64 a.m, .string a.s] 39)) n8 ⟨1, oa, ob, oc, os, ot⟩) := H81.out.keep (k2.alloc _) (fun e => e.2 rfl)
  obtain ⟨ae, an, am, asx⟩ := a
  unfold An4.val
  dsimp only at hR H82 ⊢
  have ha2 := A4.new u2 ae an am asx
  have hka : Kp (fun _ => False) u2 (u2.alloc (.cells #[.int .i64 ae, .int .i64 an, .int .i64 am, .string asx] 39)) := (Kp.refl _ _).alloc _
  have HT2 : Hid (Tri num (fun k => k = n8 ∨ k = u2.heap.size) W (u2.alloc (.cells #[.int .i64 ae, .int .i64 an, .int .i64 am, .string asx] 39)) X Y Z st1 st stz) := t2.vars hka (fun k e => by
    rcases e with e | e
    · exact .inl e
    · exact .inr ⟨by omega, by rw [World.size_alloc]; omega⟩)
  have HA2 : Hid (A4 (u2.alloc (.cells #[.int .i64 ae, .int .i64 an, .int .i64 am, .string asx] 39)) u2.heap.size ⟨ae, an, am, asx⟩) := ha2
  have HR : Hid (DoR num st ⟨1, oa, ob, oc, os, ot⟩ ⟨ae, an, am, asx⟩ st1) := hR
  clear ha2 hka hR t2 k2 hdo HT1 H81 c0 c1 c2 c3 c4 c5
  obtain ⟨c0, c1, c2, c3, c4, c5⟩ := H82.out
  dsimp only at c0 c1 c2 c3 c4 c5
  have hdo := HT2.out.rot.do_ HNR.out HNO.out HKN.out HW0.out ⟨1, oa, ob, oc, os, ot⟩ HOK.out
  unfold Op6.val at hdo
  dsimp only at hdo
  go_wp2_with fail
  refine hdo.mono ?_
  rintro en u3 ⟨st2, ⟨b, rfl, hR2⟩, t3, k3⟩
  obtain ⟨hab, hst⟩ := HR.out.det hR2
  subst hab hst
  unfold An4.val
  dsimp only
  obtain ⟨n10, hn10e⟩ : ∃ n, u2.heap.size = n := ⟨_, rfl⟩
  rw [hn10e] at HT2 HA2 t3 k3 ⊢
  have hn8 : ¬ (W.heap.size ≤ n8 ∧ ¬ (n8 = n8 ∨ n8 = n10)) := fun e => e.2 (.inl rfl)
  have hn10 : ¬ (W.heap.size ≤ n10 ∧ ¬ (n10 = n8 ∨ n10 = n10)) := fun e => e.2 (.inr rfl)
  have hka : Kp (fun _ => False) u3 (u3.alloc (.cells #[.int .i64 ae, .int .i64 an, .int .i64 am, .string asx] 39)) := (Kp.refl _ _).alloc _
  have HT3 : Hid (Tri num (fun k => k = n8 ∨ k = n10) W (u3.alloc (.cells #[.int .i64 ae, .int .i64 an, .int .i64 am, .string asx] 39)) X Y Z st1 st1 stz) := t3.rot.rot.quiet hka
  have H83 : Hid (O8 (u3.alloc (.cells #[.int .i64 ae, .int .i64 an, .int .i64 am, .string asx] 39)) n8 ⟨1, oa, ob, oc, os, ot⟩) := (H82.out.keep k3 hn8).keep hka (fun h => h)
  have HA3 : Hid (A4 (u3.alloc (.cells #[.int .i64 ae, .int .i64 an, .int .i64 am, .string asx] 39)) n10 ⟨ae, an, am, asx⟩) := (HA2.out.keep k3 hn10).keep hka (fun h => h)
  have ha4 := A4.new u3 ae an am asx
  have HA4 : Hid (A4 (u3.alloc (.cells #[.int .i64 ae, .int .i64 an, .int .i64 am, .string asx] 39)) u3.heap.size ⟨ae, an, am, asx⟩) := ha4
  clear ha4 hka hR2 t3 k3 hdo HT2 H82 HA2 c0 c1 c2 c3 c4 c5 hn8 hn10 hn10e
  have hsh := HT3.out.show
  go_wp2_with fail
  refine hsh.mono ?_
  rintro en u4 ⟨rfl, k4⟩
  have HT4 : Hid (Tri num (fun k => k = n8 ∨ k = n10) W u4 X Y Z st1 st1 stz) := HT3.out.quiet k4
  have H84 : Hid (O8 u4 n8 ⟨1, oa, ob, oc, os, ot⟩) := H83.out.keep k4 (fun h => h)
  have HA5 : Hid (A4 u4 n10 ⟨ae, an, am, asx⟩) := HA3.out.keep k4 (fun h => h)
  obtain ⟨a0', a1', a2', a3'⟩ := HA3.out.keep k4 (fun h => h)
  obtain ⟨b0', b1', b2', b3'⟩ := HA4.out.keep k4 (fun h => h)
  dsimp only at a0' a1' a2' a3' b0' b1' b2' b3'
  have heq := eq39s ⟨ae, an, am, asx⟩
  unfold An4.val at heq
  dsimp only at heq
  have hsh2 := HT4.out.rot.show
  clear hsh k4 HT3 H83 HA3 HA4
  go_wp2_with fail
  refine hsh2.mono ?_
  rintro en u5 ⟨rfl, k5⟩
  have HT5 : Hid (Tri num (fun k => k = n8 ∨ k = n10) W u5 X Y Z st1 st1 stz) := HT4.out.quiet k5
  have H85 : Hid (O8 u5 n8 ⟨1, oa, ob, oc, os, ot⟩) := H84.out.keep k5 (fun h => h)
  have HA6 : Hid (A4 u5 n10 ⟨ae, an, am, asx⟩) := HA5.out.keep k5 (fun h => h)
  obtain ⟨c0, c1, c2, c3, c4, c5⟩ := H85.out
  obtain ⟨d0, d1, d2, d3⟩ := HA6.out
  dsimp only at c0 c1 c2 c3 c4 c5 d0 d1 d2 d3
  have HF : Hid _ := HR.out.facts HNO.out HGD.out
  clear hsh2 heq k5 HT4 H84 HA5 a0' a1' a2' a3' b0' b1' b2' b3'
  have hrn := ran_calls u5 ⟨1, oa, ob, oc, os, ot⟩ ⟨ae, an, am, asx⟩
  dsimp only
  by_cases hae : ae = 0
  · have hrv : ranS ⟨1, oa, ob, oc, os, ot⟩ ⟨ae, an, am, asx⟩ = true := by
      unfold ranS
      rw [if_neg (by show ¬ ((1 : Int) = 3); decide)]
      exact decide_eq_true ⟨rfl, .inl hae⟩
    have HAE : Hid (ae = 0) := hae
    have hab : (ae == 0) = true := by rw [hae]; rfl
    have hbn : (ae != 0) = false := by rw [hae]; rfl
    have hbo : (!(ae == 0)) = false := by rw [hae]; rfl
    clear hae
    have HRV : Hid _ := hrv
    have HRN : Hid _ := HF.out.ran hrv
    have HE46 : Hid _ := HF.out.e46 hrv
    have hn0 : 0 ≤ an := HRN.out.1
    have hnd0 : decide (an < 0) = false := decide_eq_false (by omega)
    rw [hrv] at hrn
    unfold Op6.val An4.val at hrn
    dsimp only at hrn
    clear hrv
    have hnl : decide (oa < an) = false := decide_eq_false (by have := HRN.out.2; dsimp only at this; omega)
    have h46 : ae ≠ 46 := by have := HAE.out; omega
    have HN46 : Hid (ae ≠ 46) := h46
    clear h46
    go_wp2_with fail
    refine hrn.mono ?_
    rintro en u6 ⟨rfl, k6⟩
    try clear hab
    try clear hbn
    try clear hbo
    try clear hsz hsi hsz0 hget
    have h46b : (ae == 46) = false := by rw [beq_eq_false_iff_ne]; exact HN46.out
    obtain ⟨d0, d1, d2, d3⟩ := HA6.out.keep k6 (fun h => h)
    dsimp only at d0 d1 d2 d3
    cases lev with
    | false =>
      go_wp2_with fail
      exact HN.out _ _ false st1 stz (by kernel_rfl) ⟨(HT5.out.quiet k6).vars (Kp.refl _ _) (fun k e => e.elim), fun e => by simp at e⟩
    | true =>
      have hstz := (HLV.out rfl).symm
      subst hstz
      have HT6 : Hid (Tri num (fun k => k = n8 ∨ k = n10) W u6 X Y Z st1 st1 st) := HT5.out.quiet k6
      obtain ⟨c0, c1, c2, c3, c4, c5⟩ := H85.out.keep k6 (fun h => h)
      dsimp only at c0 c1 c2 c3 c4 c5
      have hk7 : Kp (fun _ => False) u6 (u6.alloc (.cells #[.int .i64 1, .int .i64 oa, .int .i64 ob, .int .i64 oc, .string os, .string ot] 30)) := (Kp.refl _ _).alloc _
      obtain ⟨x0, x1, x2, x3, x4, x5⟩ := (H85.out.keep k6 (fun h => h)).keep hk7 (fun h => h)
      dsimp only at x0 x1 x2 x3 x4 x5
      have hmo := more_calls (u6.alloc (.cells #[.int .i64 1, .int .i64 oa, .int .i64 ob, .int .i64 oc, .string os, .string ot] 30)) ⟨1, oa, ob, oc, os, ot⟩ ⟨HLO.out, by have := HOK.out.a; dsimp only at this ⊢; omega⟩
      unfold Op6.val at hmo
      dsimp only at hmo
      have hmn := moreA_nat oa
      have hOK2 : OpOk ⟨1, (moreA oa), ob, oc, os, ot⟩ := ⟨by dsimp only; have := HOK.out.a; unfold moreA; dsimp only at this; split <;> (try split) <;> omega, HOK.out.s, HOK.out.t⟩
      generalize hmoe : moreA oa = mo at hmo hmn hOK2
      have HMO : Hid _ := hmoe
      have HMN : Hid _ := hmn
      have HOK2 : Hid (OpOk ⟨1, mo, ob, oc, os, ot⟩) := hOK2
      have HB16 : Hid (Blk (u6.alloc (.cells #[.int .i64 1, .int .i64 oa, .int .i64 ob, .int .i64 oc, .string os, .string ot] 30)) u6.heap.size 6 _) := blk_alloc u6 #[.int .i64 1, .int .i64 oa, .int .i64 ob, .int .i64 oc, .string os, .string ot] 30
      obtain ⟨n16, hn16e⟩ : ∃ n, u6.heap.size = n := ⟨_, rfl⟩
      have hn16 : u6.heap.size ≤ n16 := by omega
      clear hmoe hmn
      go_wp2_with fail
      refine hmo.mono ?_
      rintro en u6b ⟨rfl, k6b⟩
      rw [hn16e] at HB16
      have hb16 := Blk.keep HB16.out k6b (fun h => h)
      have y0 := hb16.cell (i := 0) (by decide)
      have y1 := hb16.cell (i := 1) (by decide)
      have y2 := hb16.cell (i := 2) (by decide)
      have y3 := hb16.cell (i := 3) (by decide)
      have y4 := hb16.cell (i := 4) (by decide)
      have y5 := hb16.cell (i := 5) (by decide)
      have v0 := hb16.fz (i := 0) (by decide)
      have v1 := hb16.fz (i := 1) (by decide)
      have v2 := hb16.fz (i := 2) (by decide)
      have v3 := hb16.fz (i := 3) (by decide)
      have v4 := hb16.fz (i := 4) (by decide)
      have v5 := hb16.fz (i := 5) (by decide)
      have hkC : Kp (fun _ => False) u6 ((((((u6b.setCell ⟨n16, 0, none⟩ (.int .i64 1)).setCell ⟨n16, 1, none⟩ (.int .i64 mo)).setCell ⟨n16, 2, none⟩ (.int .i64 ob)).setCell ⟨n16, 3, none⟩ (.int .i64 oc)).setCell ⟨n16, 4, none⟩ (.string os)).setCell ⟨n16, 5, none⟩ (.string ot)) := ((((((((hk7.trans k6b).mono (fun _ h => h)).setCell (p := ⟨n16, 0, none⟩) (.inr hn16) _).setCell (p := ⟨n16, 1, none⟩) (.inr hn16) _).setCell (p := ⟨n16, 2, none⟩) (.inr hn16) _).setCell (p := ⟨n16, 3, none⟩) (.inr hn16) _).setCell (p := ⟨n16, 4, none⟩) (.inr hn16) _).setCell (p := ⟨n16, 5, none⟩) (.inr hn16) _)
      have hbC := ((((((hb16.set (i := 0) (by decide) (.int .i64 1)).set (i := 1) (by decide) (.int .i64 mo)).set (i := 2) (by decide) (.int .i64 ob)).set (i := 3) (by decide) (.int .i64 oc)).set (i := 4) (by decide) (.string os)).set (i := 5) (by decide) (.string ot)).cell (i := 1) (by decide)
      rw [upd_ne _ _ (by decide), upd_ne _ _ (by decide), upd_ne _ _ (by decide), upd_ne _ _ (by decide), upd_same] at hbC
      have hVl := lt_of_cell hbC
      dsimp only at hVl
      have HTC : Hid (Tri num (fun k => k = n8 ∨ k = n10 ∨ k = n16) W ((((((u6b.setCell ⟨n16, 0, none⟩ (.int .i64 1)).setCell ⟨n16, 1, none⟩ (.int .i64 mo)).setCell ⟨n16, 2, none⟩ (.int .i64 ob)).setCell ⟨n16, 3, none⟩ (.int .i64 oc)).setCell ⟨n16, 4, none⟩ (.string os)).setCell ⟨n16, 5, none⟩ (.string ot)) X Y Z st1 st1 st) := HT6.out.vars hkC (fun k e => by
        rcases e with e | e | e
        · exact .inl (.inl e)
        · exact .inl (.inr e)
        · exact .inr ⟨by omega, by omega⟩)
      have HO1 : Hid (_ = _) := hbC
      have hdz := HTC.out.rot.rot.do_ HNR.out HNO.out HKN.out HW0.out ⟨1, mo, ob, oc, os, ot⟩ hOK2
      unfold Op6.val at hdz
      dsimp only at hdz
      clear hmo hb16 HB16 hbC hVl HTC
      go_wp2_with fail
      refine hdz.mono ?_
      rintro en u7 ⟨stz2, ⟨cz, rfl, hRz⟩, t7, k7⟩
      unfold An4.val
      have hn8 : ¬ (W.heap.size ≤ n8 ∧ ¬ (n8 = n8 ∨ n8 = n10 ∨ n8 = n16)) := fun e => e.2 (.inl rfl)
      have hn10 : ¬ (W.heap.size ≤ n10 ∧ ¬ (n10 = n8 ∨ n10 = n10 ∨ n10 = n16)) := fun e => e.2 (.inr (.inl rfl))
      have hq16 : ¬ (W.heap.size ≤ n16 ∧ ¬ (n16 = n8 ∨ n16 = n10 ∨ n16 = n16)) := fun e => e.2 (.inr (.inr rfl))
      have H87 : Hid (O8 u7 n8 ⟨1, oa, ob, oc, os, ot⟩) := ((H85.out.keep k6 (fun h => h)).keep hkC (fun h => h)).keep k7 hn8
      have HA7 : Hid (A4 u7 n10 ⟨ae, an, am, asx⟩) := ((HA6.out.keep k6 (fun h => h)).keep hkC (fun h => h)).keep k7 hn10
      have HO7 : Hid (u7.cell? ⟨n16, 1, none⟩ = some (.int .i64 mo)) := (k7.cell (p := ⟨n16, 1, none⟩) (lt_of_cell HO1.out) hq16).trans HO1.out
      have HT7 : Hid (Tri num (fun k => k = n8 ∨ k = n10 ∨ k = n16) W u7 X Y Z st1 st1 stz2) := t7.rot
      have HRZ : Hid (DoR num st ⟨1, mo, ob, oc, os, ot⟩ cz stz2) := hRz
      clear hk7 k7 t7 hRz hdz hn8 hn10 hq16 hrn k6 hkC k6b y0 y1 y2 y3 y4 y5 v0 v1 v2 v3 v4 v5 x0 x1 x2 x3 x4 x5 HO1 hOK2
      by_cases hme : oa = mo
      · subst hme
        have hmr := HR.out.more HNO.out HGD.out (.inl rfl) HN46.out
        rw [HRV.out] at hmr
        dsimp only at hmr
        rw [HMO.out] at hmr
        rw [if_neg (fun e => e.2 (by omega))] at hmr
        obtain ⟨hac, hst⟩ := hmr.det HRZ.out
        subst hac hst
        dsimp only
        have hk8 : Kp (fun _ => False) u7 (u7.alloc (.cells #[.int .i64 ae, .int .i64 an, .int .i64 am, .string asx] 39)) := (Kp.refl _ _).alloc _
        have HT8 : Hid (Tri num (fun k => k = n8 ∨ k = n10 ∨ k = n16) W (u7.alloc (.cells #[.int .i64 ae, .int .i64 an, .int .i64 am, .string asx] 39)) X Y Z st1 st1 st1) := HT7.out.quiet hk8
        have HA8 : Hid (A4 (u7.alloc (.cells #[.int .i64 ae, .int .i64 an, .int .i64 am, .string asx] 39)) n10 ⟨ae, an, am, asx⟩) := HA7.out.keep hk8 (fun h => h)
        have HA9 : Hid (A4 (u7.alloc (.cells #[.int .i64 ae, .int .i64 an, .int .i64 am, .string asx] 39)) u7.heap.size ⟨ae, an, am, asx⟩) := A4.new u7 ae an am asx
        have HO8 : Hid ((u7.alloc (.cells #[.int .i64 ae, .int .i64 an, .int .i64 am, .string asx] 39)).cell? ⟨n16, 1, none⟩ = some (.int .i64 oa)) := (hk8.cell (p := ⟨n16, 1, none⟩) (lt_of_cell HO7.out) (fun h => h)).trans HO7.out
        obtain ⟨c0, c1, c2, c3, c4, c5⟩ := H87.out.keep hk8 (fun h => h)
        obtain ⟨d0, d1, d2, d3⟩ := HA8.out
        dsimp only at c0 c1 c2 c3 c4 c5 d0 d1 d2 d3
        have hrn2 := ran_calls (u7.alloc (.cells #[.int .i64 ae, .int .i64 an, .int .i64 am, .string asx] 39)) ⟨1, oa, ob, oc, os, ot⟩ ⟨ae, an, am, asx⟩
        rw [HRV.out] at hrn2
        unfold Op6.val An4.val at hrn2
        dsimp only at hrn2
        clear hk8 hmr
        go_wp2_with fail
        refine hrn2.mono ?_
        rintro en u9 ⟨rfl, k9⟩
        obtain ⟨d0, d1, d2, d3⟩ := HA8.out.keep k9 (fun h => h)
        obtain ⟨f0, f1, f2, f3⟩ := HA9.out.keep k9 (fun h => h)
        dsimp only at d0 d1 d2 d3 f0 f1 f2 f3
        have o1 : u9.cell? ⟨n16, 1, none⟩ = some (.int .i64 oa) := (k9.cell (p := ⟨n16, 1, none⟩) (lt_of_cell HO8.out) (fun h => h)).trans HO8.out
        have heq := eq39s ⟨ae, an, am, asx⟩
        unfold An4.val at heq
        dsimp only at heq
        have HT9 : Hid (Tri num (fun _ => False) W u9 X Y Z st1 st1 st1) := (HT8.out.quiet k9).vars (Kp.refl _ _) (fun k e => e.elim)
        clear hrn2 k9
        go_wp2_with fail
        exact HN.out _ _ true st1 st1 (by kernel_rfl) ⟨HT9.out, fun _ => rfl⟩
      · have hmB : (mo == oa) = false := by rw [beq_eq_false_iff_ne]; exact fun e => hme e.symm
        have hmr := HR.out.more HNO.out HGD.out (.inl rfl) HN46.out
        rw [HRV.out] at hmr
        dsimp only at hmr
        rw [HMO.out] at hmr
        have HME : Hid (mo ≠ (oa.toNat : Int)) := fun e => hme (by omega)
        rw [if_pos ⟨rfl, HME.out⟩] at hmr
        have hmC : (mo != oa) = true := by unfold bne; rw [hmB]; rfl
        have hmD : (!(mo == oa)) = true := by rw [hmB]; rfl
        clear hme
        obtain ⟨hac, hst⟩ := hmr.det HRZ.out
        subst hac hst
        dsimp only
        obtain ⟨an1, hn1⟩ : ∃ z : Int, an + 1 = z := ⟨_, rfl⟩
        rw [hn1]
        have HS1 : Hid (an1 - 1 = an) := by show an1 - 1 = an; omega
        have hs2 : 0 ≤ an1 := by omega
        have hs3 : an1 ≤ 9223372036854775807 := by
          have h0 := HOK2.out.a
          have h1 := HRN.out.2
          have h2 := HMN.out
          have h3 := HME.out
          dsimp only at h0 h1
          omega
        clear hn1
        have hk8 : Kp (fun _ => False) u7 (u7.alloc (.cells #[.int .i64 ae, .int .i64 an1, .int .i64 am, .string asx] 39)) := (Kp.refl _ _).alloc _
        have HA8 : Hid (A4 (u7.alloc (.cells #[.int .i64 ae, .int .i64 an1, .int .i64 am, .string asx] 39)) n10 ⟨ae, an, am, asx⟩) := HA7.out.keep hk8 (fun h => h)
        have HB9 : Hid (Blk (u7.alloc (.cells #[.int .i64 ae, .int .i64 an1, .int .i64 am, .string asx] 39)) u7.heap.size 4 _) := blk_alloc u7 #[.int .i64 ae, .int .i64 an1, .int .i64 am, .string asx] 39
        have HO8 : Hid ((u7.alloc (.cells #[.int .i64 ae, .int .i64 an1, .int .i64 am, .string asx] 39)).cell? ⟨n16, 1, none⟩ = some (.int .i64 mo)) := (hk8.cell (p := ⟨n16, 1, none⟩) (lt_of_cell HO7.out) (fun h => h)).trans HO7.out
        obtain ⟨c0, c1, c2, c3, c4, c5⟩ := H87.out.keep hk8 (fun h => h)
        obtain ⟨d0, d1, d2, d3⟩ := HA8.out
        dsimp only at c0 c1 c2 c3 c4 c5 d0 d1 d2 d3
        have hrn2 := ran_calls (u7.alloc (.cells #[.int .i64 ae, .int .i64 an1, .int .i64 am, .string asx] 39)) ⟨1, oa, ob, oc, os, ot⟩ ⟨ae, an, am, asx⟩
        rw [HRV.out] at hrn2
        unfold Op6.val An4.val at hrn2
        dsimp only at hrn2
        clear hmr
        go_wp2_with fail
        refine hrn2.mono ?_
        rintro en u9 ⟨rfl, k9⟩
        have hb9 := Blk.keep HB9.out k9 (fun h => h)
        have f1 : u9.cell? ⟨u7.heap.size, 1, none⟩ = some (.int .i64 an1) := hb9.cell (i := 1) (by decide)
        have v1 := hb9.fz (i := 1) (by decide)
        have hb9s := hb9.set (i := 1) (by decide) (.int .i64 (an1 - 1))
        have e0 : (u9.setCell ⟨u7.heap.size, 1, none⟩ (.int .i64 (an1 - 1))).cell? ⟨u7.heap.size, 0, none⟩ = some (.int .i64 ae) := by
          have := hb9s.cell (i := 0) (by decide)
          rwa [upd_ne _ _ (by decide)] at this
        have e1 : (u9.setCell ⟨u7.heap.size, 1, none⟩ (.int .i64 (an1 - 1))).cell? ⟨u7.heap.size, 1, none⟩ = some (.int .i64 (an1 - 1)) := by
          have := hb9s.cell (i := 1) (by decide)
          rwa [upd_same] at this
        have e2 : (u9.setCell ⟨u7.heap.size, 1, none⟩ (.int .i64 (an1 - 1))).cell? ⟨u7.heap.size, 2, none⟩ = some (.int .i64 am) := by
          have := hb9s.cell (i := 2) (by decide)
          rwa [upd_ne _ _ (by decide)] at this
        have e3 : (u9.setCell ⟨u7.heap.size, 1, none⟩ (.int .i64 (an1 - 1))).cell? ⟨u7.heap.size, 3, none⟩ = some (.string asx) := by
          have := hb9s.cell (i := 3) (by decide)
          rwa [upd_ne _ _ (by decide)] at this
        have hkS : Kp (fun _ => False) u7 (u9.setCell ⟨u7.heap.size, 1, none⟩ (.int .i64 (an1 - 1))) := (hk8.trans k9).setCell (p := ⟨u7.heap.size, 1, none⟩) (.inr (Nat.le_refl _)) _
        obtain ⟨d0, d1, d2, d3⟩ := HA7.out.keep hkS (fun h => h)
        dsimp only at d0 d1 d2 d3
        have o1 : u9.cell? ⟨n16, 1, none⟩ = some (.int .i64 mo) := (k9.cell (p := ⟨n16, 1, none⟩) (lt_of_cell HO8.out) (fun h => h)).trans HO8.out
        have heq : ∀ w : World, (Op.equalIn 10000 39 (⟨ae, an1 - 1, am, asx⟩ : An4).val (⟨ae, an, am, asx⟩ : An4).val).run Tryz.prog w = .ok true w := fun w => by rw [HS1.out]; exact eq39s _ w
        unfold An4.val at heq
        dsimp only at heq
        have HT9 : Hid (Tri num (fun _ => False) W (u9.setCell ⟨u7.heap.size, 1, none⟩ (.int .i64 (an1 - 1))) X Y Z st1 st1 st1) := (HT7.out.quiet hkS).vars (Kp.refl _ _) (fun k e => e.elim)
        clear hrn2 k9 hk8 hb9 hb9s hkS c0 c1 c2 c3 c4 c5
        go_wp2_with fail
        exact HN.out _ _ true st1 st1 (by kernel_rfl) ⟨HT9.out, fun _ => rfl⟩
  · have hab : (ae == 0) = false := by rw [beq_eq_false_iff_ne]; exact hae
    have hbn : (ae != 0) = true := by unfold bne; rw [hab]; rfl
    have hbo : (!(ae == 0)) = true := by rw [hab]; rfl
    have hno := HF.out.no rfl hae
    obtain ⟨SA, hSA⟩ : ∃ s, showM st1 = s := ⟨_, rfl⟩
    have hsz : 0 < SA.size := by rw [← hSA]; exact showM_size st1
    have hsi : (0 : Int) < (SA.size : Int) := by omega
    have hsz0 : ((SA.size : Int) == 0) = false := by rw [beq_eq_false_iff_ne]; omega
    have hget : SA[0].toNat = 45 := by
      rw [bAt_get SA 0 hsz, ← hSA]
      exact showM_dash st1 hno
    rw [hSA]
    by_cases hrr : 38 ≤ ae
    · have hrv : ranS ⟨1, oa, ob, oc, os, ot⟩ ⟨ae, an, am, asx⟩ = true := by
        unfold ranS
        rw [if_neg (by show ¬ ((1 : Int) = 3); decide)]
        exact decide_eq_true ⟨rfl, .inr hrr⟩
      clear hrr hae hno hSA
      have HRV : Hid _ := hrv
      have HRN : Hid _ := HF.out.ran hrv
      have HE46 : Hid _ := HF.out.e46 hrv
      have hn0 : 0 ≤ an := HRN.out.1
      have hnd0 : decide (an < 0) = false := decide_eq_false (by omega)
      rw [hrv] at hrn
      unfold Op6.val An4.val at hrn
      dsimp only at hrn
      clear hrv
      have hnl : decide (oa < an) = false := decide_eq_false (by have := HRN.out.2; dsimp only at this; omega)
      by_cases h46 : ae = 46
      · have hz := HE46.out h46
        dsimp only at hz
        subst hz
        subst h46
        go_wp2_with fail
        refine hrn.mono ?_
        rintro en u6 ⟨rfl, k6⟩
        try clear hab
        try clear hbn
        try clear hbo
        try clear hsz hsi hsz0 hget
        obtain ⟨d0, d1, d2, d3⟩ := HA6.out.keep k6 (fun h => h)
        dsimp only at d0 d1 d2 d3
        cases lev with
        | false =>
          go_wp2_with fail
          exact HN.out _ _ false st1 stz (by kernel_rfl) ⟨(HT5.out.quiet k6).vars (Kp.refl _ _) (fun k e => e.elim), fun e => by simp at e⟩
        | true =>
          have hstz := (HLV.out rfl).symm
          subst hstz
          have HT6 : Hid (Tri num (fun k => k = n8 ∨ k = n10) W u6 X Y Z st1 st1 st) := HT5.out.quiet k6
          obtain ⟨c0, c1, c2, c3, c4, c5⟩ := H85.out.keep k6 (fun h => h)
          dsimp only at c0 c1 c2 c3 c4 c5
          have hk7 : Kp (fun _ => False) u6 (u6.alloc (.cells #[.int .i64 1, .int .i64 oa, .int .i64 ob, .int .i64 oc, .string os, .string ot] 30)) := (Kp.refl _ _).alloc _
          obtain ⟨x0, x1, x2, x3, x4, x5⟩ := (H85.out.keep k6 (fun h => h)).keep hk7 (fun h => h)
          dsimp only at x0 x1 x2 x3 x4 x5
          have hmo := more_calls (u6.alloc (.cells #[.int .i64 1, .int .i64 oa, .int .i64 ob, .int .i64 oc, .string os, .string ot] 30)) ⟨1, oa, ob, oc, os, ot⟩ ⟨HLO.out, by have := HOK.out.a; dsimp only at this ⊢; omega⟩
          unfold Op6.val at hmo
          dsimp only at hmo
          have hmn := moreA_nat oa
          have hOK2 : OpOk ⟨1, (moreA oa), ob, oc, os, ot⟩ := ⟨by dsimp only; have := HOK.out.a; unfold moreA; dsimp only at this; split <;> (try split) <;> omega, HOK.out.s, HOK.out.t⟩
          generalize hmoe : moreA oa = mo at hmo hmn hOK2
          have HMO : Hid _ := hmoe
          have HMN : Hid _ := hmn
          have HOK2 : Hid (OpOk ⟨1, mo, ob, oc, os, ot⟩) := hOK2
          have HB16 : Hid (Blk (u6.alloc (.cells #[.int .i64 1, .int .i64 oa, .int .i64 ob, .int .i64 oc, .string os, .string ot] 30)) u6.heap.size 6 _) := blk_alloc u6 #[.int .i64 1, .int .i64 oa, .int .i64 ob, .int .i64 oc, .string os, .string ot] 30
          obtain ⟨n16, hn16e⟩ : ∃ n, u6.heap.size = n := ⟨_, rfl⟩
          have hn16 : u6.heap.size ≤ n16 := by omega
          clear hmoe hmn
          go_wp2_with fail
          refine hmo.mono ?_
          rintro en u6b ⟨rfl, k6b⟩
          rw [hn16e] at HB16
          have hb16 := Blk.keep HB16.out k6b (fun h => h)
          have y0 := hb16.cell (i := 0) (by decide)
          have y1 := hb16.cell (i := 1) (by decide)
          have y2 := hb16.cell (i := 2) (by decide)
          have y3 := hb16.cell (i := 3) (by decide)
          have y4 := hb16.cell (i := 4) (by decide)
          have y5 := hb16.cell (i := 5) (by decide)
          have v0 := hb16.fz (i := 0) (by decide)
          have v1 := hb16.fz (i := 1) (by decide)
          have v2 := hb16.fz (i := 2) (by decide)
          have v3 := hb16.fz (i := 3) (by decide)
          have v4 := hb16.fz (i := 4) (by decide)
          have v5 := hb16.fz (i := 5) (by decide)
          have hkC : Kp (fun _ => False) u6 ((((((u6b.setCell ⟨n16, 0, none⟩ (.int .i64 1)).setCell ⟨n16, 1, none⟩ (.int .i64 mo)).setCell ⟨n16, 2, none⟩ (.int .i64 ob)).setCell ⟨n16, 3, none⟩ (.int .i64 oc)).setCell ⟨n16, 4, none⟩ (.string os)).setCell ⟨n16, 5, none⟩ (.string ot)) := ((((((((hk7.trans k6b).mono (fun _ h => h)).setCell (p := ⟨n16, 0, none⟩) (.inr hn16) _).setCell (p := ⟨n16, 1, none⟩) (.inr hn16) _).setCell (p := ⟨n16, 2, none⟩) (.inr hn16) _).setCell (p := ⟨n16, 3, none⟩) (.inr hn16) _).setCell (p := ⟨n16, 4, none⟩) (.inr hn16) _).setCell (p := ⟨n16, 5, none⟩) (.inr hn16) _)
          have hbC := ((((((hb16.set (i := 0) (by decide) (.int .i64 1)).set (i := 1) (by decide) (.int .i64 mo)).set (i := 2) (by decide) (.int .i64 ob)).set (i := 3) (by decide) (.int .i64 oc)).set (i := 4) (by decide) (.string os)).set (i := 5) (by decide) (.string ot)).cell (i := 1) (by decide)
          rw [upd_ne _ _ (by decide), upd_ne _ _ (by decide), upd_ne _ _ (by decide), upd_ne _ _ (by decide), upd_same] at hbC
          have hVl := lt_of_cell hbC
          dsimp only at hVl
          have HTC : Hid (Tri num (fun k => k = n8 ∨ k = n10 ∨ k = n16) W ((((((u6b.setCell ⟨n16, 0, none⟩ (.int .i64 1)).setCell ⟨n16, 1, none⟩ (.int .i64 mo)).setCell ⟨n16, 2, none⟩ (.int .i64 ob)).setCell ⟨n16, 3, none⟩ (.int .i64 oc)).setCell ⟨n16, 4, none⟩ (.string os)).setCell ⟨n16, 5, none⟩ (.string ot)) X Y Z st1 st1 st) := HT6.out.vars hkC (fun k e => by
            rcases e with e | e | e
            · exact .inl (.inl e)
            · exact .inl (.inr e)
            · exact .inr ⟨by omega, by omega⟩)
          have HO1 : Hid (_ = _) := hbC
          have hdz := HTC.out.rot.rot.do_ HNR.out HNO.out HKN.out HW0.out ⟨1, mo, ob, oc, os, ot⟩ hOK2
          unfold Op6.val at hdz
          dsimp only at hdz
          clear hmo hb16 HB16 hbC hVl HTC
          go_wp2_with fail
          refine hdz.mono ?_
          rintro en u7 ⟨stz2, ⟨cz, rfl, hRz⟩, t7, k7⟩
          unfold An4.val
          have hn8 : ¬ (W.heap.size ≤ n8 ∧ ¬ (n8 = n8 ∨ n8 = n10 ∨ n8 = n16)) := fun e => e.2 (.inl rfl)
          have hn10 : ¬ (W.heap.size ≤ n10 ∧ ¬ (n10 = n8 ∨ n10 = n10 ∨ n10 = n16)) := fun e => e.2 (.inr (.inl rfl))
          have hq16 : ¬ (W.heap.size ≤ n16 ∧ ¬ (n16 = n8 ∨ n16 = n10 ∨ n16 = n16)) := fun e => e.2 (.inr (.inr rfl))
          have H87 : Hid (O8 u7 n8 ⟨1, oa, ob, oc, os, ot⟩) := ((H85.out.keep k6 (fun h => h)).keep hkC (fun h => h)).keep k7 hn8
          have HA7 : Hid (A4 u7 n10 ⟨46, 0, am, asx⟩) := ((HA6.out.keep k6 (fun h => h)).keep hkC (fun h => h)).keep k7 hn10
          have HO7 : Hid (u7.cell? ⟨n16, 1, none⟩ = some (.int .i64 mo)) := (k7.cell (p := ⟨n16, 1, none⟩) (lt_of_cell HO1.out) hq16).trans HO1.out
          have HT7 : Hid (Tri num (fun k => k = n8 ∨ k = n10 ∨ k = n16) W u7 X Y Z st1 st1 stz2) := t7.rot
          have HRZ : Hid (DoR num st ⟨1, mo, ob, oc, os, ot⟩ cz stz2) := hRz
          clear hk7 k7 t7 hRz hdz hn8 hn10 hq16 hrn k6 hkC k6b y0 y1 y2 y3 y4 y5 v0 v1 v2 v3 v4 v5 x0 x1 x2 x3 x4 x5 HO1 hOK2
          obtain ⟨ze, zn, zm, zs⟩ := cz
          dsimp only
          have hk8 : Kp (fun _ => False) u7 (u7.alloc (.cells #[.int .i64 ze, .int .i64 zn, .int .i64 zm, .string zs] 39)) := (Kp.refl _ _).alloc _
          have HT9 : Hid (Tri num (fun _ => False) W (u7.alloc (.cells #[.int .i64 ze, .int .i64 zn, .int .i64 zm, .string zs] 39)) X Y Z st1 st1 stz2) := (HT7.out.quiet hk8).vars (Kp.refl _ _) (fun k e => e.elim)
          obtain ⟨d0, d1, d2, d3⟩ := HA7.out.keep hk8 (fun h => h)
          dsimp only at d0 d1 d2 d3
          clear hk8 HRZ
          go_wp2_with fail
          exact HN.out _ _ false st1 stz2 (by kernel_rfl) ⟨HT9.out, fun e => by simp at e⟩
      · have HN46 : Hid (ae ≠ 46) := h46
        clear h46
        go_wp2_with fail
        refine hrn.mono ?_
        rintro en u6 ⟨rfl, k6⟩
        try clear hab
        try clear hbn
        try clear hbo
        try clear hsz hsi hsz0 hget
        have h46b : (ae == 46) = false := by rw [beq_eq_false_iff_ne]; exact HN46.out
        obtain ⟨d0, d1, d2, d3⟩ := HA6.out.keep k6 (fun h => h)
        dsimp only at d0 d1 d2 d3
        cases lev with
        | false =>
          go_wp2_with fail
          exact HN.out _ _ false st1 stz (by kernel_rfl) ⟨(HT5.out.quiet k6).vars (Kp.refl _ _) (fun k e => e.elim), fun e => by simp at e⟩
        | true =>
          have hstz := (HLV.out rfl).symm
          subst hstz
          have HT6 : Hid (Tri num (fun k => k = n8 ∨ k = n10) W u6 X Y Z st1 st1 st) := HT5.out.quiet k6
          obtain ⟨c0, c1, c2, c3, c4, c5⟩ := H85.out.keep k6 (fun h => h)
          dsimp only at c0 c1 c2 c3 c4 c5
          have hk7 : Kp (fun _ => False) u6 (u6.alloc (.cells #[.int .i64 1, .int .i64 oa, .int .i64 ob, .int .i64 oc, .string os, .string ot] 30)) := (Kp.refl _ _).alloc _
          obtain ⟨x0, x1, x2, x3, x4, x5⟩ := (H85.out.keep k6 (fun h => h)).keep hk7 (fun h => h)
          dsimp only at x0 x1 x2 x3 x4 x5
          have hmo := more_calls (u6.alloc (.cells #[.int .i64 1, .int .i64 oa, .int .i64 ob, .int .i64 oc, .string os, .string ot] 30)) ⟨1, oa, ob, oc, os, ot⟩ ⟨HLO.out, by have := HOK.out.a; dsimp only at this ⊢; omega⟩
          unfold Op6.val at hmo
          dsimp only at hmo
          have hmn := moreA_nat oa
          have hOK2 : OpOk ⟨1, (moreA oa), ob, oc, os, ot⟩ := ⟨by dsimp only; have := HOK.out.a; unfold moreA; dsimp only at this; split <;> (try split) <;> omega, HOK.out.s, HOK.out.t⟩
          generalize hmoe : moreA oa = mo at hmo hmn hOK2
          have HMO : Hid _ := hmoe
          have HMN : Hid _ := hmn
          have HOK2 : Hid (OpOk ⟨1, mo, ob, oc, os, ot⟩) := hOK2
          have HB16 : Hid (Blk (u6.alloc (.cells #[.int .i64 1, .int .i64 oa, .int .i64 ob, .int .i64 oc, .string os, .string ot] 30)) u6.heap.size 6 _) := blk_alloc u6 #[.int .i64 1, .int .i64 oa, .int .i64 ob, .int .i64 oc, .string os, .string ot] 30
          obtain ⟨n16, hn16e⟩ : ∃ n, u6.heap.size = n := ⟨_, rfl⟩
          have hn16 : u6.heap.size ≤ n16 := by omega
          clear hmoe hmn
          go_wp2_with fail
          refine hmo.mono ?_
          rintro en u6b ⟨rfl, k6b⟩
          rw [hn16e] at HB16
          have hb16 := Blk.keep HB16.out k6b (fun h => h)
          have y0 := hb16.cell (i := 0) (by decide)
          have y1 := hb16.cell (i := 1) (by decide)
          have y2 := hb16.cell (i := 2) (by decide)
          have y3 := hb16.cell (i := 3) (by decide)
          have y4 := hb16.cell (i := 4) (by decide)
          have y5 := hb16.cell (i := 5) (by decide)
          have v0 := hb16.fz (i := 0) (by decide)
          have v1 := hb16.fz (i := 1) (by decide)
          have v2 := hb16.fz (i := 2) (by decide)
          have v3 := hb16.fz (i := 3) (by decide)
          have v4 := hb16.fz (i := 4) (by decide)
          have v5 := hb16.fz (i := 5) (by decide)
          have hkC : Kp (fun _ => False) u6 ((((((u6b.setCell ⟨n16, 0, none⟩ (.int .i64 1)).setCell ⟨n16, 1, none⟩ (.int .i64 mo)).setCell ⟨n16, 2, none⟩ (.int .i64 ob)).setCell ⟨n16, 3, none⟩ (.int .i64 oc)).setCell ⟨n16, 4, none⟩ (.string os)).setCell ⟨n16, 5, none⟩ (.string ot)) := ((((((((hk7.trans k6b).mono (fun _ h => h)).setCell (p := ⟨n16, 0, none⟩) (.inr hn16) _).setCell (p := ⟨n16, 1, none⟩) (.inr hn16) _).setCell (p := ⟨n16, 2, none⟩) (.inr hn16) _).setCell (p := ⟨n16, 3, none⟩) (.inr hn16) _).setCell (p := ⟨n16, 4, none⟩) (.inr hn16) _).setCell (p := ⟨n16, 5, none⟩) (.inr hn16) _)
          have hbC := ((((((hb16.set (i := 0) (by decide) (.int .i64 1)).set (i := 1) (by decide) (.int .i64 mo)).set (i := 2) (by decide) (.int .i64 ob)).set (i := 3) (by decide) (.int .i64 oc)).set (i := 4) (by decide) (.string os)).set (i := 5) (by decide) (.string ot)).cell (i := 1) (by decide)
          rw [upd_ne _ _ (by decide), upd_ne _ _ (by decide), upd_ne _ _ (by decide), upd_ne _ _ (by decide), upd_same] at hbC
          have hVl := lt_of_cell hbC
          dsimp only at hVl
          have HTC : Hid (Tri num (fun k => k = n8 ∨ k = n10 ∨ k = n16) W ((((((u6b.setCell ⟨n16, 0, none⟩ (.int .i64 1)).setCell ⟨n16, 1, none⟩ (.int .i64 mo)).setCell ⟨n16, 2, none⟩ (.int .i64 ob)).setCell ⟨n16, 3, none⟩ (.int .i64 oc)).setCell ⟨n16, 4, none⟩ (.string os)).setCell ⟨n16, 5, none⟩ (.string ot)) X Y Z st1 st1 st) := HT6.out.vars hkC (fun k e => by
            rcases e with e | e | e
            · exact .inl (.inl e)
            · exact .inl (.inr e)
            · exact .inr ⟨by omega, by omega⟩)
          have HO1 : Hid (_ = _) := hbC
          have hdz := HTC.out.rot.rot.do_ HNR.out HNO.out HKN.out HW0.out ⟨1, mo, ob, oc, os, ot⟩ hOK2
          unfold Op6.val at hdz
          dsimp only at hdz
          clear hmo hb16 HB16 hbC hVl HTC
          go_wp2_with fail
          refine hdz.mono ?_
          rintro en u7 ⟨stz2, ⟨cz, rfl, hRz⟩, t7, k7⟩
          unfold An4.val
          have hn8 : ¬ (W.heap.size ≤ n8 ∧ ¬ (n8 = n8 ∨ n8 = n10 ∨ n8 = n16)) := fun e => e.2 (.inl rfl)
          have hn10 : ¬ (W.heap.size ≤ n10 ∧ ¬ (n10 = n8 ∨ n10 = n10 ∨ n10 = n16)) := fun e => e.2 (.inr (.inl rfl))
          have hq16 : ¬ (W.heap.size ≤ n16 ∧ ¬ (n16 = n8 ∨ n16 = n10 ∨ n16 = n16)) := fun e => e.2 (.inr (.inr rfl))
          have H87 : Hid (O8 u7 n8 ⟨1, oa, ob, oc, os, ot⟩) := ((H85.out.keep k6 (fun h => h)).keep hkC (fun h => h)).keep k7 hn8
          have HA7 : Hid (A4 u7 n10 ⟨ae, an, am, asx⟩) := ((HA6.out.keep k6 (fun h => h)).keep hkC (fun h => h)).keep k7 hn10
          have HO7 : Hid (u7.cell? ⟨n16, 1, none⟩ = some (.int .i64 mo)) := (k7.cell (p := ⟨n16, 1, none⟩) (lt_of_cell HO1.out) hq16).trans HO1.out
          have HT7 : Hid (Tri num (fun k => k = n8 ∨ k = n10 ∨ k = n16) W u7 X Y Z st1 st1 stz2) := t7.rot
          have HRZ : Hid (DoR num st ⟨1, mo, ob, oc, os, ot⟩ cz stz2) := hRz
          clear hk7 k7 t7 hRz hdz hn8 hn10 hq16 hrn k6 hkC k6b y0 y1 y2 y3 y4 y5 v0 v1 v2 v3 v4 v5 x0 x1 x2 x3 x4 x5 HO1 hOK2
          by_cases hme : oa = mo
          · subst hme
            have hmr := HR.out.more HNO.out HGD.out (.inl rfl) HN46.out
            rw [HRV.out] at hmr
            dsimp only at hmr
            rw [HMO.out] at hmr
            rw [if_neg (fun e => e.2 (by omega))] at hmr
            obtain ⟨hac, hst⟩ := hmr.det HRZ.out
            subst hac hst
            dsimp only
            have hk8 : Kp (fun _ => False) u7 (u7.alloc (.cells #[.int .i64 ae, .int .i64 an, .int .i64 am, .string asx] 39)) := (Kp.refl _ _).alloc _
            have HT8 : Hid (Tri num (fun k => k = n8 ∨ k = n10 ∨ k = n16) W (u7.alloc (.cells #[.int .i64 ae, .int .i64 an, .int .i64 am, .string asx] 39)) X Y Z st1 st1 st1) := HT7.out.quiet hk8
            have HA8 : Hid (A4 (u7.alloc (.cells #[.int .i64 ae, .int .i64 an, .int .i64 am, .string asx] 39)) n10 ⟨ae, an, am, asx⟩) := HA7.out.keep hk8 (fun h => h)
            have HA9 : Hid (A4 (u7.alloc (.cells #[.int .i64 ae, .int .i64 an, .int .i64 am, .string asx] 39)) u7.heap.size ⟨ae, an, am, asx⟩) := A4.new u7 ae an am asx
            have HO8 : Hid ((u7.alloc (.cells #[.int .i64 ae, .int .i64 an, .int .i64 am, .string asx] 39)).cell? ⟨n16, 1, none⟩ = some (.int .i64 oa)) := (hk8.cell (p := ⟨n16, 1, none⟩) (lt_of_cell HO7.out) (fun h => h)).trans HO7.out
            obtain ⟨c0, c1, c2, c3, c4, c5⟩ := H87.out.keep hk8 (fun h => h)
            obtain ⟨d0, d1, d2, d3⟩ := HA8.out
            dsimp only at c0 c1 c2 c3 c4 c5 d0 d1 d2 d3
            have hrn2 := ran_calls (u7.alloc (.cells #[.int .i64 ae, .int .i64 an, .int .i64 am, .string asx] 39)) ⟨1, oa, ob, oc, os, ot⟩ ⟨ae, an, am, asx⟩
            rw [HRV.out] at hrn2
            unfold Op6.val An4.val at hrn2
            dsimp only at hrn2
            clear hk8 hmr
            go_wp2_with fail
            refine hrn2.mono ?_
            rintro en u9 ⟨rfl, k9⟩
            obtain ⟨d0, d1, d2, d3⟩ := HA8.out.keep k9 (fun h => h)
            obtain ⟨f0, f1, f2, f3⟩ := HA9.out.keep k9 (fun h => h)
            dsimp only at d0 d1 d2 d3 f0 f1 f2 f3
            have o1 : u9.cell? ⟨n16, 1, none⟩ = some (.int .i64 oa) := (k9.cell (p := ⟨n16, 1, none⟩) (lt_of_cell HO8.out) (fun h => h)).trans HO8.out
            have heq := eq39s ⟨ae, an, am, asx⟩
            unfold An4.val at heq
            dsimp only at heq
            have HT9 : Hid (Tri num (fun _ => False) W u9 X Y Z st1 st1 st1) := (HT8.out.quiet k9).vars (Kp.refl _ _) (fun k e => e.elim)
            clear hrn2 k9
            go_wp2_with fail
            exact HN.out _ _ true st1 st1 (by kernel_rfl) ⟨HT9.out, fun _ => rfl⟩
          · have hmB : (mo == oa) = false := by rw [beq_eq_false_iff_ne]; exact fun e => hme e.symm
            have hmr := HR.out.more HNO.out HGD.out (.inl rfl) HN46.out
            rw [HRV.out] at hmr
            dsimp only at hmr
            rw [HMO.out] at hmr
            have HME : Hid (mo ≠ (oa.toNat : Int)) := fun e => hme (by omega)
            rw [if_pos ⟨rfl, HME.out⟩] at hmr
            have hmC : (mo != oa) = true := by unfold bne; rw [hmB]; rfl
            have hmD : (!(mo == oa)) = true := by rw [hmB]; rfl
            clear hme
            obtain ⟨hac, hst⟩ := hmr.det HRZ.out
            subst hac hst
            dsimp only
            obtain ⟨an1, hn1⟩ : ∃ z : Int, an + 1 = z := ⟨_, rfl⟩
            rw [hn1]
            have HS1 : Hid (an1 - 1 = an) := by show an1 - 1 = an; omega
            have hs2 : 0 ≤ an1 := by omega
            have hs3 : an1 ≤ 9223372036854775807 := by
              have h0 := HOK2.out.a
              have h1 := HRN.out.2
              have h2 := HMN.out
              have h3 := HME.out
              dsimp only at h0 h1
              omega
            clear hn1
            have hk8 : Kp (fun _ => False) u7 (u7.alloc (.cells #[.int .i64 ae, .int .i64 an1, .int .i64 am, .string asx] 39)) := (Kp.refl _ _).alloc _
            have HA8 : Hid (A4 (u7.alloc (.cells #[.int .i64 ae, .int .i64 an1, .int .i64 am, .string asx] 39)) n10 ⟨ae, an, am, asx⟩) := HA7.out.keep hk8 (fun h => h)
            have HB9 : Hid (Blk (u7.alloc (.cells #[.int .i64 ae, .int .i64 an1, .int .i64 am, .string asx] 39)) u7.heap.size 4 _) := blk_alloc u7 #[.int .i64 ae, .int .i64 an1, .int .i64 am, .string asx] 39
            have HO8 : Hid ((u7.alloc (.cells #[.int .i64 ae, .int .i64 an1, .int .i64 am, .string asx] 39)).cell? ⟨n16, 1, none⟩ = some (.int .i64 mo)) := (hk8.cell (p := ⟨n16, 1, none⟩) (lt_of_cell HO7.out) (fun h => h)).trans HO7.out
            obtain ⟨c0, c1, c2, c3, c4, c5⟩ := H87.out.keep hk8 (fun h => h)
            obtain ⟨d0, d1, d2, d3⟩ := HA8.out
            dsimp only at c0 c1 c2 c3 c4 c5 d0 d1 d2 d3
            have hrn2 := ran_calls (u7.alloc (.cells #[.int .i64 ae, .int .i64 an1, .int .i64 am, .string asx] 39)) ⟨1, oa, ob, oc, os, ot⟩ ⟨ae, an, am, asx⟩
            rw [HRV.out] at hrn2
            unfold Op6.val An4.val at hrn2
            dsimp only at hrn2
            clear hmr
            go_wp2_with fail
            refine hrn2.mono ?_
            rintro en u9 ⟨rfl, k9⟩
            have hb9 := Blk.keep HB9.out k9 (fun h => h)
            have f1 : u9.cell? ⟨u7.heap.size, 1, none⟩ = some (.int .i64 an1) := hb9.cell (i := 1) (by decide)
            have v1 := hb9.fz (i := 1) (by decide)
            have hb9s := hb9.set (i := 1) (by decide) (.int .i64 (an1 - 1))
            have e0 : (u9.setCell ⟨u7.heap.size, 1, none⟩ (.int .i64 (an1 - 1))).cell? ⟨u7.heap.size, 0, none⟩ = some (.int .i64 ae) := by
              have := hb9s.cell (i := 0) (by decide)
              rwa [upd_ne _ _ (by decide)] at this
            have e1 : (u9.setCell ⟨u7.heap.size, 1, none⟩ (.int .i64 (an1 - 1))).cell? ⟨u7.heap.size, 1, none⟩ = some (.int .i64 (an1 - 1)) := by
              have := hb9s.cell (i := 1) (by decide)
              rwa [upd_same] at this
            have e2 : (u9.setCell ⟨u7.heap.size, 1, none⟩ (.int .i64 (an1 - 1))).cell? ⟨u7.heap.size, 2, none⟩ = some (.int .i64 am) := by
              have := hb9s.cell (i := 2) (by decide)
              rwa [upd_ne _ _ (by decide)] at this
            have e3 : (u9.setCell ⟨u7.heap.size, 1, none⟩ (.int .i64 (an1 - 1))).cell? ⟨u7.heap.size, 3, none⟩ = some (.string asx) := by
              have := hb9s.cell (i := 3) (by decide)
              rwa [upd_ne _ _ (by decide)] at this
            have hkS : Kp (fun _ => False) u7 (u9.setCell ⟨u7.heap.size, 1, none⟩ (.int .i64 (an1 - 1))) := (hk8.trans k9).setCell (p := ⟨u7.heap.size, 1, none⟩) (.inr (Nat.le_refl _)) _
            obtain ⟨d0, d1, d2, d3⟩ := HA7.out.keep hkS (fun h => h)
            dsimp only at d0 d1 d2 d3
            have o1 : u9.cell? ⟨n16, 1, none⟩ = some (.int .i64 mo) := (k9.cell (p := ⟨n16, 1, none⟩) (lt_of_cell HO8.out) (fun h => h)).trans HO8.out
            have heq : ∀ w : World, (Op.equalIn 10000 39 (⟨ae, an1 - 1, am, asx⟩ : An4).val (⟨ae, an, am, asx⟩ : An4).val).run Tryz.prog w = .ok true w := fun w => by rw [HS1.out]; exact eq39s _ w
            unfold An4.val at heq
            dsimp only at heq
            have HT9 : Hid (Tri num (fun _ => False) W (u9.setCell ⟨u7.heap.size, 1, none⟩ (.int .i64 (an1 - 1))) X Y Z st1 st1 st1) := (HT7.out.quiet hkS).vars (Kp.refl _ _) (fun k e => e.elim)
            clear hrn2 k9 hk8 hb9 hb9s hkS c0 c1 c2 c3 c4 c5
            go_wp2_with fail
            exact HN.out _ _ true st1 st1 (by kernel_rfl) ⟨HT9.out, fun _ => rfl⟩
    · have hrv : ranS ⟨1, oa, ob, oc, os, ot⟩ ⟨ae, an, am, asx⟩ = false := by
        unfold ranS
        rw [if_neg (by show ¬ ((1 : Int) = 3); decide)]
        exact decide_eq_false (fun e => by
          have := e.2
          dsimp only at this
          omega)
      have h46 : ae ≠ 46 := by omega
      clear hrr hae hno hSA
      have HRV : Hid _ := hrv
      rw [hrv] at hrn
      unfold Op6.val An4.val at hrn
      dsimp only at hrn
      clear hrv
      have HN46 : Hid (ae ≠ 46) := h46
      clear h46
      go_wp2_with fail
      refine hrn.mono ?_
      rintro en u6 ⟨rfl, k6⟩
      try clear hab
      try clear hbn
      try clear hbo
      try clear hsz hsi hsz0 hget
      have h46b : (ae == 46) = false := by rw [beq_eq_false_iff_ne]; exact HN46.out
      obtain ⟨d0, d1, d2, d3⟩ := HA6.out.keep k6 (fun h => h)
      dsimp only at d0 d1 d2 d3
      cases lev with
      | false =>
        go_wp2_with fail
        exact HN.out _ _ false st1 stz (by kernel_rfl) ⟨(HT5.out.quiet k6).vars (Kp.refl _ _) (fun k e => e.elim), fun e => by simp at e⟩
      | true =>
        have hstz := (HLV.out rfl).symm
        subst hstz
        have HT6 : Hid (Tri num (fun k => k = n8 ∨ k = n10) W u6 X Y Z st1 st1 st) := HT5.out.quiet k6
        obtain ⟨c0, c1, c2, c3, c4, c5⟩ := H85.out.keep k6 (fun h => h)
        dsimp only at c0 c1 c2 c3 c4 c5
        have hk7 : Kp (fun _ => False) u6 (u6.alloc (.cells #[.int .i64 1, .int .i64 oa, .int .i64 ob, .int .i64 oc, .string os, .string ot] 30)) := (Kp.refl _ _).alloc _
        obtain ⟨x0, x1, x2, x3, x4, x5⟩ := (H85.out.keep k6 (fun h => h)).keep hk7 (fun h => h)
        dsimp only at x0 x1 x2 x3 x4 x5
        have hmo := more_calls (u6.alloc (.cells #[.int .i64 1, .int .i64 oa, .int .i64 ob, .int .i64 oc, .string os, .string ot] 30)) ⟨1, oa, ob, oc, os, ot⟩ ⟨HLO.out, by have := HOK.out.a; dsimp only at this ⊢; omega⟩
        unfold Op6.val at hmo
        dsimp only at hmo
        have hmn := moreA_nat oa
        have hOK2 : OpOk ⟨1, (moreA oa), ob, oc, os, ot⟩ := ⟨by dsimp only; have := HOK.out.a; unfold moreA; dsimp only at this; split <;> (try split) <;> omega, HOK.out.s, HOK.out.t⟩
        generalize hmoe : moreA oa = mo at hmo hmn hOK2
        have HMO : Hid _ := hmoe
        have HMN : Hid _ := hmn
        have HOK2 : Hid (OpOk ⟨1, mo, ob, oc, os, ot⟩) := hOK2
        have HB16 : Hid (Blk (u6.alloc (.cells #[.int .i64 1, .int .i64 oa, .int .i64 ob, .int .i64 oc, .string os, .string ot] 30)) u6.heap.size 6 _) := blk_alloc u6 #[.int .i64 1, .int .i64 oa, .int .i64 ob, .int .i64 oc, .string os, .string ot] 30
        obtain ⟨n16, hn16e⟩ : ∃ n, u6.heap.size = n := ⟨_, rfl⟩
        have hn16 : u6.heap.size ≤ n16 := by omega
        clear hmoe hmn
        go_wp2_with fail
        refine hmo.mono ?_
        rintro en u6b ⟨rfl, k6b⟩
        rw [hn16e] at HB16
        have hb16 := Blk.keep HB16.out k6b (fun h => h)
        have y0 := hb16.cell (i := 0) (by decide)
        have y1 := hb16.cell (i := 1) (by decide)
        have y2 := hb16.cell (i := 2) (by decide)
        have y3 := hb16.cell (i := 3) (by decide)
        have y4 := hb16.cell (i := 4) (by decide)
        have y5 := hb16.cell (i := 5) (by decide)
        have v0 := hb16.fz (i := 0) (by decide)
        have v1 := hb16.fz (i := 1) (by decide)
        have v2 := hb16.fz (i := 2) (by decide)
        have v3 := hb16.fz (i := 3) (by decide)
        have v4 := hb16.fz (i := 4) (by decide)
        have v5 := hb16.fz (i := 5) (by decide)
        have hkC : Kp (fun _ => False) u6 ((((((u6b.setCell ⟨n16, 0, none⟩ (.int .i64 1)).setCell ⟨n16, 1, none⟩ (.int .i64 mo)).setCell ⟨n16, 2, none⟩ (.int .i64 ob)).setCell ⟨n16, 3, none⟩ (.int .i64 oc)).setCell ⟨n16, 4, none⟩ (.string os)).setCell ⟨n16, 5, none⟩ (.string ot)) := ((((((((hk7.trans k6b).mono (fun _ h => h)).setCell (p := ⟨n16, 0, none⟩) (.inr hn16) _).setCell (p := ⟨n16, 1, none⟩) (.inr hn16) _).setCell (p := ⟨n16, 2, none⟩) (.inr hn16) _).setCell (p := ⟨n16, 3, none⟩) (.inr hn16) _).setCell (p := ⟨n16, 4, none⟩) (.inr hn16) _).setCell (p := ⟨n16, 5, none⟩) (.inr hn16) _)
        have hbC := ((((((hb16.set (i := 0) (by decide) (.int .i64 1)).set (i := 1) (by decide) (.int .i64 mo)).set (i := 2) (by decide) (.int .i64 ob)).set (i := 3) (by decide) (.int .i64 oc)).set (i := 4) (by decide) (.string os)).set (i := 5) (by decide) (.string ot)).cell (i := 1) (by decide)
        rw [upd_ne _ _ (by decide), upd_ne _ _ (by decide), upd_ne _ _ (by decide), upd_ne _ _ (by decide), upd_same] at hbC
        have hVl := lt_of_cell hbC
        dsimp only at hVl
        have HTC : Hid (Tri num (fun k => k = n8 ∨ k = n10 ∨ k = n16) W ((((((u6b.setCell ⟨n16, 0, none⟩ (.int .i64 1)).setCell ⟨n16, 1, none⟩ (.int .i64 mo)).setCell ⟨n16, 2, none⟩ (.int .i64 ob)).setCell ⟨n16, 3, none⟩ (.int .i64 oc)).setCell ⟨n16, 4, none⟩ (.string os)).setCell ⟨n16, 5, none⟩ (.string ot)) X Y Z st1 st1 st) := HT6.out.vars hkC (fun k e => by
          rcases e with e | e | e
          · exact .inl (.inl e)
          · exact .inl (.inr e)
          · exact .inr ⟨by omega, by omega⟩)
        have HO1 : Hid (_ = _) := hbC
        have hdz := HTC.out.rot.rot.do_ HNR.out HNO.out HKN.out HW0.out ⟨1, mo, ob, oc, os, ot⟩ hOK2
        unfold Op6.val at hdz
        dsimp only at hdz
        clear hmo hb16 HB16 hbC hVl HTC
        go_wp2_with fail
        refine hdz.mono ?_
        rintro en u7 ⟨stz2, ⟨cz, rfl, hRz⟩, t7, k7⟩
        unfold An4.val
        have hn8 : ¬ (W.heap.size ≤ n8 ∧ ¬ (n8 = n8 ∨ n8 = n10 ∨ n8 = n16)) := fun e => e.2 (.inl rfl)
        have hn10 : ¬ (W.heap.size ≤ n10 ∧ ¬ (n10 = n8 ∨ n10 = n10 ∨ n10 = n16)) := fun e => e.2 (.inr (.inl rfl))
        have hq16 : ¬ (W.heap.size ≤ n16 ∧ ¬ (n16 = n8 ∨ n16 = n10 ∨ n16 = n16)) := fun e => e.2 (.inr (.inr rfl))
        have H87 : Hid (O8 u7 n8 ⟨1, oa, ob, oc, os, ot⟩) := ((H85.out.keep k6 (fun h => h)).keep hkC (fun h => h)).keep k7 hn8
        have HA7 : Hid (A4 u7 n10 ⟨ae, an, am, asx⟩) := ((HA6.out.keep k6 (fun h => h)).keep hkC (fun h => h)).keep k7 hn10
        have HO7 : Hid (u7.cell? ⟨n16, 1, none⟩ = some (.int .i64 mo)) := (k7.cell (p := ⟨n16, 1, none⟩) (lt_of_cell HO1.out) hq16).trans HO1.out
        have HT7 : Hid (Tri num (fun k => k = n8 ∨ k = n10 ∨ k = n16) W u7 X Y Z st1 st1 stz2) := t7.rot
        have HRZ : Hid (DoR num st ⟨1, mo, ob, oc, os, ot⟩ cz stz2) := hRz
        clear hk7 k7 t7 hRz hdz hn8 hn10 hq16 hrn k6 hkC k6b y0 y1 y2 y3 y4 y5 v0 v1 v2 v3 v4 v5 x0 x1 x2 x3 x4 x5 HO1 hOK2
        have hmr := HR.out.more HNO.out HGD.out (.inl rfl) HN46.out
        rw [HRV.out] at hmr
        dsimp only at hmr
        rw [HMO.out] at hmr
        simp only [Bool.false_eq_true, false_and, if_false] at hmr
        obtain ⟨hac, hst⟩ := hmr.det HRZ.out
        subst hac hst
        dsimp only
        have hk8 : Kp (fun _ => False) u7 (u7.alloc (.cells #[.int .i64 ae, .int .i64 an, .int .i64 am, .string asx] 39)) := (Kp.refl _ _).alloc _
        have HT8 : Hid (Tri num (fun k => k = n8 ∨ k = n10 ∨ k = n16) W (u7.alloc (.cells #[.int .i64 ae, .int .i64 an, .int .i64 am, .string asx] 39)) X Y Z st1 st1 st1) := HT7.out.quiet hk8
        have HA8 : Hid (A4 (u7.alloc (.cells #[.int .i64 ae, .int .i64 an, .int .i64 am, .string asx] 39)) n10 ⟨ae, an, am, asx⟩) := HA7.out.keep hk8 (fun h => h)
        have HA9 : Hid (A4 (u7.alloc (.cells #[.int .i64 ae, .int .i64 an, .int .i64 am, .string asx] 39)) u7.heap.size ⟨ae, an, am, asx⟩) := A4.new u7 ae an am asx
        have HO8 : Hid ((u7.alloc (.cells #[.int .i64 ae, .int .i64 an, .int .i64 am, .string asx] 39)).cell? ⟨n16, 1, none⟩ = some (.int .i64 mo)) := (hk8.cell (p := ⟨n16, 1, none⟩) (lt_of_cell HO7.out) (fun h => h)).trans HO7.out
        obtain ⟨c0, c1, c2, c3, c4, c5⟩ := H87.out.keep hk8 (fun h => h)
        obtain ⟨d0, d1, d2, d3⟩ := HA8.out
        dsimp only at c0 c1 c2 c3 c4 c5 d0 d1 d2 d3
        have hrn2 := ran_calls (u7.alloc (.cells #[.int .i64 ae, .int .i64 an, .int .i64 am, .string asx] 39)) ⟨1, oa, ob, oc, os, ot⟩ ⟨ae, an, am, asx⟩
        rw [HRV.out] at hrn2
        unfold Op6.val An4.val at hrn2
        dsimp only at hrn2
        clear hk8 hmr
        go_wp2_with fail
        refine hrn2.mono ?_
        rintro en u9 ⟨rfl, k9⟩
        obtain ⟨d0, d1, d2, d3⟩ := HA8.out.keep k9 (fun h => h)
        obtain ⟨f0, f1, f2, f3⟩ := HA9.out.keep k9 (fun h => h)
        dsimp only at d0 d1 d2 d3 f0 f1 f2 f3
        have o1 : u9.cell? ⟨n16, 1, none⟩ = some (.int .i64 mo) := (k9.cell (p := ⟨n16, 1, none⟩) (lt_of_cell HO8.out) (fun h => h)).trans HO8.out
        have heq := eq39s ⟨ae, an, am, asx⟩
        unfold An4.val at heq
        dsimp only at heq
        have HT9 : Hid (Tri num (fun _ => False) W u9 X Y Z st1 st1 st1) := (HT8.out.quiet k9).vars (Kp.refl _ _) (fun k e => e.elim)
        clear hrn2 k9
        go_wp2_with fail
        exact HN.out _ _ true st1 st1 (by kernel_rfl) ⟨HT9.out, fun _ => rfl⟩
end Go.Proofs.Qxb6500275aGreatDoor
