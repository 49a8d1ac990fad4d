import Derived.Test.Qxb6500275aGreatDoorBs0
import Derived.Test.Qxb6500275aGreatDoorBb2
set_option maxRecDepth 100000
set_option linter.unusedVariables false
set_option linter.unusedSimpArgs false
namespace Go.Proofs.Qxb6500275aGreatDoor
open Go Go.RowKit
section
variable {w w' : World} {b : Nat} {s : ByteArray} {p e : Nat} {er : Int} {a : Nat} {mb : Nat} {m : MT}
theorem sec6_b {M : Mod} {ty : List Int} (h0 : M.globals = []) : scQ (sec6 s p e M ty) = bindQ (countS s p e 4) fun x => bindQ (rowsL (globRow s e) x.1.toNat x.2 []) fun y => .ok ({ M with globals := y.1 }, y.2) := by
  unfold scQ sec6 vecS
  simp only [bindR_Q]
  cases countS s p e 4 with
  | error f => rfl
  | ok x =>
    show bindQ (bindQ (rowsL (globRow s e) x.1.toNat x.2 []) _) _ = bindQ (rowsL (globRow s e) x.1.toNat x.2 []) _
    cases rowsL (globRow s e) x.1.toNat x.2 [] with
    | error f => rfl
    | ok y =>
      show (Except.ok ({ M with globals := pick y.1 M.globals }, y.2) : R Mod) = _
      rw [h0, pickQ_nil]
      rfl
set_option maxHeartbeats 8000000 in
theorem sec6_m (h : Rc w b s p e er a) (hM : Mw w mb m) (hne : ¬ MwB mb m b) (h0 : m.globals = []) (ty : List Int) : Calls Tryz.prog 187 #[.pointer (some ⟨b, 0, none⟩), .int .i64 6, .pointer (some ⟨mb, 0, none⟩)] w (Scq (scQ (sec6 s p e m.mod ty)) b s e er a mb m w) := by
  have hlt : b < w.heap.size := lt_of_cell h.c0
  have HS : Hid (Ms1 w w b mb m m) := Ms1.start hM hne hlt
  have HC := count_m h 4 (by decide)
  obtain ⟨X, hX⟩ : ∃ X, scQ (sec6 s p e m.mod ty) = X := ⟨_, rfl⟩
  rw [hX]
  have HX : Hid _ := hX
  have H0 : Hid _ := h0
  clear h hM hne hX h0
  go_enter Tryz.func187, Tryz.ntmps187
  go_wp2_with fail
  refine HC.mono ?_
  rintro en w2 ⟨nn, q, er', a', rfl, hR, hK, hB, hC⟩
  obtain ⟨n, hn⟩ : ∃ n : Nat, nn = n := ⟨nn.toNat, by omega⟩
  subst hn
  have hn8 : n ≤ 10 := by omega
  unfold encI8
  have HZ : Hid (∀ l2 q2 er2 a2, Cu (rowsL (globRow s e) n q m.globals) er' a' l2 q2 er2 a2 → Cu X er a { m.mod with globals := l2 } q2 er2 a2) := fun l2 q2 er2 a2 hz => by
    rw [H0.out] at hz
    rw [← HX.out, sec6_b H0.out]
    exact hC.out.trans (hz.trans (Cu.pure _ _))
  have HR : Hid _ := hR
  have HK : Hid _ := hK
  clear hR hK HX hC hB HC
  go_wp2
  go_loopw [18] (fun ii w1 => ∃ (i q1 a1 : Nat) (er1 : Int) (l : List Glob) (v : Value), i ≤ n ∧ l.length = i ∧ ii = .int .i64 (i : Int) ∧ Rc w1 b s q1 e er1 a1 ∧ Ms1 w w1 b mb m { m with globals := l, vg := v } ∧ Hid (∀ l2 q2 er2 a2, Cu (rowsL (globRow s e) (n - i) q1 l) er1 a1 l2 q2 er2 a2 → Cu X er a { m.mod with globals := l2 } q2 er2 a2)) (fun ii _ => n - (intOf ii).toNat)
  case atStart => exact ⟨0, q, a', er', m.globals, m.vg, by omega, by rw [H0.out]; rfl, rfl, HR.out, HS.out.cur HK.out, HZ.out⟩
  case round =>
    obtain ⟨i, q1, a1, er1, l, v, hi, hll, rfl, hR1, hM1, hZ1⟩ := hrel
    have c3 := hR1.c3
    have HR1 : Hid _ := hR1
    have HM1 : Hid _ := hM1
    have HLL : Hid _ := hll
    obtain ⟨sa, sc, hsv⟩ := Mw.slGl hM1.mw
    dsimp only at hsv
    have HSV : Hid _ := hsv
    clear hR1 hM1 hll HR HK HS HZ hsv
    by_cases hgo : er1 = 0 ∧ i < n
    · obtain ⟨he1, hi1⟩ := hgo
      subst he1
      have hlti : (i : Int) < (n : Int) := by omega
      have HU2 := valtype_m HR1.out
      go_wp2_with fail
      refine HU2.mono ?_
      rintro en w2x ⟨gt, q2, er2, a2, rfl, hR2, hK2, hB2, hC2⟩
      have HR2 : Hid _ := hR2
      have HM2 : Hid _ := Ms1.cur (HM1.out) hK2
      have p2 := hR2.c1
      have hq2 : q2 ≤ 1024 := by have := hR2.le; have := hR2.es; have := hR2.sz; omega
      clear hR2 hK2 HU2 c3
      unfold encB
      have HU3 := byte_m HR2.out
      go_wp2_with fail
      refine HU3.mono ?_
      rintro en w3x ⟨gm, q3, er3, a3, rfl, hR3, hK3, hB3, hC3⟩
      have hM3 := Ms1.cur (HM2.out) hK3
      have HF3 := fail_m hR3 8 q2 hq2
      unfold encN8
      have HR3' : Hid _ := hR3
      have HM3' : Hid _ := hM3
      clear hR3 hK3 HU3 hM3
      by_cases hfl : 1 < gm
      · have hC3f : Hid (∀ er' a', Flq er3 a3 8 q2 er' a' → Cu (flagS s q2 e 1) er2 a2 gm q3 er' a') := fun er' a' hf => by
          rw [flagS_b]
          exact hC3.out.trans (by rw [if_pos hfl]; exact Cu.fail _ _ hf (by decide))
        clear hC3
        go_wp2_with fail
        refine HF3.mono ?_
        rintro en w3y ⟨er3', a3', rfl, hR3, hK3, hF3⟩
        have hC3 : Hid (Cu (flagS s q2 e 1) er2 a2 gm q3 er3' a3') := hC3f.out _ _ hF3.out
        have HR3 : Hid _ := hR3
        have HM3 : Hid _ := Ms1.cur HM3'.out hK3
        have p3 := hR3.c1
        have hq3 : q3 ≤ 1024 := by have := hR3.le; have := hR3.es; have := hR3.sz; omega
        clear hR3 hK3 HF3 hC3f hF3 hfl p2
        have HU4 := con_m HR3.out
        go_wp2_with fail
        refine HU4.mono ?_
        rintro en w4x ⟨cx, q4, er4, a4, rfl, hR4, hK4, hB4, hC4⟩
        have hM4 := Ms1.cur (HM3.out) hK4
        obtain ⟨W4, hW4⟩ : ∃ W4, w4x.alloc (.cells #[.int .u8 (cx.op : Int), .int .u32 cx.x, .int .u64 cx.y] 129) = W4 := ⟨_, rfl⟩
        have hKW4 : Kp (fun _ => False) w4x W4 := by rw [← hW4]; exact (Kp.refl _ _).alloc _
        have hN4 : C3 W4 w4x.heap.size (.int .u8 (cx.op : Int)) (.int .u32 cx.x) (.int .u64 cx.y) := by rw [← hW4]; exact C3.new w4x _ _ _ _
        have hNM4 : ¬ MwB mb _ w4x.heap.size := fun h => Nat.lt_irrefl _ (Mw.lt hM4.mw h)
        have hNb4 : w4x.heap.size ≠ b := by have : b < w4x.heap.size := lt_of_cell hR4.c0; omega
        have HN4 : Hid _ := hN4
        have HR4 : Hid _ := hR4.keep hKW4 (fun h => h)
        have HM4 : Hid _ := hM4.new hKW4
        have p4 := HR4.out.c1
        have hq4 : q4 ≤ 1024 := by have := HR4.out.le; have := HR4.out.es; have := HR4.out.sz; omega
        clear hR4 hK4 HU4 p3 hKW4 hN4 hM4
        unfold Ins.val
        have HRow : Hid (Cu (globRow s e q1) 0 a1 (⟨gt, decide (gm = 1), cx⟩ : Glob) q4 er4 a4) := by
          unfold globRow
          simp only [bindR_Q]
          exact hC2.out.trans (hC3.out.trans (hC4.out.trans (Cu.pure _ _)))
        clear hC2 hC3 hC4
        have hNW : C3 W4 w4x.heap.size (.int .u8 (cx.op : Int)) (.int .u32 cx.x) (.int .u64 cx.y) := HN4.out
        have hD : Kp (fun _ => False) W4 W4.drew := (Kp.refl _ _).drew
        have hMD := Ms1.new HM4.out hD
        obtain ⟨v', w6, r1, ⟨ra, rn, rc, hvo⟩, ⟨r2, r3⟩, r5, r6, r7⟩ := hMD.mw.pushGl (by have := HLL.out; show l.length ≤ 1000; omega) (⟨gt, decide (gm = 1), cx⟩ : Glob)
        dsimp only at r1 r2
        have dj := HM4.out.mw.c7
        dsimp only at dj
        rw [HSV.out] at r1 r2 dj
        subst hvo
        have hgm : ((gm : Int) == 1) = decide (gm = 1) := by rw [Bool.eq_iff_iff]; simp; omega
        obtain ⟨U, hU⟩ : ∃ U, W4.drew.alloc (.cells #[.int .u8 (gt : Int), .bool (decide (gm = 1)), .int .u8 (cx.op : Int), .int .u32 cx.x, .int .u64 cx.y] 131) = U := ⟨_, rfl⟩
        have hKU : Kp (fun _ => False) W4 U := by rw [← hU]; exact hD.alloc _
        have djU : U.cell? ⟨mb, 7, none⟩ = some (.slice sa l.length sc) := by rw [hKU.cell (p := ⟨mb, 7, none⟩) (HM4.out.mw.lt (.inl rfl)) (fun h => h)]; exact dj
        have hNU := hNW.keep hKU (fun h => h)
        have hUU : (W4.alloc (.cells #[.int .u8 (gt : Int), .bool (decide (gm = 1)), .int .u8 (cx.op : Int), .int .u32 cx.x, .int .u64 cx.y] 131)).drew = U := by rw [← hU]; rfl
        rw [hU] at r1
        have HR1a : Hid _ := r1
        have HM6 : Hid _ := Ms1.step hMD r5 r6 r7
        have HR6 : Hid _ := (HR4.out.keep hD (fun h => h)).keep r6 hMD.ne
        obtain ⟨x0, x1, x2, v0, v1, v2⟩ := hNW
        obtain ⟨y0, y1, y2, z0, z1, z2⟩ := hNU
        clear r5 r6 r7 hMD hKU hD r1 hU
        go_wp2_with fail
        clear hW4
        apply region_one
        case walk =>
          go_region_law (refine step_apq rfl _ _ 80 rfl HR1a.out ?_)
          all_goals exact ⟨rfl, rfl⟩
        case key =>
          go_wp2
          have hll2 := HLL.out
          refine ⟨⟨i + 1, q4, a4, er4, l ++ [(⟨gt, decide (gm = 1), cx⟩ : Glob)], .slice ra rn rc, by omega, by rw [List.length_append, hll2]; rfl, by go_num, HR6.out, HM6.out, fun l2 qq er2 a2 hz => hZ1.out _ _ _ _ (Cu.row (by omega) HRow.out (by rw [show n - i - 1 = n - (i + 1) by omega]; exact hz))⟩, by simp [intOf]; omega⟩
      · have hC3f : Hid (Cu (flagS s q2 e 1) er2 a2 gm q3 er3 a3) := by
          rw [flagS_b]
          exact hC3.out.trans (by rw [if_neg hfl]; exact Cu.pure _ _)
        clear hC3
        have hC3 := hC3f
        have hfli : ¬ (1 : Int) < (gm : Int) := by omega
        have HR3 : Hid _ := HR3'.out
        have HM3 : Hid _ := HM3'.out
        have p3 := HR3'.out.c1
        have hq3 : q3 ≤ 1024 := by have := HR3'.out.le; have := HR3'.out.es; have := HR3'.out.sz; omega
        clear HF3 hC3f hfl p2
        have HU4 := con_m HR3.out
        go_wp2_with fail
        refine HU4.mono ?_
        rintro en w4x ⟨cx, q4, er4, a4, rfl, hR4, hK4, hB4, hC4⟩
        have hM4 := Ms1.cur (HM3.out) hK4
        obtain ⟨W4, hW4⟩ : ∃ W4, w4x.alloc (.cells #[.int .u8 (cx.op : Int), .int .u32 cx.x, .int .u64 cx.y] 129) = W4 := ⟨_, rfl⟩
        have hKW4 : Kp (fun _ => False) w4x W4 := by rw [← hW4]; exact (Kp.refl _ _).alloc _
        have hN4 : C3 W4 w4x.heap.size (.int .u8 (cx.op : Int)) (.int .u32 cx.x) (.int .u64 cx.y) := by rw [← hW4]; exact C3.new w4x _ _ _ _
        have hNM4 : ¬ MwB mb _ w4x.heap.size := fun h => Nat.lt_irrefl _ (Mw.lt hM4.mw h)
        have hNb4 : w4x.heap.size ≠ b := by have : b < w4x.heap.size := lt_of_cell hR4.c0; omega
        have HN4 : Hid _ := hN4
        have HR4 : Hid _ := hR4.keep hKW4 (fun h => h)
        have HM4 : Hid _ := hM4.new hKW4
        have p4 := HR4.out.c1
        have hq4 : q4 ≤ 1024 := by have := HR4.out.le; have := HR4.out.es; have := HR4.out.sz; omega
        clear hR4 hK4 HU4 p3 hKW4 hN4 hM4
        unfold Ins.val
        have HRow : Hid (Cu (globRow s e q1) 0 a1 (⟨gt, decide (gm = 1), cx⟩ : Glob) q4 er4 a4) := by
          unfold globRow
          simp only [bindR_Q]
          exact hC2.out.trans (hC3.out.trans (hC4.out.trans (Cu.pure _ _)))
        clear hC2 hC3 hC4
        have hNW : C3 W4 w4x.heap.size (.int .u8 (cx.op : Int)) (.int .u32 cx.x) (.int .u64 cx.y) := HN4.out
        have hD : Kp (fun _ => False) W4 W4.drew := (Kp.refl _ _).drew
        have hMD := Ms1.new HM4.out hD
        obtain ⟨v', w6, r1, ⟨ra, rn, rc, hvo⟩, ⟨r2, r3⟩, r5, r6, r7⟩ := hMD.mw.pushGl (by have := HLL.out; show l.length ≤ 1000; omega) (⟨gt, decide (gm = 1), cx⟩ : Glob)
        dsimp only at r1 r2
        have dj := HM4.out.mw.c7
        dsimp only at dj
        rw [HSV.out] at r1 r2 dj
        subst hvo
        have hgm : ((gm : Int) == 1) = decide (gm = 1) := by rw [Bool.eq_iff_iff]; simp; omega
        obtain ⟨U, hU⟩ : ∃ U, W4.drew.alloc (.cells #[.int .u8 (gt : Int), .bool (decide (gm = 1)), .int .u8 (cx.op : Int), .int .u32 cx.x, .int .u64 cx.y] 131) = U := ⟨_, rfl⟩
        have hKU : Kp (fun _ => False) W4 U := by rw [← hU]; exact hD.alloc _
        have djU : U.cell? ⟨mb, 7, none⟩ = some (.slice sa l.length sc) := by rw [hKU.cell (p := ⟨mb, 7, none⟩) (HM4.out.mw.lt (.inl rfl)) (fun h => h)]; exact dj
        have hNU := hNW.keep hKU (fun h => h)
        have hUU : (W4.alloc (.cells #[.int .u8 (gt : Int), .bool (decide (gm = 1)), .int .u8 (cx.op : Int), .int .u32 cx.x, .int .u64 cx.y] 131)).drew = U := by rw [← hU]; rfl
        rw [hU] at r1
        have HR1a : Hid _ := r1
        have HM6 : Hid _ := Ms1.step hMD r5 r6 r7
        have HR6 : Hid _ := (HR4.out.keep hD (fun h => h)).keep r6 hMD.ne
        obtain ⟨x0, x1, x2, v0, v1, v2⟩ := hNW
        obtain ⟨y0, y1, y2, z0, z1, z2⟩ := hNU
        clear r5 r6 r7 hMD hKU hD r1 hU
        go_wp2_with fail
        clear hW4
        apply region_one
        case walk =>
          go_region_law (refine step_apq rfl _ _ 80 rfl HR1a.out ?_)
          all_goals exact ⟨rfl, rfl⟩
        case key =>
          go_wp2
          have hll2 := HLL.out
          refine ⟨⟨i + 1, q4, a4, er4, l ++ [(⟨gt, decide (gm = 1), cx⟩ : Glob)], .slice ra rn rc, by omega, by rw [List.length_append, hll2]; rfl, by go_num, HR6.out, HM6.out, fun l2 qq er2 a2 hz => hZ1.out _ _ _ _ (Cu.row (by omega) HRow.out (by rw [show n - i - 1 = n - (i + 1) by omega]; exact hz))⟩, by simp [intOf]; omega⟩
    · by_cases hi1 : i < n
      · have he1 : er1 ≠ 0 := fun h => hgo ⟨h, hi1⟩
        have heb : (er1 == 0) = false := by rw [beq_eq_false_iff_ne]; exact he1
        have hlti : (i : Int) < (n : Int) := by omega
        go_wp2
        refine bodyPost_end (v := .tuple #[]) (results_none rfl _ _ _) rfl ?_
        exact ⟨{ m with globals := l, vg := v }, q1, er1, a1, rfl, HR1.out, HM1.out, hZ1.out _ _ _ _ (Cu.stay _ _ he1)⟩
      · have hlti : ¬ (i : Int) < (n : Int) := by omega
        go_wp2
        refine bodyPost_end (v := .tuple #[]) (results_none rfl _ _ _) rfl ?_
        refine ⟨{ m with globals := l, vg := v }, q1, er1, a1, rfl, HR1.out, HM1.out, hZ1.out _ _ _ _ ?_⟩
        rw [show n - i = 0 by omega]
        exact Cu.pure _ _
end
end Go.Proofs.Qxb6500275aGreatDoor
