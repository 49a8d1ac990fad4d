import Derived.Test.Qxb6500275aGreatDoorBs0
import Derived.Test.Qxb6500275aGreatDoorBb2
set_option maxRecDepth 100000
set_option linter.unusedVariables false
set_option linter.unusedSimpArgs false
namespace Go.Proofs.Qxb6500275aGreatDoor
open Go Go.RowKit
section
variable {w w' : World} {b : Nat} {s : ByteArray} {p e : Nat} {er : Int} {a : Nat} {mb : Nat} {m : MT}
theorem sec1_b {M : Mod} {ty : List Int} (h0 : M.types = []) : scQ (sec1 s p e M ty) = bindQ (countS s p e 8) fun x => bindQ (rowsL (tyRow s e) x.1.toNat x.2 []) fun y => .ok ({ M with types := y.1 }, y.2) := by
  unfold scQ sec1 vecS
  simp only [bindR_Q]
  cases countS s p e 8 with
  | error f => rfl
  | ok x =>
    show bindQ (bindQ (rowsL (tyRow s e) x.1.toNat x.2 []) _) _ = bindQ (rowsL (tyRow s e) x.1.toNat x.2 []) _
    cases rowsL (tyRow s e) x.1.toNat x.2 [] with
    | error f => rfl
    | ok y =>
      show (Except.ok ({ M with types := pick y.1 M.types }, y.2) : R Mod) = _
      rw [h0, pickQ_nil]
      rfl
set_option maxHeartbeats 8000000 in
theorem sec1_m (h : Rc w b s p e er a) (hM : Mw w mb m) (hne : ¬ MwB mb m b) (h0 : m.types = []) (ty : List Int) : Calls Tryz.prog 187 #[.pointer (some ⟨b, 0, none⟩), .int .i64 1, .pointer (some ⟨mb, 0, none⟩)] w (Scq (scQ (sec1 s p e m.mod ty)) b s e er a mb m w) := by
  have hlt : b < w.heap.size := lt_of_cell h.c0
  have HS : Hid (Ms1 w w b mb m m) := Ms1.start hM hne hlt
  have HC := count_m h 8 (by decide)
  obtain ⟨X, hX⟩ : ∃ X, scQ (sec1 s p e m.mod ty) = X := ⟨_, rfl⟩
  rw [hX]
  have HX : Hid _ := hX
  have H0 : Hid _ := h0
  clear h hM hne hX h0
  go_enter Tryz.func187, Tryz.ntmps187
  go_wp2_with fail
  refine HC.mono ?_
  rintro en w2 ⟨nn, q, er', a', rfl, hR, hK, hB, hC⟩
  obtain ⟨n, hn⟩ : ∃ n : Nat, nn = n := ⟨nn.toNat, by omega⟩
  subst hn
  have hn8 : n ≤ 10 := by omega
  unfold encI8
  have HZ : Hid (∀ l2 q2 er2 a2, Cu (rowsL (tyRow s e) n q m.types) er' a' l2 q2 er2 a2 → Cu X er a { m.mod with types := l2 } q2 er2 a2) := fun l2 q2 er2 a2 hz => by
    rw [H0.out] at hz
    rw [← HX.out, sec1_b H0.out]
    exact hC.out.trans (hz.trans (Cu.pure _ _))
  have HR : Hid _ := hR
  have HK : Hid _ := hK
  clear hR hK HX hC hB HC
  go_wp2
  go_loopw [7] (fun ii w1 => ∃ (i q1 a1 : Nat) (er1 : Int) (l : List Ty) (v : Value), i ≤ n ∧ l.length = i ∧ ii = .int .i64 (i : Int) ∧ Rc w1 b s q1 e er1 a1 ∧ Ms1 w w1 b mb m { m with types := l, vt := v } ∧ Hid (∀ l2 q2 er2 a2, Cu (rowsL (tyRow s e) (n - i) q1 l) er1 a1 l2 q2 er2 a2 → Cu X er a { m.mod with types := l2 } q2 er2 a2)) (fun ii _ => n - (intOf ii).toNat)
  case atStart => exact ⟨0, q, a', er', m.types, m.vt, by omega, by rw [H0.out]; rfl, rfl, HR.out, HS.out.cur HK.out, HZ.out⟩
  case round =>
    obtain ⟨i, q1, a1, er1, l, v, hi, hll, rfl, hR1, hM1, hZ1⟩ := hrel
    have c3 := hR1.c3
    have HR1 : Hid _ := hR1
    have HM1 : Hid _ := hM1
    have HLL : Hid _ := hll
    obtain ⟨sa, sc, hsv⟩ := Mw.slTy hM1.mw
    dsimp only at hsv
    have HSV : Hid _ := hsv
    clear hR1 hM1 hll HR HK HS HZ hsv
    by_cases hgo : er1 = 0 ∧ i < n
    · obtain ⟨he1, hi1⟩ := hgo
      subst he1
      have hlti : (i : Int) < (n : Int) := by omega
      have HU2 := fixed_m HR1.out 96 (by decide)
      go_wp2_with fail
      refine HU2.mono ?_
      rintro en w2x ⟨_, q2, er2, a2, rfl, hR2, hK2, hB2, hC2⟩
      have HR2 : Hid _ := hR2
      have HM2 : Hid _ := Ms1.cur (HM1.out) hK2
      have p2 := hR2.c1
      have hq2 : q2 ≤ 1024 := by have := hR2.le; have := hR2.es; have := hR2.sz; omega
      clear hR2 hK2 HU2 c3
      unfold encN
      have HU3 := valtypes_m HR2.out 4 (by decide)
      go_wp2_with fail
      refine HU3.mono ?_
      rintro en w3x ⟨tp, q3, er3, a3, rfl, hR3, hK3, hB3, hC3⟩
      have HR3 : Hid _ := hR3
      have HM3 : Hid _ := Ms1.cur (HM2.out) hK3
      have p3 := hR3.c1
      have hq3 : q3 ≤ 1024 := by have := hR3.le; have := hR3.es; have := hR3.sz; omega
      clear hR3 hK3 HU3 p2
      unfold encS
      have HU4 := valtypes_m HR3.out 1 (by decide)
      go_wp2_with fail
      refine HU4.mono ?_
      rintro en w4x ⟨tq, q4, er4, a4, rfl, hR4, hK4, hB4, hC4⟩
      have HR4 : Hid _ := hR4
      have HM4 : Hid _ := Ms1.cur (HM3.out) hK4
      have p4 := hR4.c1
      have hq4 : q4 ≤ 1024 := by have := hR4.le; have := hR4.es; have := hR4.sz; omega
      clear hR4 hK4 HU4 p3
      unfold encS
      have HRow : Hid (Cu (tyRow s e q1) 0 a1 (⟨tp, tq⟩ : Ty) q4 er4 a4) := by
        unfold tyRow
        simp only [bindR_Q]
        exact hC2.out.trans (hC3.out.trans (hC4.out.trans (Cu.pure _ _)))
      clear hC2 hC3 hC4
      obtain ⟨v', w6, r1, ⟨ra, rn, rc, hvo⟩, ⟨r2, r3⟩, r5, r6, r7⟩ := HM4.out.mw.pushTy (by have := HLL.out; show l.length ≤ 1000; omega) (⟨tp, tq⟩ : Ty)
      dsimp only at r1 r2
      have dj := HM4.out.mw.c0
      dsimp only at dj
      rw [HSV.out] at r1 r2 dj
      subst hvo
      unfold Ty.text colon at r1
      dsimp only at r1
      have hz1 : ¬ 9223372036854775807 < tp.size + 1 := by have : tp.size ≤ 10 := hB3; omega
      have hz2 : ¬ 9223372036854775807 < tp.size + 1 + tq.size := by have : tp.size ≤ 10 := hB3; have : tq.size ≤ 10 := hB4; omega
      have HM6 : Hid _ := Ms1.step HM4.out r5 r6 r7
      have HR6 : Hid _ := HR4.out.keep r6 HM4.out.ne
      clear r5 r6 r7
      go_wp2_with (at_builtin; refine wpList_app rfl _ _ 77 rfl r1 ?_)
      have hll2 := HLL.out
      refine ⟨⟨i + 1, q4, a4, er4, l ++ [(⟨tp, tq⟩ : Ty)], .slice ra rn rc, by omega, by rw [List.length_append, hll2]; rfl, by go_num, HR6.out, HM6.out, fun l2 qq er2 a2 hz => hZ1.out _ _ _ _ (Cu.row (by omega) HRow.out (by rw [show n - i - 1 = n - (i + 1) by omega]; exact hz))⟩, by simp [intOf]; omega⟩
    · by_cases hi1 : i < n
      · have he1 : er1 ≠ 0 := fun h => hgo ⟨h, hi1⟩
        have heb : (er1 == 0) = false := by rw [beq_eq_false_iff_ne]; exact he1
        have hlti : (i : Int) < (n : Int) := by omega
        go_wp2
        refine bodyPost_end (v := .tuple #[]) (results_none rfl _ _ _) rfl ?_
        exact ⟨{ m with types := l, vt := v }, q1, er1, a1, rfl, HR1.out, HM1.out, hZ1.out _ _ _ _ (Cu.stay _ _ he1)⟩
      · have hlti : ¬ (i : Int) < (n : Int) := by omega
        go_wp2
        refine bodyPost_end (v := .tuple #[]) (results_none rfl _ _ _) rfl ?_
        refine ⟨{ m with types := l, vt := v }, q1, er1, a1, rfl, HR1.out, HM1.out, hZ1.out _ _ _ _ ?_⟩
        rw [show n - i = 0 by omega]
        exact Cu.pure _ _
theorem sec2_b {M : Mod} {ty : List Int} (h0 : M.imports = []) : scQ (sec2 s p e M ty) = bindQ (countS s p e 4) fun x => bindQ (rowsL (impRow s e) x.1.toNat x.2 []) fun y => .ok ({ M with imports := y.1 }, y.2) := by
  unfold scQ sec2 vecS
  simp only [bindR_Q]
  cases countS s p e 4 with
  | error f => rfl
  | ok x =>
    show bindQ (bindQ (rowsL (impRow s e) x.1.toNat x.2 []) _) _ = bindQ (rowsL (impRow s e) x.1.toNat x.2 []) _
    cases rowsL (impRow s e) x.1.toNat x.2 [] with
    | error f => rfl
    | ok y =>
      show (Except.ok ({ M with imports := pick y.1 M.imports }, y.2) : R Mod) = _
      rw [h0, pickQ_nil]
      rfl
set_option maxHeartbeats 8000000 in
theorem sec2_m (h : Rc w b s p e er a) (hM : Mw w mb m) (hne : ¬ MwB mb m b) (h0 : m.imports = []) (ty : List Int) : Calls Tryz.prog 187 #[.pointer (some ⟨b, 0, none⟩), .int .i64 2, .pointer (some ⟨mb, 0, none⟩)] w (Scq (scQ (sec2 s p e m.mod ty)) b s e er a mb m w) := by
  have hlt : b < w.heap.size := lt_of_cell h.c0
  have HS : Hid (Ms1 w w b mb m m) := Ms1.start hM hne hlt
  have HC := count_m h 4 (by decide)
  obtain ⟨X, hX⟩ : ∃ X, scQ (sec2 s p e m.mod ty) = X := ⟨_, rfl⟩
  rw [hX]
  have HX : Hid _ := hX
  have H0 : Hid _ := h0
  clear h hM hne hX h0
  go_enter Tryz.func187, Tryz.ntmps187
  go_wp2_with fail
  refine HC.mono ?_
  rintro en w2 ⟨nn, q, er', a', rfl, hR, hK, hB, hC⟩
  obtain ⟨n, hn⟩ : ∃ n : Nat, nn = n := ⟨nn.toNat, by omega⟩
  subst hn
  have hn8 : n ≤ 10 := by omega
  unfold encI8
  have HZ : Hid (∀ l2 q2 er2 a2, Cu (rowsL (impRow s e) n q m.imports) er' a' l2 q2 er2 a2 → Cu X er a { m.mod with imports := l2 } q2 er2 a2) := fun l2 q2 er2 a2 hz => by
    rw [H0.out] at hz
    rw [← HX.out, sec2_b H0.out]
    exact hC.out.trans (hz.trans (Cu.pure _ _))
  have HR : Hid _ := hR
  have HK : Hid _ := hK
  clear hR hK HX hC hB HC
  go_wp2
  go_loopw [11] (fun ii w1 => ∃ (i q1 a1 : Nat) (er1 : Int) (l : List Imp) (v : Value), i ≤ n ∧ l.length = i ∧ ii = .int .i64 (i : Int) ∧ Rc w1 b s q1 e er1 a1 ∧ Ms1 w w1 b mb m { m with imports := l, vi := v } ∧ Hid (∀ l2 q2 er2 a2, Cu (rowsL (impRow s e) (n - i) q1 l) er1 a1 l2 q2 er2 a2 → Cu X er a { m.mod with imports := l2 } q2 er2 a2)) (fun ii _ => n - (intOf ii).toNat)
  case atStart => exact ⟨0, q, a', er', m.imports, m.vi, by omega, by rw [H0.out]; rfl, rfl, HR.out, HS.out.cur HK.out, HZ.out⟩
  case round =>
    obtain ⟨i, q1, a1, er1, l, v, hi, hll, rfl, hR1, hM1, hZ1⟩ := hrel
    have c3 := hR1.c3
    have HR1 : Hid _ := hR1
    have HM1 : Hid _ := hM1
    have HLL : Hid _ := hll
    obtain ⟨sa, sc, hsv⟩ := Mw.slIm hM1.mw
    dsimp only at hsv
    have HSV : Hid _ := hsv
    clear hR1 hM1 hll HR HK HS HZ hsv
    by_cases hgo : er1 = 0 ∧ i < n
    · obtain ⟨he1, hi1⟩ := hgo
      subst he1
      have hlti : (i : Int) < (n : Int) := by omega
      have HU2 := name_m HR1.out
      go_wp2_with fail
      refine HU2.mono ?_
      rintro en w2x ⟨im, q2, er2, a2, rfl, hR2, hK2, hB2, hC2⟩
      have HR2 : Hid _ := hR2
      have HM2 : Hid _ := Ms1.cur (HM1.out) hK2
      have p2 := hR2.c1
      have hq2 : q2 ≤ 1024 := by have := hR2.le; have := hR2.es; have := hR2.sz; omega
      clear hR2 hK2 HU2 c3
      unfold encS
      have HU3 := name_m HR2.out
      go_wp2_with fail
      refine HU3.mono ?_
      rintro en w3x ⟨iN, q3, er3, a3, rfl, hR3, hK3, hB3, hC3⟩
      have HR3 : Hid _ := hR3
      have HM3 : Hid _ := Ms1.cur (HM2.out) hK3
      have p3 := hR3.c1
      have hq3 : q3 ≤ 1024 := by have := hR3.le; have := hR3.es; have := hR3.sz; omega
      clear hR3 hK3 HU3 p2
      unfold encS
      have HU4 := fixed_m HR3.out 0 (by decide)
      go_wp2_with fail
      refine HU4.mono ?_
      rintro en w4x ⟨_, q4, er4, a4, rfl, hR4, hK4, hB4, hC4⟩
      have HR4 : Hid _ := hR4
      have HM4 : Hid _ := Ms1.cur (HM3.out) hK4
      have p4 := hR4.c1
      have hq4 : q4 ≤ 1024 := by have := hR4.le; have := hR4.es; have := hR4.sz; omega
      clear hR4 hK4 HU4 p3
      unfold encN
      have HU5 := u32_m HR4.out
      go_wp2_with fail
      refine HU5.mono ?_
      rintro en w5x ⟨it, q5, er5, a5, rfl, hR5, hK5, hB5, hC5⟩
      have HR5 : Hid _ := hR5
      have HM5 : Hid _ := Ms1.cur (HM4.out) hK5
      have p5 := hR5.c1
      have hq5 : q5 ≤ 1024 := by have := hR5.le; have := hR5.es; have := hR5.sz; omega
      clear hR5 hK5 HU5 p4
      unfold encI8
      have HRow : Hid (Cu (impRow s e q1) 0 a1 (⟨im, iN, it⟩ : Imp) q5 er5 a5) := by
        unfold impRow
        simp only [bindR_Q]
        exact hC2.out.trans (hC3.out.trans (hC4.out.trans (hC5.out.trans (Cu.pure _ _))))
      clear hC2 hC3 hC4 hC5
      obtain ⟨v', w6, r1, ⟨ra, rn, rc, hvo⟩, ⟨r2, r3⟩, r5, r6, r7⟩ := HM5.out.mw.pushIm (by have := HLL.out; show l.length ≤ 1000; omega) (⟨im, iN, it⟩ : Imp)
      dsimp only at r1 r2
      have dj := HM5.out.mw.c1
      dsimp only at dj
      rw [HSV.out] at r1 r2 dj
      subst hvo
      have HM6 : Hid _ := Ms1.step HM5.out r5 r6 r7
      have HR6 : Hid _ := HR5.out.keep r6 HM5.out.ne
      clear r5 r6 r7
      go_wp2_with (at_builtin; refine wpList_app rfl _ _ 78 rfl r1 ?_)
      have hll2 := HLL.out
      refine ⟨⟨i + 1, q5, a5, er5, l ++ [(⟨im, iN, it⟩ : Imp)], .slice ra rn rc, by omega, by rw [List.length_append, hll2]; rfl, by go_num, HR6.out, HM6.out, fun l2 qq er2 a2 hz => hZ1.out _ _ _ _ (Cu.row (by omega) HRow.out (by rw [show n - i - 1 = n - (i + 1) by omega]; exact hz))⟩, by simp [intOf]; omega⟩
    · by_cases hi1 : i < n
      · have he1 : er1 ≠ 0 := fun h => hgo ⟨h, hi1⟩
        have heb : (er1 == 0) = false := by rw [beq_eq_false_iff_ne]; exact he1
        have hlti : (i : Int) < (n : Int) := by omega
        go_wp2
        refine bodyPost_end (v := .tuple #[]) (results_none rfl _ _ _) rfl ?_
        exact ⟨{ m with imports := l, vi := v }, q1, er1, a1, rfl, HR1.out, HM1.out, hZ1.out _ _ _ _ (Cu.stay _ _ he1)⟩
      · have hlti : ¬ (i : Int) < (n : Int) := by omega
        go_wp2
        refine bodyPost_end (v := .tuple #[]) (results_none rfl _ _ _) rfl ?_
        refine ⟨{ m with imports := l, vi := v }, q1, er1, a1, rfl, HR1.out, HM1.out, hZ1.out _ _ _ _ ?_⟩
        rw [show n - i = 0 by omega]
        exact Cu.pure _ _
end
end Go.Proofs.Qxb6500275aGreatDoor
