import Derived.Test.Qxb6500275aGreatDoorBs0
import Derived.Test.Qxb6500275aGreatDoorBb2
set_option maxRecDepth 100000
set_option linter.unusedVariables false
set_option linter.unusedSimpArgs false
namespace Go.Proofs.Qxb6500275aGreatDoor
open Go Go.RowKit
section
variable {w w' w1 : World} {b : Nat} {s : ByteArray} {p e : Nat} {er : Int} {a : Nat} {mb : Nat} {m m1 : MT}
theorem Mw.num (h : Mw w mb m) {j : Nat} {v : Value} {m' : MT} (hr : m'.rows = m.rows) (hj : ∃ u, w.cell? ⟨mb, j, none⟩ = some u)
    (hc : (∀ o, (w.setCell ⟨mb, j, none⟩ v).cell? ⟨mb, o, none⟩ = if o = j then some v else w.cell? ⟨mb, o, none⟩) → ((w.setCell ⟨mb, j, none⟩ v).cell? ⟨mb, 0, none⟩ = some m'.vt ∧ (w.setCell ⟨mb, j, none⟩ v).cell? ⟨mb, 1, none⟩ = some m'.vi ∧ (w.setCell ⟨mb, j, none⟩ v).cell? ⟨mb, 2, none⟩ = some m'.vf ∧ (w.setCell ⟨mb, j, none⟩ v).cell? ⟨mb, 3, none⟩ = some (.int .i64 m'.tabMin) ∧ (w.setCell ⟨mb, j, none⟩ v).cell? ⟨mb, 4, none⟩ = some (.int .i64 m'.tabMax) ∧ (w.setCell ⟨mb, j, none⟩ v).cell? ⟨mb, 5, none⟩ = some (.int .i64 m'.memMin) ∧ (w.setCell ⟨mb, j, none⟩ v).cell? ⟨mb, 6, none⟩ = some (.int .i64 m'.memMax) ∧ (w.setCell ⟨mb, j, none⟩ v).cell? ⟨mb, 7, none⟩ = some m'.vg ∧ (w.setCell ⟨mb, j, none⟩ v).cell? ⟨mb, 8, none⟩ = some m'.vx ∧ (w.setCell ⟨mb, j, none⟩ v).cell? ⟨mb, 9, none⟩ = some (.int .i64 m'.start) ∧ (w.setCell ⟨mb, j, none⟩ v).cell? ⟨mb, 10, none⟩ = some m'.ve ∧ (w.setCell ⟨mb, j, none⟩ v).cell? ⟨mb, 11, none⟩ = some m'.vd)) :
    Mw (w.setCell ⟨mb, j, none⟩ v) mb m' ∧ Kp (MwB mb m) w (w.setCell ⟨mb, j, none⟩ v) ∧ MwO w mb m m' := by
  have hcs : ∀ o, (w.setCell ⟨mb, j, none⟩ v).cell? ⟨mb, o, none⟩ = if o = j then some v else w.cell? ⟨mb, o, none⟩ := fun o => by
    obtain ⟨u, hu⟩ := hj
    by_cases e : o = j
    · subst e
      rw [if_pos rfl]
      simp [hu, go_sem]
    · rw [if_neg e]
      simp [e, go_sem]
  obtain ⟨q0, q1, q2, q3, q4, q5, q6, q7, q8, q9, q10, q11⟩ := hc hcs
  refine ⟨⟨q0, q1, q2, q3, q4, q5, q6, q7, q8, q9, q10, q11, fun i => ?_, ?_, fun r hr2 => h.ne r (by rw [← hr]; exact hr2)⟩, ?_, fun k hk => ?_⟩
  · rw [World.frozen?_setCell]
    exact h.fz i
  · rw [hr]
    exact ⟨fun x hx => OR.other (h.rows.ok x hx) (fun k e1 e2 => h.ne x hx (by rw [← e2]; exact e1)) _, h.rows.dj⟩
  · exact (Kp.refl _ _).setCell (p := ⟨mb, j, none⟩) (.inl (.inl rfl)) v
  · rcases hk with e | ⟨r, h1, h2⟩
    · exact .inl (.inl e)
    · exact .inl (.inr ⟨r, by rw [← hr]; exact h1, h2⟩)
theorem Ms1.num2 (h : Ms1 w w1 b mb m m1) (lo hi : Int) : Ms1 w ((w1.setCell ⟨mb, 3, none⟩ (.int .i64 lo)).setCell ⟨mb, 4, none⟩ (.int .i64 hi)) b mb m { m1 with tabMin := lo, tabMax := hi } ∧ Kp (MwB mb m1) w1 ((w1.setCell ⟨mb, 3, none⟩ (.int .i64 lo)).setCell ⟨mb, 4, none⟩ (.int .i64 hi)) := by
  obtain ⟨n1, n2, n3⟩ := h.mw.num (j := 3) (v := .int .i64 lo) (m' := { m1 with tabMin := lo }) rfl ⟨_, h.mw.c3⟩ (fun hc => ⟨(hc 0).trans h.mw.c0, (hc 1).trans h.mw.c1, (hc 2).trans h.mw.c2, (hc 3).trans rfl, (hc 4).trans h.mw.c4, (hc 5).trans h.mw.c5, (hc 6).trans h.mw.c6, (hc 7).trans h.mw.c7, (hc 8).trans h.mw.c8, (hc 9).trans h.mw.c9, (hc 10).trans h.mw.c10, (hc 11).trans h.mw.c11⟩)
  obtain ⟨k1, k2, k3⟩ := n1.num (j := 4) (v := .int .i64 hi) (m' := { m1 with tabMin := lo, tabMax := hi }) rfl ⟨_, n1.c4⟩ (fun hc => ⟨(hc 0).trans n1.c0, (hc 1).trans n1.c1, (hc 2).trans n1.c2, (hc 3).trans n1.c3, (hc 4).trans rfl, (hc 5).trans n1.c5, (hc 6).trans n1.c6, (hc 7).trans n1.c7, (hc 8).trans n1.c8, (hc 9).trans n1.c9, (hc 10).trans n1.c10, (hc 11).trans n1.c11⟩)
  exact ⟨(h.step n1 n2 n3).step k1 k2 k3, n2.later k2 (fun j hj => n3 j hj)⟩
theorem Ms1.num5 (h : Ms1 w w1 b mb m m1) (lo hi : Int) : Ms1 w ((w1.setCell ⟨mb, 5, none⟩ (.int .i64 lo)).setCell ⟨mb, 6, none⟩ (.int .i64 hi)) b mb m { m1 with memMin := lo, memMax := hi } ∧ Kp (MwB mb m1) w1 ((w1.setCell ⟨mb, 5, none⟩ (.int .i64 lo)).setCell ⟨mb, 6, none⟩ (.int .i64 hi)) := by
  obtain ⟨n1, n2, n3⟩ := h.mw.num (j := 5) (v := .int .i64 lo) (m' := { m1 with memMin := lo }) rfl ⟨_, h.mw.c5⟩ (fun hc => ⟨(hc 0).trans h.mw.c0, (hc 1).trans h.mw.c1, (hc 2).trans h.mw.c2, (hc 3).trans h.mw.c3, (hc 4).trans h.mw.c4, (hc 5).trans rfl, (hc 6).trans h.mw.c6, (hc 7).trans h.mw.c7, (hc 8).trans h.mw.c8, (hc 9).trans h.mw.c9, (hc 10).trans h.mw.c10, (hc 11).trans h.mw.c11⟩)
  obtain ⟨k1, k2, k3⟩ := n1.num (j := 6) (v := .int .i64 hi) (m' := { m1 with memMin := lo, memMax := hi }) rfl ⟨_, n1.c6⟩ (fun hc => ⟨(hc 0).trans n1.c0, (hc 1).trans n1.c1, (hc 2).trans n1.c2, (hc 3).trans n1.c3, (hc 4).trans n1.c4, (hc 5).trans n1.c5, (hc 6).trans rfl, (hc 7).trans n1.c7, (hc 8).trans n1.c8, (hc 9).trans n1.c9, (hc 10).trans n1.c10, (hc 11).trans n1.c11⟩)
  exact ⟨(h.step n1 n2 n3).step k1 k2 k3, n2.later k2 (fun j hj => n3 j hj)⟩
theorem Ms1.num9 (h : Ms1 w w1 b mb m m1) (z : Int) : Ms1 w (w1.setCell ⟨mb, 9, none⟩ (.int .i64 z)) b mb m { m1 with start := z } ∧ Kp (MwB mb m1) w1 (w1.setCell ⟨mb, 9, none⟩ (.int .i64 z)) := by
  obtain ⟨n1, n2, n3⟩ := h.mw.num (j := 9) (v := .int .i64 z) (m' := { m1 with start := z }) rfl ⟨_, h.mw.c9⟩ (fun hc => ⟨(hc 0).trans h.mw.c0, (hc 1).trans h.mw.c1, (hc 2).trans h.mw.c2, (hc 3).trans h.mw.c3, (hc 4).trans h.mw.c4, (hc 5).trans h.mw.c5, (hc 6).trans h.mw.c6, (hc 7).trans h.mw.c7, (hc 8).trans h.mw.c8, (hc 9).trans rfl, (hc 10).trans h.mw.c10, (hc 11).trans h.mw.c11⟩)
  exact ⟨h.step n1 n2 n3, n2⟩
theorem sec8_b {M : Mod} {ty : List Int} : scQ (sec8 s p e M ty) = bindQ (u32S s p e) fun x => .ok ({ M with start := x.1 }, x.2) := by
  unfold scQ sec8
  simp only [bindR_Q]
  cases u32S s p e <;> rfl
set_option maxHeartbeats 8000000 in
theorem sec8_m (h : Rc w b s p e er a) (hM : Mw w mb m) (hne : ¬ MwB mb m b) (ty : List Int) : Calls Tryz.prog 187 #[.pointer (some ⟨b, 0, none⟩), .int .i64 8, .pointer (some ⟨mb, 0, none⟩)] w (Scq (scQ (sec8 s p e m.mod ty)) b s e er a mb m w) := by
  have hlt : b < w.heap.size := lt_of_cell h.c0
  have HS : Hid (Ms1 w w b mb m m) := Ms1.start hM hne hlt
  have HC := u32_m h
  rw [sec8_b]
  clear h hM hne
  go_enter Tryz.func187, Tryz.ntmps187
  go_wp2_with fail
  refine HC.mono ?_
  rintro en w2 ⟨v, q, er', a', rfl, hR, hK, hB, hC⟩
  have hM2 := HS.out.cur hK
  obtain ⟨hM3, hK3⟩ := hM2.num9 v
  have HM3 : Hid _ := hM3
  have HR3 : Hid _ := hR.keep hK3 hM2.ne
  have HCC : Hid (Cu (bindQ (u32S s p e) fun x => (.ok ({ m.mod with start := x.1 }, x.2) : R Mod)) er a { m.mod with start := v } q er' a') := hC.out.trans (Cu.pure _ _)
  have c9 := hM2.mw.c9
  have f9 := hM2.mw.fz 9
  clear hM2 hM3 hK3 hR hK hB hC HC HS
  unfold encI8
  go_wp2
  refine bodyPost_end (v := .tuple #[]) (results_none rfl _ _ _) rfl ?_
  exact ⟨{ m with start := v }, q, er', a', rfl, HR3.out, HM3.out, HCC.out⟩
theorem sec4_b {M : Mod} {ty : List Int} : scQ (sec4 s p e M ty) = bindQ (countS s p e 1) fun n => if n.1 = 1 then bindQ (fixedS s n.2 e 112) fun a => bindQ (limitsS s a.2 e) fun x => .ok ({ M with tabMin := x.1.1, tabMax := x.1.2 }, x.2) else .ok (M, n.2) := by
  unfold scQ sec4
  simp only [bindR_Q]
  cases countS s p e 1 with
  | error f => rfl
  | ok n =>
    show bindQ (if n.1 = 1 then _ else _) _ = (if n.1 = 1 then _ else _)
    by_cases h : n.1 = 1
    · rw [if_pos h, if_pos h]
      cases fixedS s n.2 e 112 with
      | error f => rfl
      | ok y =>
        show bindQ (bindQ (limitsS s y.2 e) _) _ = bindQ (limitsS s y.2 e) _
        cases limitsS s y.2 e <;> rfl
    · rw [if_neg h, if_neg h]
      rfl
theorem sec5_b {M : Mod} {ty : List Int} : scQ (sec5 s p e M ty) = bindQ (countS s p e 1) fun n => if n.1 = 1 then bindQ (limitsS s n.2 e) fun x => .ok ({ M with memMin := x.1.1, memMax := x.1.2 }, x.2) else .ok (M, n.2) := by
  unfold scQ sec5
  simp only [bindR_Q]
  cases countS s p e 1 with
  | error f => rfl
  | ok n =>
    show bindQ (if n.1 = 1 then _ else _) _ = (if n.1 = 1 then _ else _)
    by_cases h : n.1 = 1
    · rw [if_pos h, if_pos h]
      cases limitsS s n.2 e <;> rfl
    · rw [if_neg h, if_neg h]
      rfl
set_option maxHeartbeats 8000000 in
theorem sec4_m (h : Rc w b s p e er a) (hM : Mw w mb m) (hne : ¬ MwB mb m b) (ty : List Int) : Calls Tryz.prog 187 #[.pointer (some ⟨b, 0, none⟩), .int .i64 4, .pointer (some ⟨mb, 0, none⟩)] w (Scq (scQ (sec4 s p e m.mod ty)) b s e er a mb m w) := by
  have hlt : b < w.heap.size := lt_of_cell h.c0
  have HS : Hid (Ms1 w w b mb m m) := Ms1.start hM hne hlt
  have HC := count_m h 1 (by decide)
  rw [sec4_b]
  obtain ⟨X, hX⟩ : ∃ X : R Mod, (bindQ (countS s p e 1) fun n => if n.1 = 1 then bindQ (fixedS s n.2 e 112) fun a => bindQ (limitsS s a.2 e) fun x => .ok ({ m.mod with tabMin := x.1.1, tabMax := x.1.2 }, x.2) else .ok (m.mod, n.2)) = X := ⟨_, rfl⟩
  rw [hX]
  have HX : Hid _ := hX
  clear h hM hne hX
  go_enter Tryz.func187, Tryz.ntmps187
  go_wp2_with fail
  refine HC.mono ?_
  rintro en w2 ⟨v, q, er', a', rfl, hR, hK, hB, hC⟩
  have hM2 := HS.out.cur hK
  unfold encI8
  by_cases h1 : v = 1
  · subst h1
    have HF := fixed_m hR 112 (by decide)
    have HM2 : Hid _ := hM2
    have HC2 : Hid (∀ y q2 er2 a2, Cu (bindQ (fixedS s q e 112) fun a => bindQ (limitsS s a.2 e) fun x => (.ok ({ m.mod with tabMin := x.1.1, tabMax := x.1.2 }, x.2) : R Mod)) er' a' y q2 er2 a2 → Cu X er a y q2 er2 a2) := fun y q2 er2 a2 hz => by
      rw [← HX.out]
      exact hC.out.trans (by rw [if_pos rfl]; exact hz)
    clear hR hK hC hM2 HC hB
    go_wp2_with fail
    refine HF.mono ?_
    rintro en w3 ⟨_, q3, er3, a3, rfl, hR3, hK3, _, hC3⟩
    have HL := limits_m hR3
    have hM3 := HM2.out.cur hK3
    have HM3 : Hid _ := hM3
    clear hR3 hK3 hM3 HF
    unfold encN
    go_wp2_with fail
    refine HL.mono ?_
    rintro en w4 ⟨x, q4, er4, a4, rfl, hR4, hK4, hB4, hC4⟩
    have hM4 := HM3.out.cur hK4
    obtain ⟨hM5, hK5⟩ := hM4.num2 x.1 x.2
    have HM5 : Hid _ := hM5
    have HR5 : Hid _ := hR4.keep hK5 hM4.ne
    have d3 := hM4.mw.c3
    have d4 := hM4.mw.c4
    have g3 := hM4.mw.fz 3
    have g4 := hM4.mw.fz 4
    have HCC : Hid (Cu X er a { m.mod with tabMin := x.1, tabMax := x.2 } q4 er4 a4) := HC2.out _ _ _ _ (hC3.out.trans (hC4.out.trans (Cu.pure _ _)))
    clear hM4 hM5 hK5 hR4 hK4 hB4 hC4 hC3 HL HC2
    unfold encL8
    go_wp2
    refine bodyPost_end (v := .tuple #[]) (results_none rfl _ _ _) rfl ?_
    exact ⟨{ m with tabMin := x.1, tabMax := x.2 }, q4, er4, a4, rfl, HR5.out, HM5.out, HCC.out⟩
  · have hb1 : (v == 1) = false := by rw [beq_eq_false_iff_ne]; exact h1
    have HM2 : Hid _ := hM2
    have HR2 : Hid _ := hR
    have HCC : Hid (Cu X er a m.mod q er' a') := by
      rw [← HX.out]
      exact hC.out.trans (by rw [if_neg h1]; exact Cu.pure _ _)
    clear hR hK hC hM2 HC hB h1
    go_wp2
    refine bodyPost_end (v := .tuple #[]) (results_none rfl _ _ _) rfl ?_
    exact ⟨m, q, er', a', rfl, HR2.out, HM2.out, HCC.out⟩
set_option maxHeartbeats 8000000 in
theorem sec5_m (h : Rc w b s p e er a) (hM : Mw w mb m) (hne : ¬ MwB mb m b) (ty : List Int) : Calls Tryz.prog 187 #[.pointer (some ⟨b, 0, none⟩), .int .i64 5, .pointer (some ⟨mb, 0, none⟩)] w (Scq (scQ (sec5 s p e m.mod ty)) b s e er a mb m w) := by
  have hlt : b < w.heap.size := lt_of_cell h.c0
  have HS : Hid (Ms1 w w b mb m m) := Ms1.start hM hne hlt
  have HC := count_m h 1 (by decide)
  rw [sec5_b]
  obtain ⟨X, hX⟩ : ∃ X : R Mod, (bindQ (countS s p e 1) fun n => if n.1 = 1 then bindQ (limitsS s n.2 e) fun x => .ok ({ m.mod with memMin := x.1.1, memMax := x.1.2 }, x.2) else .ok (m.mod, n.2)) = X := ⟨_, rfl⟩
  rw [hX]
  have HX : Hid _ := hX
  clear h hM hne hX
  go_enter Tryz.func187, Tryz.ntmps187
  go_wp2_with fail
  refine HC.mono ?_
  rintro en w2 ⟨v, q, er', a', rfl, hR, hK, hB, hC⟩
  have hM2 := HS.out.cur hK
  unfold encI8
  by_cases h1 : v = 1
  · subst h1
    have HL := limits_m hR
    have HM3 : Hid _ := hM2
    have HC2 : Hid (∀ y q2 er2 a2, Cu (bindQ (limitsS s q e) fun x => (.ok ({ m.mod with memMin := x.1.1, memMax := x.1.2 }, x.2) : R Mod)) er' a' y q2 er2 a2 → Cu X er a y q2 er2 a2) := fun y q2 er2 a2 hz => by
      rw [← HX.out]
      exact hC.out.trans (by rw [if_pos rfl]; exact hz)
    clear hR hK hC hM2 HC hB
    go_wp2_with fail
    refine HL.mono ?_
    rintro en w4 ⟨x, q4, er4, a4, rfl, hR4, hK4, hB4, hC4⟩
    have hM4 := HM3.out.cur hK4
    obtain ⟨hM5, hK5⟩ := hM4.num5 x.1 x.2
    have HM5 : Hid _ := hM5
    have HR5 : Hid _ := hR4.keep hK5 hM4.ne
    have d5 := hM4.mw.c5
    have d6 := hM4.mw.c6
    have g5 := hM4.mw.fz 5
    have g6 := hM4.mw.fz 6
    have HCC : Hid (Cu X er a { m.mod with memMin := x.1, memMax := x.2 } q4 er4 a4) := HC2.out _ _ _ _ (hC4.out.trans (Cu.pure _ _))
    clear hM4 hM5 hK5 hR4 hK4 hB4 hC4 HL HC2
    unfold encL8
    go_wp2
    refine bodyPost_end (v := .tuple #[]) (results_none rfl _ _ _) rfl ?_
    exact ⟨{ m with memMin := x.1, memMax := x.2 }, q4, er4, a4, rfl, HR5.out, HM5.out, HCC.out⟩
  · have hb1 : (v == 1) = false := by rw [beq_eq_false_iff_ne]; exact h1
    have HM2 : Hid _ := hM2
    have HR2 : Hid _ := hR
    have HCC : Hid (Cu X er a m.mod q er' a') := by
      rw [← HX.out]
      exact hC.out.trans (by rw [if_neg h1]; exact Cu.pure _ _)
    clear hR hK hC hM2 HC hB h1
    go_wp2
    refine bodyPost_end (v := .tuple #[]) (results_none rfl _ _ _) rfl ?_
    exact ⟨m, q, er', a', rfl, HR2.out, HM2.out, HCC.out⟩
end
end Go.Proofs.Qxb6500275aGreatDoor
