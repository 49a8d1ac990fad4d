import Derived.Test.Qxb6500275aGreatDoorBi5
import Derived.Test.Qxb6500275aGreatDoorSec0
import Derived.Deep.QuietTactic
import Derived.BigQuiet
set_option maxRecDepth 100000
set_option linter.unusedVariables false
set_option linter.unusedSimpArgs false
namespace Go.Proofs.Qxb6500275aGreatDoor
open Go Go.RowKit
theorem bindR_Q {α β : Type} (o : Except (Int × Nat) α) (k : α → Except (Int × Nat) β) : bindR o k = bindQ o k := by cases o <;> rfl
theorem rest1_c {s : ByteArray} {q e op at_ : Nat} (h : 65 ≤ op ∧ op ≤ 68) : rest1 s q e op at_ = bindQ (cS s q e op) fun y => .ok (⟨op, 0, y.1⟩, y.2) := by
  unfold rest1
  repeat (first | rw [if_neg (by omega)] | rw [if_pos (by omega)])
theorem conS_b (s : ByteArray) (p e : Nat) : conS s p e = bindQ (nextS s p e) (fun x => if x.1 < 65 ∨ 68 < x.1 then .error (13, p) else bindQ (rest1 s x.2 e x.1 p) fun y => bindQ (nextS s y.2 e) fun z => if z.1 = 11 then .ok (y.1, z.2) else .error (13, y.2)) := by
  unfold conS nextS
  by_cases h : p < e
  · rw [if_pos h, if_pos h]
    show _ = (if bAt s p < 65 ∨ 68 < bAt s p then _ else _)
    by_cases h2 : bAt s p < 65 ∨ 68 < bAt s p
    · rw [if_pos h2, if_pos h2]
    · rw [if_neg h2, if_neg h2]
      dsimp only
      rw [rest1_c (by omega), bindR_Q]
      cases cS s (p + 1) e (bAt s p) with
      | error f => rfl
      | ok y =>
        unfold bindQ
        dsimp only
        by_cases h3 : y.2 < e
        · rw [if_pos h3, if_pos h3]
        · rw [if_neg h3, if_neg h3]
  · rw [if_neg h, if_neg h]
    rfl
section
variable {w w' : World} {b : Nat} {s : ByteArray} {p e : Nat} {er : Int} {a : Nat}
/- the end of 'constant' -/
theorem con_end {α : Type} {enc : α → Value} {w4 wf : World} {n4 q a' : Nat} {er' : Int} {x : α} {o : R α} {en : Ending} (hen : en = .returned (enc x)) (hR : Rc w4 b s q e er' a') (hK : Kp (· = b) w w4) (hS : Kp (fun k => k = n4) w4 wf) (h4 : w.heap.size ≤ n4) (hb : b < w.heap.size) (hC : Cu o er a x q er' a') : Cm enc (fun _ => True) o b s e er a w en wf :=
  ins_end (n7 := n4) hen hR hK (hS.mono (fun k h => .inl h)) h4 h4 hb hC
set_option maxHeartbeats 4000000 in
theorem con_bad (h : Rc w b s p e 0 a) (hp : p < e) (ho : bAt s p < 65 ∨ 68 < bAt s p) : Calls Tryz.prog 248 #[.pointer (some ⟨b, 0, none⟩)] w (Cm Ins.val (fun _ => True) (conS s p e) b s e 0 a w) := by
  obtain ⟨c0, c1, c2, c3, c4, ⟨⟨f1, f2⟩, f3, f4⟩, le, es, sz, al⟩ := id h
  have hlt : b < w.heap.size := lt_of_cell h.c0
  obtain ⟨W, hW⟩ : ∃ W, w.alloc (.cells #[.int .u8 0, .int .u32 0, .int .u64 0] 129) = W := ⟨_, rfl⟩
  have hKW : Kp (fun _ => False) w W := by rw [← hW]; exact (Kp.refl _ _).alloc _
  have hRW := h.keep hKW (fun h => h)
  have HRW : Hid _ := hRW
  have HKW : Hid _ := hKW
  have H4 : Hid (C3 W w.heap.size (.int .u8 0) (.int .u32 0) (.int .u64 0)) := by rw [← hW]; exact C3.new w _ _ _ _
  have d0 := hRW.c0
  have d1 := hRW.c1
  have d2 := hRW.c2
  have d3 := hRW.c3
  clear hRW hKW c0 c1 c2 c3 c4 f1 f2 f3 f4
  have hX : conS s p e = .error (13, p) := by unfold conS; rw [if_pos hp, if_pos ho]
  have hps : p < s.size := by omega
  have hbg := bAt_get s p hps
  have HF : Hid (∀ u, Kp (fun _ => False) w u → _) := fun u (hu : Kp (fun _ => False) w u) => fail_m (h.keep hu (fun h => h)) 13 p (by omega)
  rw [hX]
  clear hX h
  have hpe : decide ((p : Int) < (e : Int)) = true := by simp; omega
  have hpe2 : decide (p < e) = true := by simp; omega
  by_cases ho1 : bAt s p < 65
  · have ho2 : decide ((s[p].toNat : Int) < 65) = true := by simp; omega
    clear ho ho1 hbg
    go_enter Tryz.func248, Tryz.ntmps248
    go_wp2_with fail
    clear hW
    go_quiet (fail)
    go_wp2_with fail
    refine (HF.out _ (HKW.out.drewM _)).mono ?_
    rintro en w6 ⟨er2, a2, rfl, hR6, hK6, hF⟩
    have H4n := (H4.out.keep ((Kp.refl (fun _ => False) W).drewM _) (fun h => h)).keep hK6 (fun h => by have : w.heap.size = b := h; omega)
    have HK6 : Hid (Kp (· = b) w w6) := ((HKW.out.mono (fun _ h => h.elim)).drewM _).trans hK6
    have HR6 : Hid _ := hR6
    clear hR6 hK6 d0 d1 d2 d3
    obtain ⟨g0, g1, g2, f0, f1, f2⟩ := H4n
    go_wp2
    refine bodyPost_ret (v := .agg #[.int .u8 0, .int .u32 0, .int .u64 0]) (by simp [results, Tryz.results248, go_sem, g0, g1, g2]) rfl ?_
    exact con_end (x := (⟨0, 0, 0⟩ : Ins)) (w4 := w6) (n4 := w.heap.size) rfl HR6.out HK6.out (by repeat (first | exact Kp.refl _ _ | refine Kp.setCell ?_ (.inl (by rfl)) _)) (Nat.le_refl _) hlt (Cu.fail _ _ hF.out (by decide))
  · have ho2 : decide ((s[p].toNat : Int) < 65) = false := by simp; omega
    have ho3 : decide (68 < (s[p].toNat : Int)) = true := by simp; omega
    clear ho ho1 hbg
    go_enter Tryz.func248, Tryz.ntmps248
    go_wp2_with fail
    clear hW
    go_quiet (fail)
    go_wp2_with fail
    refine (HF.out _ (HKW.out.drewM _)).mono ?_
    rintro en w6 ⟨er2, a2, rfl, hR6, hK6, hF⟩
    have H4n := (H4.out.keep ((Kp.refl (fun _ => False) W).drewM _) (fun h => h)).keep hK6 (fun h => by have : w.heap.size = b := h; omega)
    have HK6 : Hid (Kp (· = b) w w6) := ((HKW.out.mono (fun _ h => h.elim)).drewM _).trans hK6
    have HR6 : Hid _ := hR6
    clear hR6 hK6 d0 d1 d2 d3
    obtain ⟨g0, g1, g2, f0, f1, f2⟩ := H4n
    go_wp2
    refine bodyPost_ret (v := .agg #[.int .u8 0, .int .u32 0, .int .u64 0]) (by simp [results, Tryz.results248, go_sem, g0, g1, g2]) rfl ?_
    exact con_end (x := (⟨0, 0, 0⟩ : Ins)) (w4 := w6) (n4 := w.heap.size) rfl HR6.out HK6.out (by repeat (first | exact Kp.refl _ _ | refine Kp.setCell ?_ (.inl (by rfl)) _)) (Nat.le_refl _) hlt (Cu.fail _ _ hF.out (by decide))
set_option maxHeartbeats 4000000 in
theorem con_go1 (h : Rc w b s p e er a) (he : er ≠ 0) (HI : Hid (∀ u, Kp (fun _ => False) w u → Calls Tryz.prog 268 #[.pointer (some ⟨b, 0, none⟩), .pointer none] u (fun en w' => ∃ x q1 er1 a1, en = .returned (Ins.val x) ∧ Rc w' b s q1 e er1 a1 ∧ Kp (· = b) u w' ∧ Hid (∀ x2 q2 er2 a2, Cu (bindQ (nextS s q1 e) fun z => if z.1 = 11 then (.ok (x, z.2) : R Ins) else .error (13, q1)) er1 a1 x2 q2 er2 a2 → Cu (conS s p e) er a x2 q2 er2 a2)))) : Calls Tryz.prog 248 #[.pointer (some ⟨b, 0, none⟩)] w (Cm Ins.val (fun _ => True) (conS s p e) b s e er a w) := by
  obtain ⟨c0, c1, c2, c3, c4, ⟨⟨f1, f2⟩, f3, f4⟩, le, es, sz, al⟩ := id h
  have hlt : b < w.heap.size := lt_of_cell h.c0
  obtain ⟨W, hW⟩ : ∃ W, w.alloc (.cells #[.int .u8 0, .int .u32 0, .int .u64 0] 129) = W := ⟨_, rfl⟩
  have hKW : Kp (fun _ => False) w W := by rw [← hW]; exact (Kp.refl _ _).alloc _
  have hRW := h.keep hKW (fun h => h)
  have HRW : Hid _ := hRW
  have HKW : Hid _ := hKW
  have H4 : Hid (C3 W w.heap.size (.int .u8 0) (.int .u32 0) (.int .u64 0)) := by rw [← hW]; exact C3.new w _ _ _ _
  have d0 := hRW.c0
  have d1 := hRW.c1
  have d2 := hRW.c2
  have d3 := hRW.c3
  clear hRW hKW c0 c1 c2 c3 c4 f1 f2 f3 f4
  have heb : (er == 0) = false := by rw [beq_eq_false_iff_ne]; exact he
  clear h
  try clear he
  go_enter Tryz.func248, Tryz.ntmps248
  go_wp2_with fail
  clear hW
  go_quiet (fail)
  go_wp2_with fail
  refine (HI.out _ (HKW.out.drewM _)).mono ?_
  rintro en w4 ⟨x, q1, er1, a1, rfl, hR4, hK4, hZ4⟩
  have H4n := (H4.out.keep ((Kp.refl (fun _ => False) W).drewM _) (fun h => h)).keep hK4 (fun h => by have : w.heap.size = b := h; omega)
  have HK4 : Hid (Kp (· = b) w w4) := ((HKW.out.mono (fun _ h => h.elim)).drewM _).trans hK4
  have hs4 : w.heap.size < w4.heap.size := H4n.lt
  obtain ⟨W4, hW4⟩ : ∃ W4, w4.alloc (.cells #[.int .u8 (x.op : Int), .int .u32 x.x, .int .u64 x.y] 129) = W4 := ⟨_, rfl⟩
  have hKW4 : Kp (fun _ => False) w4 W4 := by rw [← hW4]; exact (Kp.refl _ _).alloc _
  have H7 : C3 W4 w4.heap.size (.int .u8 (x.op : Int)) (.int .u32 x.x) (.int .u64 x.y) := by rw [← hW4]; exact C3.new w4 _ _ _ _
  have hRW4 := hR4.keep hKW4 (fun h => h)
  have H4W := H4n.keep hKW4 (fun h => h)
  have k1 := hRW4.c1
  have hq1 : q1 ≤ 1024 := by have := hRW4.le; have := hRW4.es; have := hRW4.sz; omega
  have HB := byte_m hRW4
  have H7' : Hid _ := H7
  have H4' : Hid _ := H4W
  have HKW4 : Hid (Kp (· = b) w W4) := HK4.out.trans (hKW4.mono (fun _ h => h.elim))
  clear hRW4 H7 H4W hKW4 HK4 H4n hR4 hK4 d0 d1 d2 d3
  unfold Ins.val
  go_wp2_with fail
  clear hW4 k1
  refine HB.mono ?_
  rintro en w5 ⟨v, q5, er5, a5, rfl, hR5, hK5, hB5, hC5⟩
  have H75 := H7'.out.keep hK5 (fun h => by have : w4.heap.size = b := h; omega)
  have H45 := H4'.out.keep hK5 (fun h => by have : w.heap.size = b := h; omega)
  have HK5 : Hid (Kp (· = b) w w5) := HKW4.out.trans hK5
  have HF := fail_m hR5 13 q1 hq1
  have HR5 : Hid _ := hR5
  have H75' : Hid _ := H75
  have H45' : Hid _ := H45
  unfold encN8
  clear hR5 hK5 HB
  by_cases hv : v = 11
  · subst hv
    have HC : Hid (Cu (conS s p e) er a x q5 er5 a5) := hZ4.out _ _ _ _ (hC5.out.trans (by rw [if_pos rfl]; exact Cu.pure _ _))
    obtain ⟨g0, g1, g2, f0, f1, f2⟩ := H45
    obtain ⟨x0, x1, x2, v0, v1, v2⟩ := H75
    clear HF hC5
    go_wp2
    refine bodyPost_ret (v := .agg #[.int .u8 (x.op : Int), .int .u32 x.x, .int .u64 x.y]) (by simp [results, Tryz.results248, go_sem, g0, g1, g2]) rfl ?_
    exact con_end (x := x) (w4 := w5) (n4 := w.heap.size) rfl HR5.out HK5.out (by repeat (first | exact Kp.refl _ _ | refine Kp.setCell ?_ (.inl (by rfl)) _)) (Nat.le_refl _) hlt HC.out
  · have HC : Hid (∀ er6 a6, Flq er5 a5 13 q1 er6 a6 → Cu (conS s p e) er a x q5 er6 a6) := fun er6 a6 hf => hZ4.out _ _ _ _ (hC5.out.trans (by rw [if_neg hv]; exact Cu.fail _ _ hf (by decide)))
    have e1 : ((v : Int) == 11) = false := by rw [beq_eq_false_iff_ne]; omega
    have e2 : ((v : Int) != 11) = true := by simp; omega
    clear hv hC5 H75 H45
    go_wp2_with fail
    refine HF.mono ?_
    rintro en w6 ⟨er6, a6, rfl, hR6, hK6, hF⟩
    have H76 := H75'.out.keep hK6 (fun h => by have : w4.heap.size = b := h; omega)
    have H46 := H45'.out.keep hK6 (fun h => by have : w.heap.size = b := h; omega)
    have HK6 : Hid (Kp (· = b) w w6) := HK5.out.trans hK6
    have HR6 : Hid _ := hR6
    have HC6 : Hid (Cu (conS s p e) er a x q5 er6 a6) := HC.out _ _ hF.out
    clear hR6 hK6 hF
    obtain ⟨g0, g1, g2, f0, f1, f2⟩ := H46
    obtain ⟨x0, x1, x2, v0, v1, v2⟩ := H76
    go_wp2
    refine bodyPost_ret (v := .agg #[.int .u8 (x.op : Int), .int .u32 x.x, .int .u64 x.y]) (by simp [results, Tryz.results248, go_sem, g0, g1, g2]) rfl ?_
    exact con_end (x := x) (w4 := w6) (n4 := w.heap.size) rfl HR6.out HK6.out (by repeat (first | exact Kp.refl _ _ | refine Kp.setCell ?_ (.inl (by rfl)) _)) (Nat.le_refl _) hlt HC6.out
set_option maxHeartbeats 4000000 in
theorem con_go2 (h : Rc w b s p e er a) (he : er = 0) (hp : ¬ p < e) (HI : Hid (∀ u, Kp (fun _ => False) w u → Calls Tryz.prog 268 #[.pointer (some ⟨b, 0, none⟩), .pointer none] u (fun en w' => ∃ x q1 er1 a1, en = .returned (Ins.val x) ∧ Rc w' b s q1 e er1 a1 ∧ Kp (· = b) u w' ∧ Hid (∀ x2 q2 er2 a2, Cu (bindQ (nextS s q1 e) fun z => if z.1 = 11 then (.ok (x, z.2) : R Ins) else .error (13, q1)) er1 a1 x2 q2 er2 a2 → Cu (conS s p e) er a x2 q2 er2 a2)))) : Calls Tryz.prog 248 #[.pointer (some ⟨b, 0, none⟩)] w (Cm Ins.val (fun _ => True) (conS s p e) b s e er a w) := by
  obtain ⟨c0, c1, c2, c3, c4, ⟨⟨f1, f2⟩, f3, f4⟩, le, es, sz, al⟩ := id h
  have hlt : b < w.heap.size := lt_of_cell h.c0
  obtain ⟨W, hW⟩ : ∃ W, w.alloc (.cells #[.int .u8 0, .int .u32 0, .int .u64 0] 129) = W := ⟨_, rfl⟩
  have hKW : Kp (fun _ => False) w W := by rw [← hW]; exact (Kp.refl _ _).alloc _
  have hRW := h.keep hKW (fun h => h)
  have HRW : Hid _ := hRW
  have HKW : Hid _ := hKW
  have H4 : Hid (C3 W w.heap.size (.int .u8 0) (.int .u32 0) (.int .u64 0)) := by rw [← hW]; exact C3.new w _ _ _ _
  have d0 := hRW.c0
  have d1 := hRW.c1
  have d2 := hRW.c2
  have d3 := hRW.c3
  clear hRW hKW c0 c1 c2 c3 c4 f1 f2 f3 f4
  have hd3 : W.cell? ⟨b, 3, none⟩ = some (.int .i64 0) := by rw [d3, he]
  clear d3
  have d3 := hd3
  clear hd3
  have hpe : decide ((p : Int) < (e : Int)) = false := by simp; omega
  have hpe2 : decide (p < e) = false := by simp; omega
  clear h
  try clear he
  go_enter Tryz.func248, Tryz.ntmps248
  go_wp2_with fail
  clear hW
  go_quiet (fail)
  go_wp2_with fail
  refine (HI.out _ (HKW.out.drewM _)).mono ?_
  rintro en w4 ⟨x, q1, er1, a1, rfl, hR4, hK4, hZ4⟩
  have H4n := (H4.out.keep ((Kp.refl (fun _ => False) W).drewM _) (fun h => h)).keep hK4 (fun h => by have : w.heap.size = b := h; omega)
  have HK4 : Hid (Kp (· = b) w w4) := ((HKW.out.mono (fun _ h => h.elim)).drewM _).trans hK4
  have hs4 : w.heap.size < w4.heap.size := H4n.lt
  obtain ⟨W4, hW4⟩ : ∃ W4, w4.alloc (.cells #[.int .u8 (x.op : Int), .int .u32 x.x, .int .u64 x.y] 129) = W4 := ⟨_, rfl⟩
  have hKW4 : Kp (fun _ => False) w4 W4 := by rw [← hW4]; exact (Kp.refl _ _).alloc _
  have H7 : C3 W4 w4.heap.size (.int .u8 (x.op : Int)) (.int .u32 x.x) (.int .u64 x.y) := by rw [← hW4]; exact C3.new w4 _ _ _ _
  have hRW4 := hR4.keep hKW4 (fun h => h)
  have H4W := H4n.keep hKW4 (fun h => h)
  have k1 := hRW4.c1
  have hq1 : q1 ≤ 1024 := by have := hRW4.le; have := hRW4.es; have := hRW4.sz; omega
  have HB := byte_m hRW4
  have H7' : Hid _ := H7
  have H4' : Hid _ := H4W
  have HKW4 : Hid (Kp (· = b) w W4) := HK4.out.trans (hKW4.mono (fun _ h => h.elim))
  clear hRW4 H7 H4W hKW4 HK4 H4n hR4 hK4 d0 d1 d2 d3
  unfold Ins.val
  go_wp2_with fail
  clear hW4 k1
  refine HB.mono ?_
  rintro en w5 ⟨v, q5, er5, a5, rfl, hR5, hK5, hB5, hC5⟩
  have H75 := H7'.out.keep hK5 (fun h => by have : w4.heap.size = b := h; omega)
  have H45 := H4'.out.keep hK5 (fun h => by have : w.heap.size = b := h; omega)
  have HK5 : Hid (Kp (· = b) w w5) := HKW4.out.trans hK5
  have HF := fail_m hR5 13 q1 hq1
  have HR5 : Hid _ := hR5
  have H75' : Hid _ := H75
  have H45' : Hid _ := H45
  unfold encN8
  clear hR5 hK5 HB
  by_cases hv : v = 11
  · subst hv
    have HC : Hid (Cu (conS s p e) er a x q5 er5 a5) := hZ4.out _ _ _ _ (hC5.out.trans (by rw [if_pos rfl]; exact Cu.pure _ _))
    obtain ⟨g0, g1, g2, f0, f1, f2⟩ := H45
    obtain ⟨x0, x1, x2, v0, v1, v2⟩ := H75
    clear HF hC5
    go_wp2
    refine bodyPost_ret (v := .agg #[.int .u8 (x.op : Int), .int .u32 x.x, .int .u64 x.y]) (by simp [results, Tryz.results248, go_sem, g0, g1, g2]) rfl ?_
    exact con_end (x := x) (w4 := w5) (n4 := w.heap.size) rfl HR5.out HK5.out (by repeat (first | exact Kp.refl _ _ | refine Kp.setCell ?_ (.inl (by rfl)) _)) (Nat.le_refl _) hlt HC.out
  · have HC : Hid (∀ er6 a6, Flq er5 a5 13 q1 er6 a6 → Cu (conS s p e) er a x q5 er6 a6) := fun er6 a6 hf => hZ4.out _ _ _ _ (hC5.out.trans (by rw [if_neg hv]; exact Cu.fail _ _ hf (by decide)))
    have e1 : ((v : Int) == 11) = false := by rw [beq_eq_false_iff_ne]; omega
    have e2 : ((v : Int) != 11) = true := by simp; omega
    clear hv hC5 H75 H45
    go_wp2_with fail
    refine HF.mono ?_
    rintro en w6 ⟨er6, a6, rfl, hR6, hK6, hF⟩
    have H76 := H75'.out.keep hK6 (fun h => by have : w4.heap.size = b := h; omega)
    have H46 := H45'.out.keep hK6 (fun h => by have : w.heap.size = b := h; omega)
    have HK6 : Hid (Kp (· = b) w w6) := HK5.out.trans hK6
    have HR6 : Hid _ := hR6
    have HC6 : Hid (Cu (conS s p e) er a x q5 er6 a6) := HC.out _ _ hF.out
    clear hR6 hK6 hF
    obtain ⟨g0, g1, g2, f0, f1, f2⟩ := H46
    obtain ⟨x0, x1, x2, v0, v1, v2⟩ := H76
    go_wp2
    refine bodyPost_ret (v := .agg #[.int .u8 (x.op : Int), .int .u32 x.x, .int .u64 x.y]) (by simp [results, Tryz.results248, go_sem, g0, g1, g2]) rfl ?_
    exact con_end (x := x) (w4 := w6) (n4 := w.heap.size) rfl HR6.out HK6.out (by repeat (first | exact Kp.refl _ _ | refine Kp.setCell ?_ (.inl (by rfl)) _)) (Nat.le_refl _) hlt HC6.out
set_option maxHeartbeats 4000000 in
theorem con_go3 (h : Rc w b s p e er a) (he : er = 0) (hp : p < e) (ho : 65 ≤ bAt s p ∧ bAt s p ≤ 68) (HI : Hid (∀ u, Kp (fun _ => False) w u → Calls Tryz.prog 268 #[.pointer (some ⟨b, 0, none⟩), .pointer none] u (fun en w' => ∃ x q1 er1 a1, en = .returned (Ins.val x) ∧ Rc w' b s q1 e er1 a1 ∧ Kp (· = b) u w' ∧ Hid (∀ x2 q2 er2 a2, Cu (bindQ (nextS s q1 e) fun z => if z.1 = 11 then (.ok (x, z.2) : R Ins) else .error (13, q1)) er1 a1 x2 q2 er2 a2 → Cu (conS s p e) er a x2 q2 er2 a2)))) : Calls Tryz.prog 248 #[.pointer (some ⟨b, 0, none⟩)] w (Cm Ins.val (fun _ => True) (conS s p e) b s e er a w) := by
  obtain ⟨c0, c1, c2, c3, c4, ⟨⟨f1, f2⟩, f3, f4⟩, le, es, sz, al⟩ := id h
  have hlt : b < w.heap.size := lt_of_cell h.c0
  obtain ⟨W, hW⟩ : ∃ W, w.alloc (.cells #[.int .u8 0, .int .u32 0, .int .u64 0] 129) = W := ⟨_, rfl⟩
  have hKW : Kp (fun _ => False) w W := by rw [← hW]; exact (Kp.refl _ _).alloc _
  have hRW := h.keep hKW (fun h => h)
  have HRW : Hid _ := hRW
  have HKW : Hid _ := hKW
  have H4 : Hid (C3 W w.heap.size (.int .u8 0) (.int .u32 0) (.int .u64 0)) := by rw [← hW]; exact C3.new w _ _ _ _
  have d0 := hRW.c0
  have d1 := hRW.c1
  have d2 := hRW.c2
  have d3 := hRW.c3
  clear hRW hKW c0 c1 c2 c3 c4 f1 f2 f3 f4
  have hd3 : W.cell? ⟨b, 3, none⟩ = some (.int .i64 0) := by rw [d3, he]
  clear d3
  have d3 := hd3
  clear hd3
  have hps : p < s.size := by omega
  have hbg := bAt_get s p hps
  have hpe : decide ((p : Int) < (e : Int)) = true := by simp; omega
  have hpe2 : decide (p < e) = true := by simp; omega
  have ho2 : decide ((s[p].toNat : Int) < 65) = false := by simp; omega
  have ho3 : decide (68 < (s[p].toNat : Int)) = false := by simp; omega
  clear ho hbg
  clear h
  try clear he
  go_enter Tryz.func248, Tryz.ntmps248
  go_wp2_with fail
  clear hW
  go_quiet (fail)
  go_wp2_with fail
  refine (HI.out _ (HKW.out.drewM _)).mono ?_
  rintro en w4 ⟨x, q1, er1, a1, rfl, hR4, hK4, hZ4⟩
  have H4n := (H4.out.keep ((Kp.refl (fun _ => False) W).drewM _) (fun h => h)).keep hK4 (fun h => by have : w.heap.size = b := h; omega)
  have HK4 : Hid (Kp (· = b) w w4) := ((HKW.out.mono (fun _ h => h.elim)).drewM _).trans hK4
  have hs4 : w.heap.size < w4.heap.size := H4n.lt
  obtain ⟨W4, hW4⟩ : ∃ W4, w4.alloc (.cells #[.int .u8 (x.op : Int), .int .u32 x.x, .int .u64 x.y] 129) = W4 := ⟨_, rfl⟩
  have hKW4 : Kp (fun _ => False) w4 W4 := by rw [← hW4]; exact (Kp.refl _ _).alloc _
  have H7 : C3 W4 w4.heap.size (.int .u8 (x.op : Int)) (.int .u32 x.x) (.int .u64 x.y) := by rw [← hW4]; exact C3.new w4 _ _ _ _
  have hRW4 := hR4.keep hKW4 (fun h => h)
  have H4W := H4n.keep hKW4 (fun h => h)
  have k1 := hRW4.c1
  have hq1 : q1 ≤ 1024 := by have := hRW4.le; have := hRW4.es; have := hRW4.sz; omega
  have HB := byte_m hRW4
  have H7' : Hid _ := H7
  have H4' : Hid _ := H4W
  have HKW4 : Hid (Kp (· = b) w W4) := HK4.out.trans (hKW4.mono (fun _ h => h.elim))
  clear hRW4 H7 H4W hKW4 HK4 H4n hR4 hK4 d0 d1 d2 d3
  unfold Ins.val
  go_wp2_with fail
  clear hW4 k1
  refine HB.mono ?_
  rintro en w5 ⟨v, q5, er5, a5, rfl, hR5, hK5, hB5, hC5⟩
  have H75 := H7'.out.keep hK5 (fun h => by have : w4.heap.size = b := h; omega)
  have H45 := H4'.out.keep hK5 (fun h => by have : w.heap.size = b := h; omega)
  have HK5 : Hid (Kp (· = b) w w5) := HKW4.out.trans hK5
  have HF := fail_m hR5 13 q1 hq1
  have HR5 : Hid _ := hR5
  have H75' : Hid _ := H75
  have H45' : Hid _ := H45
  unfold encN8
  clear hR5 hK5 HB
  by_cases hv : v = 11
  · subst hv
    have HC : Hid (Cu (conS s p e) er a x q5 er5 a5) := hZ4.out _ _ _ _ (hC5.out.trans (by rw [if_pos rfl]; exact Cu.pure _ _))
    obtain ⟨g0, g1, g2, f0, f1, f2⟩ := H45
    obtain ⟨x0, x1, x2, v0, v1, v2⟩ := H75
    clear HF hC5
    go_wp2
    refine bodyPost_ret (v := .agg #[.int .u8 (x.op : Int), .int .u32 x.x, .int .u64 x.y]) (by simp [results, Tryz.results248, go_sem, g0, g1, g2]) rfl ?_
    exact con_end (x := x) (w4 := w5) (n4 := w.heap.size) rfl HR5.out HK5.out (by repeat (first | exact Kp.refl _ _ | refine Kp.setCell ?_ (.inl (by rfl)) _)) (Nat.le_refl _) hlt HC.out
  · have HC : Hid (∀ er6 a6, Flq er5 a5 13 q1 er6 a6 → Cu (conS s p e) er a x q5 er6 a6) := fun er6 a6 hf => hZ4.out _ _ _ _ (hC5.out.trans (by rw [if_neg hv]; exact Cu.fail _ _ hf (by decide)))
    have e1 : ((v : Int) == 11) = false := by rw [beq_eq_false_iff_ne]; omega
    have e2 : ((v : Int) != 11) = true := by simp; omega
    clear hv hC5 H75 H45
    go_wp2_with fail
    refine HF.mono ?_
    rintro en w6 ⟨er6, a6, rfl, hR6, hK6, hF⟩
    have H76 := H75'.out.keep hK6 (fun h => by have : w4.heap.size = b := h; omega)
    have H46 := H45'.out.keep hK6 (fun h => by have : w.heap.size = b := h; omega)
    have HK6 : Hid (Kp (· = b) w w6) := HK5.out.trans hK6
    have HR6 : Hid _ := hR6
    have HC6 : Hid (Cu (conS s p e) er a x q5 er6 a6) := HC.out _ _ hF.out
    clear hR6 hK6 hF
    obtain ⟨g0, g1, g2, f0, f1, f2⟩ := H46
    obtain ⟨x0, x1, x2, v0, v1, v2⟩ := H76
    go_wp2
    refine bodyPost_ret (v := .agg #[.int .u8 (x.op : Int), .int .u32 x.x, .int .u64 x.y]) (by simp [results, Tryz.results248, go_sem, g0, g1, g2]) rfl ?_
    exact con_end (x := x) (w4 := w6) (n4 := w.heap.size) rfl HR6.out HK6.out (by repeat (first | exact Kp.refl _ _ | refine Kp.setCell ?_ (.inl (by rfl)) _)) (Nat.le_refl _) hlt HC6.out
/- AN INITIALISER -/
theorem con_m (h : Rc w b s p e er a) : Calls Tryz.prog 248 #[.pointer (some ⟨b, 0, none⟩)] w (Cm Ins.val (fun _ => True) (conS s p e) b s e er a w) := by
  by_cases hz : er ≠ 0 ∨ ¬ p < e
  · have HI : Hid (∀ u, Kp (fun _ => False) w u → Calls Tryz.prog 268 #[.pointer (some ⟨b, 0, none⟩), .pointer none] u (fun en w' => ∃ x q1 er1 a1, en = .returned (Ins.val x) ∧ Rc w' b s q1 e er1 a1 ∧ Kp (· = b) u w' ∧ Hid (∀ x2 q2 er2 a2, Cu (bindQ (nextS s q1 e) fun z => if z.1 = 11 then (.ok (x, z.2) : R Ins) else .error (13, q1)) er1 a1 x2 q2 er2 a2 → Cu (conS s p e) er a x2 q2 er2 a2))) := fun u hu => by
      refine (ins_z (h.keep hu (fun h => h)) hz _).mono ?_
      rintro en w' ⟨x, q, er', a', h1, h2, h3, h4, h5⟩
      refine ⟨x, q, er', a', h1, h2, h3, fun x2 q2 er2 a2 hc => ?_⟩
      rw [conS_b]
      exact h5.out.trans ⟨fun h => absurd h h4, hc.bad⟩
    by_cases he : er = 0
    · exact con_go2 h he (by rcases hz with h | h; exact absurd he h; exact h) HI
    · exact con_go1 h he HI
  · have he : er = 0 := Classical.byContradiction (fun h => hz (.inl h))
    have hp : p < e := Classical.byContradiction (fun h => hz (.inr h))
    subst he
    by_cases ho : bAt s p < 65 ∨ 68 < bAt s p
    · exact con_bad h hp ho
    · refine con_go3 h rfl hp (by omega) (fun u hu => ?_)
      refine (ins_one (h.keep hu (fun h => h)) hp _ (by omega)).mono ?_
      rintro en w' ⟨x, q, er', a', h1, h2, h3, _, h5⟩
      refine ⟨x, q, er', a', h1, h2, h3, fun x2 q2 er2 a2 hc => ?_⟩
      have hn : nextS s p e = .ok (bAt s p, p + 1) := by unfold nextS; rw [if_pos hp]
      rw [conS_b, hn]
      show Cu (if bAt s p < 65 ∨ 68 < bAt s p then _ else _) _ _ _ _ _ _
      rw [if_neg ho]
      exact h5.out.trans hc
end
end Go.Proofs.Qxb6500275aGreatDoor
