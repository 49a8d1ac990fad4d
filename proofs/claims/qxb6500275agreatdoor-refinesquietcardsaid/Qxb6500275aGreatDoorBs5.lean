import Derived.Test.Qxb6500275aGreatDoorBs0
import Derived.Test.Qxb6500275aGreatDoorBb2
set_option maxRecDepth 100000
set_option linter.unusedVariables false
set_option linter.unusedSimpArgs false
namespace Go.Proofs.Qxb6500275aGreatDoor
open Go Go.RowKit
/- a segment of the table at work, in block eb -/
structure Eb (w : World) (eb : Nat) (x : Ins) (fns : List Int) (vf : Value) : Prop where
  c0 : w.cell? ⟨eb, 0, none⟩ = some (.int .u8 (x.op : Int))
  c1 : w.cell? ⟨eb, 1, none⟩ = some (.int .u32 x.x)
  c2 : w.cell? ⟨eb, 2, none⟩ = some (.int .u64 x.y)
  c3 : w.cell? ⟨eb, 3, none⟩ = some vf
  fz : ∀ j, w.frozen? ⟨eb, j, none⟩ = false
  ta : OR w 127 1 vf fns.length (tabC fns)
  d : vf.ownBlock ≠ some eb
def EbB (eb : Nat) (vf : Value) (k : Nat) : Prop := k = eb ∨ vf.ownBlock = some k
section
variable {w w' u : World} {eb : Nat} {x : Ins} {fns : List Int} {vf : Value} {P : Nat → Prop}
theorem Eb.lt (h : Eb w eb x fns vf) {k : Nat} (hk : EbB eb vf k) : k < w.heap.size := by
  rcases hk with e | e
  · subst e; exact lt_of_cell h.c0
  · exact h.ta.lt e
theorem Eb.keep (h : Eb w eb x fns vf) (hk : Kp P w w') (hp : ∀ k, EbB eb vf k → ¬ P k) : Eb w' eb x fns vf := by
  have hlt := lt_of_cell h.c0
  have ec : ∀ o, w'.cell? ⟨eb, o, none⟩ = w.cell? ⟨eb, o, none⟩ := fun o => hk.cell (p := ⟨eb, o, none⟩) hlt (hp eb (.inl rfl))
  have ef : ∀ o, w'.frozen? ⟨eb, o, none⟩ = w.frozen? ⟨eb, o, none⟩ := fun o => hk.frozen (p := ⟨eb, o, none⟩) hlt (hp eb (.inl rfl))
  exact ⟨(ec 0).trans h.c0, (ec 1).trans h.c1, (ec 2).trans h.c2, (ec 3).trans h.c3, fun j => (ef j).trans (h.fz j), h.ta.keep hk (fun k e => hp k (.inr e)), h.d⟩
theorem Eb.push (h : Eb w eb x fns vf) (hn : fns.length ≤ 1000) (l : Int) : ∃ v' w1, (Builtin.append_ #[103, 103] 103 #[vf, .slice (some ⟨w.heap.size, 0, none⟩) 1 1]).run Tryz.prog (w.alloc (.cells #[.int .u32 l] 127)) = .ok v' w1 ∧
    (w1.cell? ⟨eb, 3, none⟩ = some vf ∧ w1.frozen? ⟨eb, 3, none⟩ = false) ∧ (∃ a n c, v' = .slice a n c) ∧ Eb (w1.setCell ⟨eb, 3, none⟩ v') eb x (fns ++ [l]) v' ∧ Kp (EbB eb vf) w (w1.setCell ⟨eb, 3, none⟩ v') ∧ OwnO w vf v' := by
  obtain ⟨i, z, i1, i2, i3, i4, i5⟩ := i127i
  obtain ⟨v', w1, r1, r2, r3, r4⟩ := h.ta.push1 u103s i1 i2 i4 (by omega) i3 (by omega) (.int .u32 l) rfl
  have hlt : eb < w.heap.size := lt_of_cell h.c0
  have ec : ∀ o, w1.cell? ⟨eb, o, none⟩ = w.cell? ⟨eb, o, none⟩ := fun o => r3.cell (p := ⟨eb, o, none⟩) hlt h.d
  have ef : ∀ o, w1.frozen? ⟨eb, o, none⟩ = w.frozen? ⟨eb, o, none⟩ := fun o => r3.frozen (p := ⟨eb, o, none⟩) hlt h.d
  have hvf : v'.ownBlock ≠ some eb := fun e => by
    rcases r4 eb e with h5 | h5
    · exact h.d h5
    · omega
  refine ⟨v', w1, r1, ⟨(ec 3).trans h.c3, (ef 3).trans (h.fz 3)⟩, ?_, ⟨?_, ?_, ?_, ?_, ?_, ?_, hvf⟩, ?_, r4⟩
  · obtain ⟨a, c, e⟩ := r2.slice
    exact ⟨a, _, c, e⟩
  · simp [ec, h.c0, go_sem]
  · simp [ec, h.c1, go_sem]
  · simp [ec, h.c2, go_sem]
  · have := (ec 3).trans h.c3
    simp [this, go_sem]
  · intro j
    rw [World.frozen?_setCell]
    exact (ef j).trans (h.fz j)
  · have := r2.other (b := eb) (i := 3) (fun k e e2 => hvf (by rw [← e2]; exact e)) v'
    rw [List.length_append]
    unfold tabC at this ⊢
    rw [List.map_append]
    exact this
  · exact (r3.mono (fun k hk => .inr hk)).setCell (p := ⟨eb, 3, none⟩) (.inl (.inl rfl)) v'
theorem Eb.new (w : World) (x : Ins) : Eb (w.alloc (.cells #[.int .u8 (x.op : Int), .int .u32 x.x, .int .u64 x.y, .slice none 0 0] 136)) w.heap.size x [] (.slice none 0 0) := by
  have hb := blk_al w #[.int .u8 (x.op : Int), .int .u32 x.x, .int .u64 x.y, .slice none 0 0] 136
  exact ⟨hb.cell (i := 0) (by simp), hb.cell (i := 1) (by simp), hb.cell (i := 2) (by simp), hb.cell (i := 3) (by simp), fun j => World.frozen?_alloc_at _ _ _ _ rfl, OR.nil _ _ _, by simp [Value.ownBlock]⟩
end
section
variable {w w' : World} {b : Nat} {s : ByteArray} {p e : Nat} {er : Int} {a : Nat} {mb : Nat} {m : MT}
theorem sec9_b {M : Mod} {ty : List Int} (h0 : M.elems = []) : scQ (sec9 s p e M ty) = bindQ (countS s p e 3) fun x => bindQ (rowsL (elmRow s e) x.1.toNat x.2 []) fun y => .ok ({ M with elems := y.1 }, y.2) := by
  unfold scQ sec9
  rw [vecS]
  simp only [bindR_Q]
  cases countS s p e 3 with
  | error f => rfl
  | ok x =>
    show bindQ (bindQ (rowsL (elmRow s e) x.1.toNat x.2 []) _) _ = bindQ (rowsL (elmRow s e) x.1.toNat x.2 []) _
    cases rowsL (elmRow s e) x.1.toNat x.2 [] with
    | error f => rfl
    | ok y =>
      show (Except.ok ({ M with elems := pick y.1 M.elems }, y.2) : R Mod) = _
      rw [h0, pickQ_nil]
      rfl
theorem elmRow_b (q : Nat) : elmRow s e q = bindQ (fixedS s q e 0) fun a => bindQ (conS s a.2 e) fun b => bindQ (countS s b.2 e 6) fun n => bindQ (rowsL (tiRow s e) n.1.toNat n.2 []) fun c => .ok (⟨b.1, c.1⟩, c.2) := by
  unfold elmRow
  rw [show vecS s = vecS s from rfl]
  simp only [bindR_Q]
  cases fixedS s q e 0 with
  | error f => rfl
  | ok x =>
    show bindQ (conS s x.2 e) _ = bindQ (conS s x.2 e) _
    cases conS s x.2 e with
    | error f => rfl
    | ok y =>
      show bindQ (vecS s y.2 e 6 (tiRow s e)) _ = bindQ (countS s y.2 e 6) _
      unfold vecS
      rw [bindR_Q]
      cases countS s y.2 e 6 <;> rfl
set_option maxHeartbeats 8000000 in
theorem sec9_m (h : Rc w b s p e er a) (hM : Mw w mb m) (hne : ¬ MwB mb m b) (h0 : m.es = []) (ty : List Int) : Calls Tryz.prog 187 #[.pointer (some ⟨b, 0, none⟩), .int .i64 9, .pointer (some ⟨mb, 0, none⟩)] w (Scq (scQ (sec9 s p e m.mod ty)) b s e er a mb m w) := by
  have hlt : b < w.heap.size := lt_of_cell h.c0
  have HS : Hid (Ms1 w w b mb m m) := Ms1.start hM hne hlt
  have HC := count_m h 3 (by decide)
  obtain ⟨X, hX⟩ : ∃ X, scQ (sec9 s p e m.mod ty) = X := ⟨_, rfl⟩
  rw [hX]
  have HX : Hid _ := hX
  have H0 : Hid _ := h0
  clear h hM hne hX h0
  go_enter Tryz.func187, Tryz.ntmps187
  go_wp2_with fail
  refine HC.mono ?_
  rintro en w2 ⟨nn, q, er', a', rfl, hR, hK, hB, hC⟩
  obtain ⟨n, hn⟩ : ∃ n : Nat, nn = n := ⟨nn.toNat, by omega⟩
  subst hn
  have hn8 : n ≤ 10 := by omega
  unfold encI8
  have HZ : Hid (∀ l2 q2 er2 a2, Cu (rowsL (elmRow s e) n q (m.es.map (·.1))) er' a' l2 q2 er2 a2 → Cu X er a { m.mod with elems := l2 } q2 er2 a2) := fun l2 q2 er2 a2 hz => by
    rw [H0.out] at hz
    rw [← HX.out, sec9_b (by unfold MT.mod; rw [H0.out]; rfl)]
    exact hC.out.trans (hz.trans (Cu.pure _ _))
  have HR : Hid _ := hR
  have HK : Hid _ := hK
  clear hR hK HX hC hB HC
  go_wp2
  go_loopw [30] (fun ii w1 => ∃ (i q1 a1 : Nat) (er1 : Int) (l : List (Elm × Value)) (v : Value), i ≤ n ∧ l.length = i ∧ ii = .int .i64 (i : Int) ∧ Rc w1 b s q1 e er1 a1 ∧ Ms1 w w1 b mb m { m with es := l, ve := v } ∧ Hid (∀ l2 q2 er2 a2, Cu (rowsL (elmRow s e) (n - i) q1 (l.map (·.1))) er1 a1 l2 q2 er2 a2 → Cu X er a { m.mod with elems := l2 } q2 er2 a2)) (fun ii _ => n - (intOf ii).toNat)
  case atStart => exact ⟨0, q, a', er', m.es, m.ve, by omega, by rw [H0.out]; rfl, rfl, HR.out, HS.out.cur HK.out, HZ.out⟩
  case round =>
    obtain ⟨i, q1, a1, er1, l, v, hi, hll, rfl, hR1, hM1, hZ1⟩ := hrel
    have c3 := hR1.c3
    have HR1 : Hid _ := hR1
    have HM1 : Hid _ := hM1
    have HLL : Hid _ := hll
    obtain ⟨sa, sc, hsv⟩ := Mw.slEl hM1.mw
    dsimp only at hsv
    have HSV : Hid _ := hsv
    clear hR1 hM1 hll HR HK HS HZ hsv
    by_cases hgo : er1 = 0 ∧ i < n
    · obtain ⟨he1, hi1⟩ := hgo
      subst he1
      have hlti : (i : Int) < (n : Int) := by omega
      have HU2 := fixed_m HR1.out 0 (by decide)
      go_wp2_with fail
      refine HU2.mono ?_
      rintro en w2x ⟨_, q2, er2, a2, rfl, hR2, hK2, _, hC2⟩
      have hM2 := HM1.out.cur hK2
      have HU3 := con_m hR2
      have HM2 : Hid _ := hM2
      clear hR2 hK2 HU2 c3 hM2
      unfold encN
      go_wp2_with fail
      refine HU3.mono ?_
      rintro en w3x ⟨cx, q3, er3, a3, rfl, hR3, hK3, _, hC3⟩
      have hM3 := HM2.out.cur hK3
      obtain ⟨W3, hW3⟩ : ∃ W3, w3x.alloc (.cells #[.int .u8 (cx.op : Int), .int .u32 cx.x, .int .u64 cx.y] 129) = W3 := ⟨_, rfl⟩
      have hKW3 : Kp (fun _ => False) w3x W3 := by rw [← hW3]; exact (Kp.refl _ _).alloc _
      have hN3 : C3 W3 w3x.heap.size (.int .u8 (cx.op : Int)) (.int .u32 cx.x) (.int .u64 cx.y) := by rw [← hW3]; exact C3.new w3x _ _ _ _
      have hNb3 : w3x.heap.size ≠ b := by have : b < w3x.heap.size := lt_of_cell hR3.c0; omega
      have hRW3 := hR3.keep hKW3 (fun h => h)
      have HU4 := count_m hRW3 6 (by decide)
      have HN3 : Hid _ := hN3
      have HM3 : Hid _ := hM3.new hKW3
      clear hR3 hK3 HU3 hKW3 hN3 hM3 hRW3
      unfold Ins.val
      go_wp2_with fail
      clear hW3
      refine HU4.mono ?_
      rintro en w4x ⟨kk, q4, er4, a4, rfl, hR4, hK4, hB4, hC4⟩
      obtain ⟨k, hk⟩ : ∃ k : Nat, kk = k := ⟨kk.toNat, by omega⟩
      subst hk
      have hk6 : k ≤ 6 := by omega
      have hM4 := HM3.out.cur hK4
      have hN4 := HN3.out.keep hK4 (fun h => hNb3 h)
      obtain ⟨W4, hW4⟩ : ∃ W4, w4x.alloc (.cells #[.int .u8 (cx.op : Int), .int .u32 cx.x, .int .u64 cx.y, .slice none 0 0] 136) = W4 := ⟨_, rfl⟩
      have hKW4 : Kp (fun _ => False) w4x W4 := by rw [← hW4]; exact (Kp.refl _ _).alloc _
      have hE4 : Eb W4 w4x.heap.size cx [] (.slice none 0 0) := by rw [← hW4]; exact Eb.new w4x cx
      have HR4 : Hid _ := hR4.keep hKW4 (fun h => h)
      have HM4 : Hid _ := hM4.new hKW4
      have HE4 : Hid _ := hE4
      have HNE4 : Hid (∀ k, EbB w4x.heap.size (.slice none 0 0) k → k ≠ b ∧ ¬ MwB mb { m with es := l, ve := v } k) := fun k hk => by
        rcases hk with h | h
        · subst h
          refine ⟨?_, fun h => ?_⟩
          · have : b < w4x.heap.size := lt_of_cell hR4.c0
            omega
          · have := hM4.mw.lt h
            omega
        · simp [Value.ownBlock] at h
      have HFR4 : Hid (∀ k, EbB w4x.heap.size (.slice none 0 0) k → w.heap.size ≤ k) := fun k hk => by
        rcases hk with h | h
        · rw [h]; exact hM4.kp.size
        · simp [Value.ownBlock] at h
      have HRow : Hid (∀ fns q5 er5 a5, Cu (rowsL (tiRow s e) k q4 []) er4 a4 fns q5 er5 a5 → Cu (elmRow s e q1) 0 a1 (⟨cx, fns⟩ : Elm) q5 er5 a5) := fun fns q5 er5 a5 hz => by
        rw [elmRow_b]
        exact hC2.out.trans (hC3.out.trans (hC4.out.trans (hz.trans (Cu.pure _ _))))
      obtain ⟨y0, y1, y2, z0, z1, z2⟩ := hN4
      clear hR4 hK4 HU4 hM4 hKW4 hE4 hB4 hC2 hC3 hC4 HM3 HN3 HM2
      unfold encI8
      have HW4 : Hid _ := hW4
      clear hW4
      go_wp2
      rw [HW4.out]
      obtain ⟨eb, heb⟩ : ∃ eb, w4x.heap.size = eb := ⟨_, rfl⟩
      rw [heb] at HE4 HNE4 HFR4 ⊢
      clear y0 y1 y2 z0 z1 z2 heb
      go_loopw [34] (fun jj w5 => ∃ (j q5 a5 : Nat) (er5 : Int) (fns : List Int) (vf : Value), j ≤ k ∧ fns.length = j ∧ jj = .int .i64 (j : Int) ∧ Rc w5 b s q5 e er5 a5 ∧ Ms1 w w5 b mb m { m with es := l, ve := v } ∧ Eb w5 eb cx fns vf ∧ (∀ k, EbB eb vf k → k ≠ b ∧ ¬ MwB mb { m with es := l, ve := v } k) ∧ (∀ k, EbB eb vf k → w.heap.size ≤ k) ∧ Hid (∀ f2 q6 er6 a6, Cu (rowsL (tiRow s e) (k - j) q5 fns) er5 a5 f2 q6 er6 a6 → Cu (elmRow s e q1) 0 a1 (⟨cx, f2⟩ : Elm) q6 er6 a6)) (fun jj _ => k - (intOf jj).toNat)
      case atStart => exact ⟨0, q4, a4, er4, [], .slice none 0 0, by omega, rfl, rfl, HR4.out, HM4.out, HE4.out, HNE4.out, HFR4.out, HRow.out⟩
      case round =>
        obtain ⟨j, q5, a5, er5, fns, vf, hj, hfl, rfl, hR5, hM5, hE5, hne5, hfr5, hZ5⟩ := hrel
        have c5 := hR5.c3
        have HR5 : Hid _ := hR5
        have HM5 : Hid _ := hM5
        have HE5 : Hid _ := hE5
        have HNE5 : Hid (∀ k, EbB eb vf k → k ≠ b ∧ ¬ MwB mb { m with es := l, ve := v } k) := hne5
        have HFR5 : Hid (∀ k, EbB eb vf k → w.heap.size ≤ k) := hfr5
        have HFL : Hid _ := hfl
        obtain ⟨fa, fc, hfv⟩ := hE5.ta.slice
        have HFV : Hid _ := hfv
        have d3 := hE5.c3
        have e0 := hE5.c0
        have e1 := hE5.c1
        have e2 := hE5.c2
        have f3 := hE5.fz 3
        rw [hfv] at d3
        clear hR5 hM5 hE5 hne5 hfr5 hfl hfv HR4 HM4 HE4 HNE4 HFR4 HRow
        by_cases hgo5 : er5 = 0 ∧ j < k
        · obtain ⟨he5, hj5⟩ := hgo5
          subst he5
          have hltj : (j : Int) < (k : Int) := by omega
          have HU6 := u32_m HR5.out
          go_wp2_with fail
          refine HU6.mono ?_
          rintro en w6x ⟨fv, q6, er6, a6, rfl, hR6, hK6, hB6, hC6⟩
          have hM6 := HM5.out.cur hK6
          have hE6 := HE5.out.keep hK6 (fun k hk e => (HNE5.out k hk).1 e)
          obtain ⟨v', w7, r1, ⟨r2, r3⟩, ⟨ra, rn, rc, hvo⟩, r5, r6, r7⟩ := hE6.push (by have := HFL.out; omega) fv
          have d6 := hE6.c3
          have f6 := hE6.fz 3
          rw [HFV.out] at r1 r2 d6
          subst hvo
          have HR7 : Hid (Rc (w7.setCell ⟨eb, 3, none⟩ (.slice ra rn rc)) b s q6 e er6 a6) := hR6.keep r6 (fun h => (HNE5.out b h).1 rfl)
          have HM7 : Hid (Ms1 w (w7.setCell ⟨eb, 3, none⟩ (.slice ra rn rc)) b mb m { m with es := l, ve := v }) := by
            refine ⟨hM6.mw.keep r6 (fun k hk e => (HNE5.out k e).2 hk), hM6.ow, hM6.ne, hM6.kp.later r6 (fun j hj => .inr (HFR5.out j hj)), hM6.lt⟩
          have HE7 : Hid _ := r5
          have HO7 : Hid (OwnO w6x vf (.slice ra rn rc)) := r7
          have HSZ : Hid (∀ k, MwB mb { m with es := l, ve := v } k → k < w6x.heap.size) := fun k hk => hM6.mw.lt hk
          have HSB : Hid (b < w6x.heap.size ∧ w.heap.size ≤ w6x.heap.size) := ⟨lt_of_cell hR6.c0, hM6.kp.size⟩
          clear hR6 hK6 hM6 hE6 r5 r6 r7 HU6 c5 d3 e0 e1 e2 f3
          unfold encI8
          go_wp2_with (at_builtin; refine wpList_app rfl _ _ 103 rfl r1 ?_)
          have hfl2 := HFL.out
          refine ⟨⟨j + 1, q6, a6, er6, fns ++ [fv], .slice ra rn rc, by omega, by rw [List.length_append, hfl2]; rfl, by go_num, HR7.out, HM7.out, HE7.out, fun k hk => ?_, fun k hk => ?_, fun f2 q8 er8 a8 hz => hZ5.out _ _ _ _ (Cu.row (by omega) hC6.out (by rw [show k - j - 1 = k - (j + 1) by omega]; exact hz))⟩, by simp [intOf]; omega⟩
          · rcases hk with h | h
            · exact HNE5.out k (.inl h)
            · rcases HO7.out k h with h5 | h5
              · exact HNE5.out k (.inr h5)
              · refine ⟨by have := HSB.out.1; omega, fun h => ?_⟩
                have := HSZ.out k h
                omega
          · rcases hk with h | h
            · exact HFR5.out k (.inl h)
            · rcases HO7.out k h with h5 | h5
              · exact HFR5.out k (.inr h5)
              · have := HSB.out.2; omega
        · have HRowD : Hid (Cu (elmRow s e q1) 0 a1 (⟨cx, fns⟩ : Elm) q5 er5 a5) := hZ5.out _ _ _ _ (by
            by_cases hj5 : j < k
            · exact Cu.stay _ _ (fun h => hgo5 ⟨h, hj5⟩)
            · rw [show k - j = 0 by omega]
              exact Cu.pure _ _)
          clear hZ5
          by_cases hj5 : j < k
          · have he5 : er5 ≠ 0 := fun h => hgo5 ⟨h, hj5⟩
            have heb5 : (er5 == 0) = false := by rw [beq_eq_false_iff_ne]; exact he5
            have hltj : (j : Int) < (k : Int) := by omega
            have hD : Kp (fun _ => False) wr wr.drew := (Kp.refl _ _).drew
            have hMD := HM5.out.new hD
            have hED := HE5.out.keep hD (fun _ _ h => h)
            obtain ⟨v', w8, r1, ⟨ra, rn, rc, hvo⟩, ⟨r2, r3⟩, r5, r6, r7⟩ := hMD.mw.pushEl (by have := HLL.out; show l.length ≤ 1000; omega) (⟨⟨cx, fns⟩, vf⟩ : Elm × Value) (by show vf.oneCell' = true; rw [HFV.out]; rfl) ⟨fun r hr => by have hr2 := List.mem_singleton.1 hr; subst hr2; exact hED.ta, List.pairwise_singleton _ _⟩ (fun c hc k h1 h2 => by have hc2 := List.mem_singleton.1 hc; subst hc2; exact (HNE5.out k (.inr h1)).2 h2)
            dsimp only at r1 r2
            have dj := HM5.out.mw.c10
            dsimp only at dj
            rw [HSV.out] at r1 r2 dj
            rw [HFV.out] at r1
            subst hvo
            obtain ⟨U, hU⟩ : ∃ U, wr.drew.alloc (.cells #[.int .u8 (cx.op : Int), .int .u32 cx.x, .int .u64 cx.y, .slice fa fns.length fc] 136) = U := ⟨_, rfl⟩
            have hKU : Kp (fun _ => False) wr U := by rw [← hU]; exact hD.alloc _
            have djU : U.cell? ⟨mb, 10, none⟩ = some (.slice sa l.length sc) := by rw [hKU.cell (p := ⟨mb, 10, none⟩) (HM5.out.mw.lt (.inl rfl)) (fun h => h)]; exact dj
            have hEU := HE5.out.keep hKU (fun _ _ h => h)
            have hUU : (wr.alloc (.cells #[.int .u8 (cx.op : Int), .int .u32 cx.x, .int .u64 cx.y, .slice fa fns.length fc] 136)).drew = U := by rw [← hU]; rfl
            rw [hU] at r1
            have HR1a : Hid _ := r1
            have HM8 : Hid (Ms1 w (w8.setCell ⟨mb, 10, none⟩ (.slice ra rn rc)) b mb m { m with es := l ++ [(⟨⟨cx, fns⟩, vf⟩ : Elm × Value)], ve := .slice ra rn rc }) := by
              refine ⟨r5, fun k hk => ?_, fun hb => ?_, hMD.kp.later r6 (fun j hj => ?_), hMD.lt⟩
              · rcases r7 k hk with h5 | h5 | ⟨c, hc, h5⟩
                · exact hMD.ow k h5
                · exact .inr (Nat.le_trans hMD.kp.size h5)
                · have hc2 := List.mem_singleton.1 hc
                  subst hc2
                  exact .inr (HFR5.out k (.inr h5))
              · rcases r7 b hb with h5 | h5 | ⟨c, hc, h5⟩
                · exact hMD.ne h5
                · have := hMD.lt; have := hMD.kp.size; omega
                · have hc2 := List.mem_singleton.1 hc
                  subst hc2
                  exact (HNE5.out b (.inr h5)).1 rfl
              · rcases hMD.ow j hj with h5 | h5
                · exact .inl (.inr h5)
                · exact .inr h5
            have HR8 : Hid _ := (HR5.out.keep hD (fun h => h)).keep r6 hMD.ne
            have g0 := hEU.c0
            have g1 := hEU.c1
            have g2 := hEU.c2
            have g3 := hEU.c3
            rw [HFV.out] at g3
            clear r5 r6 r7 hMD hKU hD r1 hU hED hEU
            go_wp2_with fail
            apply region_one
            case walk =>
              go_region_law (refine step_apq rfl _ _ 82 rfl HR1a.out ?_)
              all_goals exact ⟨rfl, rfl⟩
            case key =>
              go_wp2
              have hll2 := HLL.out
              refine ⟨⟨i + 1, q5, a5, er5, l ++ [(⟨⟨cx, fns⟩, vf⟩ : Elm × Value)], .slice ra rn rc, by omega, by rw [List.length_append, hll2]; rfl, by go_num, HR8.out, HM8.out, fun l2 qq er2 a2 hz => hZ1.out _ _ _ _ (Cu.row (by omega) HRowD.out (by rw [show n - i - 1 = n - (i + 1) by omega]; rw [List.map_append] at hz; exact hz))⟩, by simp [intOf]; omega⟩
          · have hltj : ¬ (j : Int) < (k : Int) := by omega
            have hD : Kp (fun _ => False) wr wr.drew := (Kp.refl _ _).drew
            have hMD := HM5.out.new hD
            have hED := HE5.out.keep hD (fun _ _ h => h)
            obtain ⟨v', w8, r1, ⟨ra, rn, rc, hvo⟩, ⟨r2, r3⟩, r5, r6, r7⟩ := hMD.mw.pushEl (by have := HLL.out; show l.length ≤ 1000; omega) (⟨⟨cx, fns⟩, vf⟩ : Elm × Value) (by show vf.oneCell' = true; rw [HFV.out]; rfl) ⟨fun r hr => by have hr2 := List.mem_singleton.1 hr; subst hr2; exact hED.ta, List.pairwise_singleton _ _⟩ (fun c hc k h1 h2 => by have hc2 := List.mem_singleton.1 hc; subst hc2; exact (HNE5.out k (.inr h1)).2 h2)
            dsimp only at r1 r2
            have dj := HM5.out.mw.c10
            dsimp only at dj
            rw [HSV.out] at r1 r2 dj
            rw [HFV.out] at r1
            subst hvo
            obtain ⟨U, hU⟩ : ∃ U, wr.drew.alloc (.cells #[.int .u8 (cx.op : Int), .int .u32 cx.x, .int .u64 cx.y, .slice fa fns.length fc] 136) = U := ⟨_, rfl⟩
            have hKU : Kp (fun _ => False) wr U := by rw [← hU]; exact hD.alloc _
            have djU : U.cell? ⟨mb, 10, none⟩ = some (.slice sa l.length sc) := by rw [hKU.cell (p := ⟨mb, 10, none⟩) (HM5.out.mw.lt (.inl rfl)) (fun h => h)]; exact dj
            have hEU := HE5.out.keep hKU (fun _ _ h => h)
            have hUU : (wr.alloc (.cells #[.int .u8 (cx.op : Int), .int .u32 cx.x, .int .u64 cx.y, .slice fa fns.length fc] 136)).drew = U := by rw [← hU]; rfl
            rw [hU] at r1
            have HR1a : Hid _ := r1
            have HM8 : Hid (Ms1 w (w8.setCell ⟨mb, 10, none⟩ (.slice ra rn rc)) b mb m { m with es := l ++ [(⟨⟨cx, fns⟩, vf⟩ : Elm × Value)], ve := .slice ra rn rc }) := by
              refine ⟨r5, fun k hk => ?_, fun hb => ?_, hMD.kp.later r6 (fun j hj => ?_), hMD.lt⟩
              · rcases r7 k hk with h5 | h5 | ⟨c, hc, h5⟩
                · exact hMD.ow k h5
                · exact .inr (Nat.le_trans hMD.kp.size h5)
                · have hc2 := List.mem_singleton.1 hc
                  subst hc2
                  exact .inr (HFR5.out k (.inr h5))
              · rcases r7 b hb with h5 | h5 | ⟨c, hc, h5⟩
                · exact hMD.ne h5
                · have := hMD.lt; have := hMD.kp.size; omega
                · have hc2 := List.mem_singleton.1 hc
                  subst hc2
                  exact (HNE5.out b (.inr h5)).1 rfl
              · rcases hMD.ow j hj with h5 | h5
                · exact .inl (.inr h5)
                · exact .inr h5
            have HR8 : Hid _ := (HR5.out.keep hD (fun h => h)).keep r6 hMD.ne
            have g0 := hEU.c0
            have g1 := hEU.c1
            have g2 := hEU.c2
            have g3 := hEU.c3
            rw [HFV.out] at g3
            clear r5 r6 r7 hMD hKU hD r1 hU hED hEU
            go_wp2_with fail
            apply region_one
            case walk =>
              go_region_law (refine step_apq rfl _ _ 82 rfl HR1a.out ?_)
              all_goals exact ⟨rfl, rfl⟩
            case key =>
              go_wp2
              have hll2 := HLL.out
              refine ⟨⟨i + 1, q5, a5, er5, l ++ [(⟨⟨cx, fns⟩, vf⟩ : Elm × Value)], .slice ra rn rc, by omega, by rw [List.length_append, hll2]; rfl, by go_num, HR8.out, HM8.out, fun l2 qq er2 a2 hz => hZ1.out _ _ _ _ (Cu.row (by omega) HRowD.out (by rw [show n - i - 1 = n - (i + 1) by omega]; rw [List.map_append] at hz; exact hz))⟩, by simp [intOf]; omega⟩
    · by_cases hi1 : i < n
      · have he1 : er1 ≠ 0 := fun h => hgo ⟨h, hi1⟩
        have heb : (er1 == 0) = false := by rw [beq_eq_false_iff_ne]; exact he1
        have hlti : (i : Int) < (n : Int) := by omega
        go_wp2
        refine bodyPost_end (v := .tuple #[]) (results_none rfl _ _ _) rfl ?_
        exact ⟨{ m with es := l, ve := v }, q1, er1, a1, rfl, HR1.out, HM1.out, hZ1.out _ _ _ _ (Cu.stay _ _ he1)⟩
      · have hlti : ¬ (i : Int) < (n : Int) := by omega
        go_wp2
        refine bodyPost_end (v := .tuple #[]) (results_none rfl _ _ _) rfl ?_
        refine ⟨{ m with es := l, ve := v }, q1, er1, a1, rfl, HR1.out, HM1.out, hZ1.out _ _ _ _ ?_⟩
        rw [show n - i = 0 by omega]
        exact Cu.pure _ _
end
end Go.Proofs.Qxb6500275aGreatDoor
