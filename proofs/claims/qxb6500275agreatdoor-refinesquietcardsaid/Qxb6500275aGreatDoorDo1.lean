import Derived.Test.Qxb6500275aGreatDoorCk2
import Derived.Test.Qxb6500275aGreatDoorIv2
import Derived.Test.Qxb6500275aGreatDoorSw1
import Derived.Test.Qxb6500275aGreatDoorEx7
import Derived.Test.Qxb6500275aGreatDoorTw3
set_option maxRecDepth 100000
set_option linter.unusedVariables false
set_option linter.unusedSimpArgs false
namespace Go.Proofs.Qxb6500275aGreatDoor
open Go Go.RowKit
/- ONE STEP, as a relation -/
def DoR (num : NumF) (st : Ma) (o : Op6) (a : An4) (st' : Ma) : Prop :=
  if o.kind = 1 then ∃ l, LoadR num o.s o.a.toNat st.H l st' ∧ a = ⟨l.e, l.n, l.m, ⟨#[]⟩⟩
  else if o.kind = 2 then a = ⟨((tapeS st.H o.s).1 : Int), 0, 0, ⟨#[]⟩⟩ ∧ st' = ⟨st.m, (tapeS st.H o.s).2⟩
  else if o.kind = 3 then ∃ i, InvR st o.s o.t o.a.toNat i st' ∧ a = ⟨i.e, i.n, 0, i.s⟩
  else if o.kind = 4 then a = ⟨0, 0, 0, showM st⟩ ∧ st' = st
  else a = ⟨0, 0, 0, ⟨#[]⟩⟩ ∧ st' = st
structure OpOk (o : Op6) : Prop where
  a : o.a < 9223372036854775808
  s : o.s.size ≤ 9223372036854775807
  t : o.t.size ≤ 9223372036854775807
section
variable {num : NumF} {w w' w1 w2 : World} {X : Mx} {O O' P : Nat → Prop} {st st' : Ma} {o : Op6}
def DoQ (num : NumF) (w : World) (X : Mx) (O : Nat → Prop) (st : Ma) (o : Op6) (en : Ending) (w' : World) : Prop :=
  ∃ a st', DoR num st o a st' ∧ en = .returned a.val ∧ Mach num w' X (O1 O w w') st' ∧ Kp O w w'
theorem Mach.wide (h : Mach num w X O st) (hO : ∀ k, O k → O' k) (hl : ∀ k, O' k → k < w.heap.size) : Mach num w X O' st := by
  obtain ⟨T, V, S, h1, h2, h3, h4, h5⟩ := h.is
  refine ⟨h.ax, h.hi, fun k a b => hO k (h.own k a b), hl, h.good, T, V, S, h1, fun k hk => ⟨(h2 k hk).1, hO k (h2 k hk).2⟩, h3, h4, fun x hx => ?_⟩
  obtain ⟨e, w0, lo, mb, kc, g1, g2, g3, g4, g5⟩ := h5 x hx
  exact ⟨e, w0, lo, mb, kc, g1, g2, g3, g4, fun k a b => hO k (g5 k a b)⟩
/- the tape is laid -/
theorem Mach.tape (h : Mach num w X O st) (s : ByteArray) (hs : s.size ≤ 9223372036854775807) : Calls Tryz.prog 15 #[.pointer (some ⟨X.xb, 0, none⟩), .string s] w (fun en w' => en = .returned (.int .i64 ((tapeS st.H s).1 : Int)) ∧ Mach num w' X O ⟨st.m, (tapeS st.H s).2⟩ ∧ Kp O w w') := by
  obtain ⟨T, V, S, h1, h2, h3, h4, h5⟩ := h.is
  refine (xtape_calls h.ax h1 (fun k hk => (h2 k hk).1) s hs).mono ?_
  rintro en w2 ⟨rfl, k2, x2⟩
  have hbO : O X.hb := by have := h.ax.h; have := h.ax.lt; exact h.own _ (by omega) (by omega)
  refine ⟨rfl, ⟨h.ax, Nat.le_trans h.hi k2.size, h.own, fun k ho => Nat.lt_of_lt_of_le (h.olt k ho) k2.size, ⟨tapeS_ok h.good.hm s, fun x hx => ?_⟩, T, V, S, x2, h2, h3, h4, fun x hx => ?_⟩, k2.mono (fun k e => by rw [e]; exact hbO)⟩
  · obtain ⟨g1, g2⟩ := h.good.md x hx
    refine ⟨g1, g2.wd, g2.sm, tapeS_ok h.good.hm s, g2.tab, ?_⟩
    have : (tapeS st.H s).2.bd = st.H.bd := by
      unfold tapeS
      split
      · rfl
      split <;> rfl
    rw [this]
    exact g2.bd
  · obtain ⟨e, w0, lo, mb, kc, g1, g2, g3, g4, g5⟩ := h5 x hx
    refine ⟨e, w0, lo, mb, kc, g1, g2, g3, kp_in g4 k2 (fun i _ e => ?_), g5⟩
    show i < lo
    have := h.ax.h
    have := h.ax.lt
    omega
/- the variables of Do: the step in block n, the answer's in n + 1 and n + 2 -/
def box6 (o : Op6) : Array Value := #[.int .i64 o.kind, .int .i64 o.a, .int .i64 o.b, .int .i64 o.c, .string o.s, .string o.t]
def zer4 : Array Value := #[.int .i64 0, .int .i64 0, .int .i64 0, .string ⟨#[]⟩]
def W17 (w : World) (o : Op6) : World := ((w.alloc (.cells (box6 o) 30)).alloc (.cells zer4 39)).alloc (.cells zer4 39)
theorem W17_kp (w : World) (o : Op6) : Kp (fun _ => False) w (W17 w o) := (((Kp.refl _ _).alloc _).alloc _).alloc _
theorem W17_size (w : World) (o : Op6) : (W17 w o).heap.size = w.heap.size + 3 := by unfold W17; rw [World.size_alloc, World.size_alloc, World.size_alloc]
theorem W17_blk (w : World) (o : Op6) : Blk (W17 w o) (w.heap.size + 1) 4 (fun i => zer4[i]!) ∧ Blk (W17 w o) (w.heap.size + 2) 4 (fun i => zer4[i]!) := by
  have s1 : (w.alloc (.cells (box6 o) 30)).heap.size = w.heap.size + 1 := World.size_alloc _ _
  have b1 := blk_alloc (w.alloc (.cells (box6 o) 30)) zer4 39
  have s2 : ((w.alloc (.cells (box6 o) 30)).alloc (.cells zer4 39)).heap.size = w.heap.size + 2 := by rw [World.size_alloc, s1]
  have b2 := blk_alloc ((w.alloc (.cells (box6 o) 30)).alloc (.cells zer4 39)) zer4 39
  rw [s1] at b1
  rw [s2] at b2
  exact ⟨b1.keep ((Kp.refl (fun _ => False) _).alloc _) (fun h => h), b2⟩
theorem do_fin {a : An4} {w3 : World} (h0 : ∀ k, O k → k < w.heap.size) (hk : Kp O (W17 w o) w2) (hm : Mach num w2 X (O1 O (W17 w o) w2) st') (hk3 : Kp (fun k => k = w.heap.size + 1 ∨ k = w.heap.size + 2) w2 w3) (hR : DoR num st o a st') : DoQ num w X O st o (.returned a.val) w3 := by
  have s1 := W17_size w o
  have s2 := hk.size
  have s3 := hk3.size
  have hmk := hm.keep hk3 (fun k e => by
    rcases e with e | e
    · have := h0 k e; omega
    · omega)
  refine ⟨a, st', hR, rfl, hmk.wide (fun k e => ?_) (fun k e => ?_), ?_⟩
  · rcases e with e | e
    · exact .inl e
    · exact .inr (by omega)
  · rcases e with e | e
    · have := h0 k e; omega
    · exact e.2
  · exact kp_in (((W17_kp w o).mono (fun _ h => h.elim)).trans hk) hk3 (fun i hi e => by omega)
structure Dv (w2 : World) (n : Nat) : Prop where
  b1 : Blk w2 (n + 1) 4 (fun i => zer4[i]!)
  b2 : Blk w2 (n + 2) 4 (fun i => zer4[i]!)
theorem Dv.of (h0 : ∀ k, O k → k < w.heap.size) (hk : Kp O (W17 w o) w2) : Dv w2 w.heap.size :=
  ⟨(W17_blk w o).1.keep hk (fun e => by have := h0 _ e; omega), (W17_blk w o).2.keep hk (fun e => by have := h0 _ e; omega)⟩
theorem Dv.c {n : Nat} (h : Dv w2 n) : (w2.cell? ⟨n + 1, 0, none⟩ = some (.int .i64 0) ∧ w2.cell? ⟨n + 1, 1, none⟩ = some (.int .i64 0) ∧ w2.cell? ⟨n + 1, 2, none⟩ = some (.int .i64 0) ∧ w2.cell? ⟨n + 1, 3, none⟩ = some (.string ⟨#[]⟩)) ∧ (w2.cell? ⟨n + 2, 0, none⟩ = some (.int .i64 0) ∧ w2.cell? ⟨n + 2, 1, none⟩ = some (.int .i64 0) ∧ w2.cell? ⟨n + 2, 2, none⟩ = some (.int .i64 0) ∧ w2.cell? ⟨n + 2, 3, none⟩ = some (.string ⟨#[]⟩)) ∧ (w2.frozen? ⟨n + 1, 0, none⟩ = false ∧ w2.frozen? ⟨n + 1, 1, none⟩ = false ∧ w2.frozen? ⟨n + 1, 2, none⟩ = false ∧ w2.frozen? ⟨n + 1, 3, none⟩ = false) ∧ (w2.frozen? ⟨n + 2, 0, none⟩ = false ∧ w2.frozen? ⟨n + 2, 1, none⟩ = false ∧ w2.frozen? ⟨n + 2, 2, none⟩ = false ∧ w2.frozen? ⟨n + 2, 3, none⟩ = false) :=
  ⟨⟨h.b1.cell (i := 0) (by decide), h.b1.cell (i := 1) (by decide), h.b1.cell (i := 2) (by decide), h.b1.cell (i := 3) (by decide)⟩, ⟨h.b2.cell (i := 0) (by decide), h.b2.cell (i := 1) (by decide), h.b2.cell (i := 2) (by decide), h.b2.cell (i := 3) (by decide)⟩, ⟨h.b1.fz (i := 0) (by decide), h.b1.fz (i := 1) (by decide), h.b1.fz (i := 2) (by decide), h.b1.fz (i := 3) (by decide)⟩, ⟨h.b2.fz (i := 0) (by decide), h.b2.fz (i := 1) (by decide), h.b2.fz (i := 2) (by decide), h.b2.fz (i := 3) (by decide)⟩⟩
set_option maxHeartbeats 16000000 in
theorem do_calls (hNr : NumR num) (hNo : NumOk num) (hkn : Kn w) (h : Mach num w X O st) (o : Op6) (ho : OpOk o) : Calls Tryz.prog 17 #[.pointer (some ⟨X.xb, 0, none⟩), o.val] w (DoQ num w X O st o) := by
  have hW := W17_kp w o
  have HM : Hid _ := h.keep hW (fun _ _ h => h)
  have HO : Hid _ := h.olt
  obtain ⟨kd, oa, ob, oc, os, ot⟩ := o
  unfold Op6.val
  dsimp only
  have hs17 := W17_size w ⟨kd, oa, ob, oc, os, ot⟩
  by_cases h1 : kd = 1
  · subst h1
    have hcal := xload_calls hNr hNo HM.out os oa ho.a
    unfold W17 box6 zer4 at hcal
    dsimp only at hcal
    clear h hW hs17
    go_enter Tryz.func17, Tryz.ntmps17
    go_wp2_with fail
    refine hcal.mono ?_
    rintro en w2 ⟨a, st', hR, rfl, hm2, k2⟩
    have HD : Hid (DoR num st ⟨1, oa, ob, oc, os, ot⟩ ⟨a.e, a.n, a.m, ⟨#[]⟩⟩ st') := by
      show DoR _ _ _ _ _
      unfold DoR
      rw [if_pos rfl]
      exact ⟨a, hR, rfl⟩
    have HM2 : Hid (Mach num w2 X (O1 O (W17 w ⟨1, oa, ob, oc, os, ot⟩) w2) st') := hm2
    have HK2 : Hid (Kp O (W17 w ⟨1, oa, ob, oc, os, ot⟩) w2) := k2
    obtain ⟨⟨a0, a1, a2, a3⟩, ⟨b0, b1, b2, b3⟩, ⟨d0, d1, d2, d3⟩, ⟨e0, e1, e2, e3⟩⟩ := (Dv.of HO.out HK2.out).c
    obtain ⟨an, am, ae⟩ := a
    unfold encLa
    dsimp only at HD ⊢
    clear hcal hR hm2 k2
    go_wp2_with fail
    refine bodyPost_ret (v := An4.val ⟨ae, an, am, ⟨#[]⟩⟩) (by simp [results, Tryz.results17, go_sem, An4.val, a0, a1, a2, a3, b0, b1, b2, b3]) rfl ?_
    exact do_fin HO.out HK2.out HM2.out (((((((((Kp.refl (fun k => k = w.heap.size + 1 ∨ k = w.heap.size + 2) w2).setCell (p := ⟨w.heap.size + 2, 1, none⟩) (.inl (.inr rfl)) _).setCell (p := ⟨w.heap.size + 2, 2, none⟩) (.inl (.inr rfl)) _).setCell (p := ⟨w.heap.size + 2, 0, none⟩) (.inl (.inr rfl)) _).setCell (p := ⟨w.heap.size + 1, 0, none⟩) (.inl (.inl rfl)) _).setCell (p := ⟨w.heap.size + 1, 1, none⟩) (.inl (.inl rfl)) _).setCell (p := ⟨w.heap.size + 1, 2, none⟩) (.inl (.inl rfl)) _).setCell (p := ⟨w.heap.size + 1, 3, none⟩) (.inl (.inl rfl)) _)) HD.out
  by_cases h2 : kd = 2
  · subst h2
    have hcal := HM.out.tape os ho.s
    unfold W17 box6 zer4 at hcal
    dsimp only at hcal
    clear h hW hs17 h1
    go_enter Tryz.func17, Tryz.ntmps17
    go_wp2_with fail
    refine hcal.mono ?_
    rintro en w2 ⟨rfl, hm2', k2⟩
    have hm2 : Mach num w2 X (O1 O (W17 w ⟨2, oa, ob, oc, os, ot⟩) w2) ⟨st.m, (tapeS st.H os).2⟩ := hm2'.wide (fun k e => .inl e) (fun k e => by
      rcases e with e | e
      · exact hm2'.olt k e
      · exact e.2)
    have HD : Hid (DoR num st ⟨2, oa, ob, oc, os, ot⟩ ⟨((tapeS st.H os).1 : Int), 0, 0, ⟨#[]⟩⟩ ⟨st.m, (tapeS st.H os).2⟩) := by
      show DoR _ _ _ _ _
      unfold DoR
      rw [if_neg (by dsimp only; decide), if_pos rfl]
      exact ⟨rfl, rfl⟩
    have HM2 : Hid (Mach num w2 X (O1 O (W17 w ⟨2, oa, ob, oc, os, ot⟩) w2) ⟨st.m, (tapeS st.H os).2⟩) := hm2
    have HK2 : Hid (Kp O (W17 w ⟨2, oa, ob, oc, os, ot⟩) w2) := k2
    obtain ⟨⟨a0, a1, a2, a3⟩, ⟨b0, b1, b2, b3⟩, ⟨d0, d1, d2, d3⟩, ⟨e0, e1, e2, e3⟩⟩ := (Dv.of HO.out HK2.out).c
    generalize ((tapeS st.H os).1 : Int) = te at HD ⊢
    clear hcal hm2 hm2' k2
    go_wp2_with fail
    refine bodyPost_ret (v := An4.val ⟨te, 0, 0, ⟨#[]⟩⟩) (by simp [results, Tryz.results17, go_sem, An4.val, a0, a1, a2, a3, b0, b1, b2, b3]) rfl ?_
    exact do_fin HO.out HK2.out HM2.out (((((((Kp.refl (fun k => k = w.heap.size + 1 ∨ k = w.heap.size + 2) w2).setCell (p := ⟨w.heap.size + 2, 0, none⟩) (.inl (.inr rfl)) _).setCell (p := ⟨w.heap.size + 1, 0, none⟩) (.inl (.inl rfl)) _).setCell (p := ⟨w.heap.size + 1, 1, none⟩) (.inl (.inl rfl)) _).setCell (p := ⟨w.heap.size + 1, 2, none⟩) (.inl (.inl rfl)) _).setCell (p := ⟨w.heap.size + 1, 3, none⟩) (.inl (.inl rfl)) _)) HD.out
  by_cases h3 : kd = 3
  · subst h3
    have hcal := invoke_calls hNr HM.out os ot ho.s ho.t oa ho.a
    unfold W17 box6 zer4 at hcal
    dsimp only at hcal
    clear h hW hs17 h1 h2
    go_enter Tryz.func17, Tryz.ntmps17
    go_wp2_with fail
    refine hcal.mono ?_
    rintro en w2 ⟨a, st', hR, rfl, hm2', k2⟩
    have hm2 : Mach num w2 X (O1 O (W17 w ⟨3, oa, ob, oc, os, ot⟩) w2) st' := hm2'.wide (fun k e => .inl e) (fun k e => by
      rcases e with e | e
      · exact hm2'.olt k e
      · exact e.2)
    have HD : Hid (DoR num st ⟨3, oa, ob, oc, os, ot⟩ ⟨a.e, a.n, 0, a.s⟩ st') := by
      show DoR _ _ _ _ _
      unfold DoR
      rw [if_neg (by dsimp only; decide), if_neg (by dsimp only; decide), if_pos rfl]
      exact ⟨a, hR, rfl⟩
    have HM2 : Hid (Mach num w2 X (O1 O (W17 w ⟨3, oa, ob, oc, os, ot⟩) w2) st') := hm2
    have HK2 : Hid (Kp O (W17 w ⟨3, oa, ob, oc, os, ot⟩) w2) := k2
    obtain ⟨⟨a0, a1, a2, a3⟩, ⟨b0, b1, b2, b3⟩, ⟨d0, d1, d2, d3⟩, ⟨e0, e1, e2, e3⟩⟩ := (Dv.of HO.out HK2.out).c
    obtain ⟨asx, an, ae⟩ := a
    unfold encIa
    dsimp only at HD ⊢
    clear hcal hR hm2 hm2' k2
    go_wp2_with fail
    refine bodyPost_ret (v := An4.val ⟨ae, an, 0, asx⟩) (by simp [results, Tryz.results17, go_sem, An4.val, a0, a1, a2, a3, b0, b1, b2, b3]) rfl ?_
    exact do_fin HO.out HK2.out HM2.out (((((((((Kp.refl (fun k => k = w.heap.size + 1 ∨ k = w.heap.size + 2) w2).setCell (p := ⟨w.heap.size + 2, 3, none⟩) (.inl (.inr rfl)) _).setCell (p := ⟨w.heap.size + 2, 1, none⟩) (.inl (.inr rfl)) _).setCell (p := ⟨w.heap.size + 2, 0, none⟩) (.inl (.inr rfl)) _).setCell (p := ⟨w.heap.size + 1, 0, none⟩) (.inl (.inl rfl)) _).setCell (p := ⟨w.heap.size + 1, 1, none⟩) (.inl (.inl rfl)) _).setCell (p := ⟨w.heap.size + 1, 2, none⟩) (.inl (.inl rfl)) _).setCell (p := ⟨w.heap.size + 1, 3, none⟩) (.inl (.inl rfl)) _)) HD.out
  by_cases h4 : kd = 4
  · subst h4
    have hcal := xshow_calls HM.out
    unfold W17 box6 zer4 at hcal
    dsimp only at hcal
    clear h hW h1 h2 h3
    go_enter Tryz.func17, Tryz.ntmps17
    go_wp2_with fail
    refine hcal.mono ?_
    rintro en w2 ⟨rfl, k2'⟩
    have hm2 : Mach num w2 X (O1 O (W17 w ⟨4, oa, ob, oc, os, ot⟩) w2) st := (HM.out.keep k2' (fun _ _ h => h)).wide (fun k e => .inl e) (fun k e => by
      rcases e with e | e
      · have := HO.out k e; have hq : (W17 w ⟨4, oa, ob, oc, os, ot⟩).heap.size ≤ w2.heap.size := k2'.size; omega
      · exact e.2)
    have k2 : Kp O (W17 w ⟨4, oa, ob, oc, os, ot⟩) w2 := k2'.mono (fun _ h => h.elim)
    have HD : Hid (DoR num st ⟨4, oa, ob, oc, os, ot⟩ ⟨0, 0, 0, showM st⟩ st) := by
      show DoR _ _ _ _ _
      unfold DoR
      rw [if_neg (by dsimp only; decide), if_neg (by dsimp only; decide), if_neg (by dsimp only; decide), if_pos rfl]
      exact ⟨rfl, rfl⟩
    have HM2 : Hid (Mach num w2 X (O1 O (W17 w ⟨4, oa, ob, oc, os, ot⟩) w2) st) := hm2
    have HK2 : Hid (Kp O (W17 w ⟨4, oa, ob, oc, os, ot⟩) w2) := k2
    obtain ⟨⟨a0, a1, a2, a3⟩, ⟨b0, b1, b2, b3⟩, ⟨d0, d1, d2, d3⟩, ⟨e0, e1, e2, e3⟩⟩ := (Dv.of HO.out HK2.out).c
    generalize showM st = sh at HD ⊢
    clear hcal hm2 k2 k2' hs17
    go_wp2_with fail
    refine bodyPost_ret (v := An4.val ⟨0, 0, 0, sh⟩) (by simp [results, Tryz.results17, go_sem, An4.val, a0, a1, a2, a3, b0, b1, b2, b3]) rfl ?_
    exact do_fin HO.out HK2.out HM2.out (((((((Kp.refl (fun k => k = w.heap.size + 1 ∨ k = w.heap.size + 2) w2).setCell (p := ⟨w.heap.size + 2, 3, none⟩) (.inl (.inr rfl)) _).setCell (p := ⟨w.heap.size + 1, 0, none⟩) (.inl (.inl rfl)) _).setCell (p := ⟨w.heap.size + 1, 1, none⟩) (.inl (.inl rfl)) _).setCell (p := ⟨w.heap.size + 1, 2, none⟩) (.inl (.inl rfl)) _).setCell (p := ⟨w.heap.size + 1, 3, none⟩) (.inl (.inl rfl)) _)) HD.out
  have HD : Hid (DoR num st ⟨kd, oa, ob, oc, os, ot⟩ ⟨0, 0, 0, ⟨#[]⟩⟩ st) := by
    show DoR _ _ _ _ _
    unfold DoR
    dsimp only
    rw [if_neg h1, if_neg h2, if_neg h3, if_neg h4]
    exact ⟨rfl, rfl⟩
  by_cases h5 : kd = 5
  · subst h5
    have hcal := xcheck_calls (hkn.keep hW (fun h => h)) HM.out
    unfold W17 box6 zer4 at hcal
    dsimp only at hcal
    clear h hW h1 h2 h3 h4
    go_enter Tryz.func17, Tryz.ntmps17
    go_wp2_with fail
    refine hcal.mono ?_
    rintro en w2 ⟨rfl, k2'⟩
    have hm2 : Mach num w2 X (O1 O (W17 w ⟨5, oa, ob, oc, os, ot⟩) w2) st := (HM.out.keep k2' (fun _ _ h => h)).wide (fun k e => .inl e) (fun k e => by
      rcases e with e | e
      · have := HO.out k e; have hq : (W17 w ⟨5, oa, ob, oc, os, ot⟩).heap.size ≤ w2.heap.size := k2'.size; omega
      · exact e.2)
    have k2 : Kp O (W17 w ⟨5, oa, ob, oc, os, ot⟩) w2 := k2'.mono (fun _ h => h.elim)
    have HM2 : Hid (Mach num w2 X (O1 O (W17 w ⟨5, oa, ob, oc, os, ot⟩) w2) st) := hm2
    have HK2 : Hid (Kp O (W17 w ⟨5, oa, ob, oc, os, ot⟩) w2) := k2
    obtain ⟨⟨a0, a1, a2, a3⟩, ⟨b0, b1, b2, b3⟩, ⟨d0, d1, d2, d3⟩, ⟨e0, e1, e2, e3⟩⟩ := (Dv.of HO.out HK2.out).c
    clear hcal hm2 k2 k2' hs17
    go_wp2_with fail
    refine bodyPost_ret (v := An4.val ⟨0, 0, 0, ⟨#[]⟩⟩) (by simp [results, Tryz.results17, go_sem, An4.val, a0, a1, a2, a3, b0, b1, b2, b3]) rfl ?_
    exact do_fin HO.out HK2.out HM2.out ((((((Kp.refl (fun k => k = w.heap.size + 1 ∨ k = w.heap.size + 2) w2).setCell (p := ⟨w.heap.size + 1, 0, none⟩) (.inl (.inl rfl)) _).setCell (p := ⟨w.heap.size + 1, 1, none⟩) (.inl (.inl rfl)) _).setCell (p := ⟨w.heap.size + 1, 2, none⟩) (.inl (.inl rfl)) _).setCell (p := ⟨w.heap.size + 1, 3, none⟩) (.inl (.inl rfl)) _)) HD.out
  · have g1 : (kd == 1) = false := by rw [beq_eq_false_iff_ne]; exact h1
    have g2 : (kd == 2) = false := by rw [beq_eq_false_iff_ne]; exact h2
    have g3 : (kd == 3) = false := by rw [beq_eq_false_iff_ne]; exact h3
    have g4 : (kd == 4) = false := by rw [beq_eq_false_iff_ne]; exact h4
    have g5 : (kd == 5) = false := by rw [beq_eq_false_iff_ne]; exact h5
    have HM2 : Hid (Mach num (W17 w ⟨kd, oa, ob, oc, os, ot⟩) X (O1 O (W17 w ⟨kd, oa, ob, oc, os, ot⟩) (W17 w ⟨kd, oa, ob, oc, os, ot⟩)) st) := HM.out.wide (fun k e => .inl e) (fun k e => by
      rcases e with e | e
      · have := HO.out k e; omega
      · exact e.2)
    clear h hW h1 h2 h3 h4 h5 hs17
    go_enter Tryz.func17, Tryz.ntmps17
    go_wp2_with fail
    refine bodyPost_ret (v := An4.val ⟨0, 0, 0, ⟨#[]⟩⟩) (by simp [results, Tryz.results17, go_sem, An4.val]) rfl ?_
    exact do_fin (w2 := W17 w ⟨kd, oa, ob, oc, os, ot⟩) HO.out (Kp.refl _ _) HM2.out (Kp.refl _ _) HD.out
end
end Go.Proofs.Qxb6500275aGreatDoor
