import Derived.Test.Qxb6500275aGreatDoorXoc
set_option maxRecDepth 100000
set_option linter.unusedVariables false
set_option linter.unusedSimpArgs false
namespace Go.Proofs.Qxb6500275aGreatDoor
open Go Go.RowKit
theorem ap_upd2 {A A' : Nat → Nat → Prop} (i0 : Nat) (h : ∀ i j k, i ≠ j → A i k → ¬ A j k) (h1 : ∀ i, i ≠ i0 → ∀ k, A' i k → A i k) (h2 : ∀ k, A' i0 k → A i0 k ∨ ∀ i, ¬ A i k) : ∀ i j k, i ≠ j → A' i k → ¬ A' j k := by
  intro i j k hij hi hj
  by_cases e : i = i0
  · subst e
    have hj' := h1 j (fun e => hij e.symm) k hj
    rcases h2 k hi with h3 | h3
    · exact h i j k hij h3 hj'
    · exact h3 j hj'
  · have hi' := h1 i e k hi
    by_cases e2 : j = i0
    · subst e2
      rcases h2 k hj with h3 | h3
      · exact h i j k hij hi' h3
      · exact h3 i hi'
    · exact h i j k hij hi' (h1 j e2 k hj)
theorem u143 : Tryz.prog.underlying 143 = some (.slice 301) := by kernel_rfl
theorem i301i : ∃ (i : TypeInfo) (z : Value), Tryz.prog.info? 301 = some i ∧ i.zero = some z ∧ z.cells.size = 5 ∧ i.size = 5 ∧ i.bytes ≤ 1000 := by
  have h0 : (Tryz.prog.info? 301).map (fun i => (i.zero.map (fun z => z.cells.size), i.size, decide (i.bytes ≤ 1000))) = some (some 5, 5, true) := by kernel_rfl
  cases h : Tryz.prog.info? 301 with
  | none => rw [h] at h0; simp at h0
  | some i =>
    rw [h] at h0
    simp at h0
    obtain ⟨⟨z, h1, h2⟩, h3, h4⟩ := h0
    exact ⟨i, z, rfl, h1, h2, h3, h4⟩
theorem nil_own2 {k : Nat} (h : (Value.slice none 0 0).ownBlock = some k) : False := by simp [Value.ownBlock] at h
section
variable {u : World} {vf : Value} {fs : List (MF × FT3)}
/- a frame more -/
theorem Fstk.pushF (h : Fstk u vf fs) (hn : fs.length ≤ 1000) {r : MF} {ta : Option Addr} {tn tc : Nat} (hl : OR u 229 2 (.slice ta tn tc) r.loc.length (valC r.loc)) (ho : r.ops = []) (hb : r.labs = []) (hd : ∀ k, (Value.slice ta tn tc).ownBlock = some k → ¬ FsB vf fs k) :
    ∃ v' w', (Builtin.append_ #[143, 143] 143 #[vf, .slice (some ⟨u.heap.size, 0, none⟩) 1 1]).run Tryz.prog (u.alloc (.cells #[.int .i64 r.f, .int .i64 (r.pc : Int), .slice ta tn tc, .slice none 0 0, .slice none 0 0] 301)) = .ok v' w' ∧
      Fstk w' v' (fs ++ [(r, ⟨.slice ta tn tc, .slice none 0 0, .slice none 0 0⟩)]) ∧ Kp (fun k => vf.ownBlock = some k) u w' ∧ OwnO u vf v' := by
  obtain ⟨i, z, i1, i2, i3, i4, i5⟩ := i301i
  have hk : Kp (fun _ => False) u (u.alloc (.cells #[.int .i64 r.f, .int .i64 (r.pc : Int), .slice ta tn tc, .slice none 0 0, .slice none 0 0] 301)) := (Kp.refl _ _).alloc _
  obtain ⟨v', w', r1, r2, r3, r4⟩ := (h.row.keep hk (fun _ _ h => h)).app (t := 143) (ty := 143) u143 i1 i2 i4 rfl i3 (by decide) i5 (by omega) ⟨u.heap.size, 0, none⟩ 1 (frC (r, ⟨.slice ta tn tc, .slice none 0 0, .slice none 0 0⟩)) rfl (fun j y hy => by
    rw [add_none, Nat.zero_add]
    have hj := (List.getElem?_eq_some_iff.1 hy).1
    have hj5 : j < 5 := hj
    have hb := blk_al u #[.int .i64 r.f, .int .i64 (r.pc : Int), .slice ta tn tc, .slice none 0 0, .slice none 0 0] 301
    rcases (by omega : j = 0 ∨ j = 1 ∨ j = 2 ∨ j = 3 ∨ j = 4) with rfl | rfl | rfl | rfl | rfl
    · rw [← Option.some.inj hy]; exact hb.cell (i := 0) (by simp)
    · rw [← Option.some.inj hy]; exact hb.cell (i := 1) (by simp)
    · rw [← Option.some.inj hy]; exact hb.cell (i := 2) (by simp)
    · rw [← Option.some.inj hy]; exact hb.cell (i := 3) (by simp)
    · rw [← Option.some.inj hy]; exact hb.cell (i := 4) (by simp)) (fun y hy => by
    simp [frC] at hy
    rcases hy with rfl | rfl | rfl | rfl <;> rfl)
  have r3' : Kp (fun k => vf.ownBlock = some k) u w' := (hk.mono (fun _ h => h.elim)).trans r3
  have r4' : OwnO u vf v' := fun k hk2 => by
    rcases r4 k hk2 with h | h
    · exact .inl h
    · exact .inr (Nat.le_trans hk.size h)
  have hold : ∀ y, y ∈ fs → FrM w' y ∧ ∀ k, v'.ownBlock = some k → ¬ FtB y.2 k := fun y hy => by
    have hfy := h.fr y hy
    refine ⟨hfy.1.keep r3' (fun k e e2 => hfy.2 k e2 e), fun k e e2 => ?_⟩
    rcases r4' k e with h5 | h5
    · exact hfy.2 k h5 e2
    · have := hfy.1.lt e2; omega
  refine ⟨v', w', r1, ⟨?_, fun y hy => ?_, ?_⟩, r3', r4'⟩
  · rw [List.length_append, List.flatMap_append]
    exact r2
  · rcases List.mem_append.1 hy with hy | hy
    · exact hold y hy
    · simp at hy
      subst hy
      refine ⟨⟨hl.keep r3' (fun k e e2 => hd k e (.inl e2)), ?_, ?_, fun k e => ⟨fun e2 => nil_own2 e2, fun e2 => nil_own2 e2⟩, fun k e => (nil_own2 e).elim⟩, fun k e e2 => ?_⟩
      · dsimp only; rw [ho]; exact OR.nil _ _ _
      · dsimp only; rw [hb]; exact OR.nil _ _ _
      · rcases e2 with e2 | e2 | e2
        · rcases r4' k e with h5 | h5
          · exact hd k e2 (.inl h5)
          · have := hl.lt e2; omega
        · exact nil_own2 e2
        · exact nil_own2 e2
  · refine List.pairwise_append.2 ⟨h.dj, by simp, fun y hy z hz k hk e => ?_⟩
    simp at hz
    subst hz
    rcases e with e | e | e
    · exact hd k e (.inr ⟨y, hy, hk⟩)
    · exact nil_own2 e
    · exact nil_own2 e
end
section
variable {w0 w u : World} {N0 N : EN} {q : MQ} {g cap : Nat} {q0 q1 : List (MF × FT3)} {x b : MF × FT3}
/- a call's new frame -/
theorem Ew.pushF (h : Ew w0 N0 u N q g cap q0 x) (hn : q0.length ≤ 100) {r : MF} {ta : Option Addr} {tn tc : Nat} (hl : OR u 229 2 (.slice ta tn tc) r.loc.length (valC r.loc)) (ho : r.ops = []) (hb : r.labs = []) (hd : ∀ k, (Value.slice ta tn tc).ownBlock = some k → ¬ N.all k ∧ w0.heap.size ≤ k) :
    ∃ v' w' g' cap', (Builtin.append_ #[143, 143] 143 #[.slice (some ⟨g, 0, none⟩) (q0.length + 1) cap, .slice (some ⟨u.heap.size, 0, none⟩) 1 1]).run Tryz.prog (u.alloc (.cells #[.int .i64 r.f, .int .i64 (r.pc : Int), .slice ta tn tc, .slice none 0 0, .slice none 0 0] 301)) = .ok v' w' ∧ v' = .slice (some ⟨g', 0, none⟩) (q0.length + 1 + 1) cap' ∧
      (w'.cell? ⟨N.xb, 3, none⟩ = some (.slice (some ⟨g, 0, none⟩) (q0.length + 1) cap) ∧ w'.frozen? ⟨N.xb, 3, none⟩ = false) ∧
      Ew w0 N0 (w'.setCell ⟨N.xb, 3, none⟩ v') { N with vf := v', fs := q0 ++ [x] ++ [(r, ⟨.slice ta tn tc, .slice none 0 0, .slice none 0 0⟩)] } { q with fr := r :: q.fr } g' cap' (q0 ++ [x]) (r, ⟨.slice ta tn tc, .slice none 0 0, .slice none 0 0⟩) := by
  have hl2 : (q0 ++ [x]).length = q0.length + 1 := by simp
  have hF := h.fk
  obtain ⟨v', w', r1, r2, r3, r4⟩ := hF.pushF (by omega) hl ho hb (fun k e e2 => (hd k e).1 ⟨4, by show FsB N.vf N.fs k; rw [h.fs]; exact e2⟩)
  obtain ⟨g', cap', hv', _⟩ := r2.top
  rw [hl2] at hv'
  have hxb : ¬ N.vf.ownBlock = some N.xb := fun e => h.em.ap 0 4 N.xb (by decide) rfl (.inl e)
  have hC := h.cells rfl
  have hxlt : N.xb < u.heap.size := lt_of_cell hC.x0
  rw [h.vf] at r1
  have hown : ∀ k, FsB v' (q0 ++ [x] ++ [(r, (⟨.slice ta tn tc, .slice none 0 0, .slice none 0 0⟩ : FT3))]) k → FsB N.vf N.fs k ∨ u.heap.size ≤ k ∨ (Value.slice ta tn tc).ownBlock = some k := fun k hk => by
    rcases hk with e | ⟨y, hy, e⟩
    · rcases r4 k e with h5 | h5
      · exact .inl (.inl h5)
      · exact .inr (.inl h5)
    · rcases List.mem_append.1 hy with hy | hy
      · exact .inl (.inr ⟨y, by rw [h.fs]; exact hy, e⟩)
      · simp at hy
        subst hy
        rcases e with e | e | e
        · exact .inr (.inr e)
        · exact (nil_own2 e).elim
        · exact (nil_own2 e).elim
  have h1 : ∀ i, i ≠ 4 → ∀ k, ({ N with vf := v', fs := q0 ++ [x] ++ [(r, ⟨.slice ta tn tc, .slice none 0 0, .slice none 0 0⟩)] } : EN).own i k → N.own i k := fun i hi k hk => by
    match i, hi, hk with
    | 0, _, hk => exact hk
    | 1, _, hk => exact hk
    | 2, _, hk => exact hk
    | 3, _, hk => exact hk
    | 4, hi, _ => exact absurd rfl hi
    | n + 5, _, hk => exact hk.elim
  have ha : ∀ i k, i ≠ 4 → N.own i k → ¬ N.vf.ownBlock = some k := fun i k hi hk e => h.em.ap i 4 k hi hk (.inl e)
  have hx : ∀ i k, i ≠ 0 → N.own i k → k ≠ N.xb := fun i k hi hk e => h.em.ap i 0 k hi hk e
  have hset : Kp (fun k => k = N.xb) w' (w'.setCell ⟨N.xb, 3, none⟩ v') := kp_set1 w' v' rfl
  obtain ⟨F, bk, f0, f1, f2, f3, f4⟩ := h.em.xk
  have hfx : ∀ k, FsB v' (q0 ++ [x] ++ [(r, (⟨.slice ta tn tc, .slice none 0 0, .slice none 0 0⟩ : FT3))]) k → k ≠ N.xb := fun k hk e => by
    rcases hown k hk with h5 | h5 | h5
    · exact hx 4 k (by decide) h5 e
    · omega
    · exact (hd k h5).1 ⟨0, e⟩
  refine ⟨v', w', g', cap', r1, hv', ⟨?_, ?_⟩, ⟨⟨⟨_, (bk.keep r3 hxb).set (i := 3) (by decide) v', by simp [upd, f0, f1, f2, f4]⟩, (h.em.st.keep r3 (fun k e => ha 1 k (by decide) e)).keep hset (fun k e => hx 1 k (by decide) e), (h.em.h.keep r3 (fun k e => ha 2 k (by decide) e)).keep hset (fun k e => hx 2 k (by decide) e), (h.em.mw.keep r3 (fun k e => ha 3 k (by decide) e)).keep hset (fun k e => hx 3 k (by decide) e), r2.keep hset hfx, ap_upd2 4 h.em.ap h1 (fun k hk => ?_)⟩, rfl, ?_, by rw [hl2]; exact hv', h.xb, h.sb, h.hb, h.mb, h.m, ⟨?_, fun k hk => ?_⟩⟩⟩
  · rw [r3.cell (p := ⟨N.xb, 3, none⟩) hxlt hxb]; exact hC.x3
  · rw [r3.frozen (p := ⟨N.xb, 3, none⟩) hxlt hxb]; exact hC.y3
  · rcases hown k hk with h5 | h5 | h5
    · exact .inl h5
    · exact .inr (fun i hi => by have := h.em.lt hi; omega)
    · exact .inr (fun i hi => (hd k h5).1 ⟨i, hi⟩)
  · show r :: q.fr = r :: ((q0 ++ [x]).map (·.1)).reverse
    rw [h.fr]
    simp
  · refine h.gw.kp.later ((r3.mono (fun k e => (.inl e : N.vf.ownBlock = some k ∨ k = N.xb))).trans (hset.mono (fun k e => .inr e))) (fun k hk => ?_)
    rcases hk with e | e
    · exact h.gw.own k ⟨4, .inl e⟩
    · exact h.gw.own k ⟨0, e⟩
  · obtain ⟨i, hi⟩ := hk
    by_cases e : i = 4
    · subst e
      rcases hown k hi with h5 | h5 | h5
      · exact h.gw.own k ⟨4, h5⟩
      · exact .inr (Nat.le_trans h.gw.kp.size h5)
      · exact .inr (hd k h5).2
    · exact h.gw.own k ⟨i, h1 i e k hi⟩
end
end Go.Proofs.Qxb6500275aGreatDoor
