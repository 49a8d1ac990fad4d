import Derived.Test.Qxb6500275aGreatDoorMw1
set_option maxRecDepth 100000
set_option linter.unusedVariables false
set_option linter.unusedSimpArgs false
namespace Go.Proofs.Qxb6500275aGreatDoor
open Go Go.RowKit
section
variable {w w' w1 : World} {mb : Nat} {m m' : MT} {P : Nat → Prop}
/- one main row is laid anew, and the cell that holds it -/
theorem Mw.lay (h : Mw w mb m) {A B : List Row} {r r' : Row} {j : Nat} (hrows : m.rows = A ++ r :: B) (hrows' : m'.rows = A ++ r' :: B) (hk : Kp (fun k => r.v.ownBlock = some k) w w1) (ho : r'.ok w1) (hown : OwnO w r.v r'.v)
    (hcell : ∀ i, i < 12 → ∀ v, (if i = j then some r'.v else w.cell? ⟨mb, i, none⟩) = v → True) (hj : w.cell? ⟨mb, j, none⟩ = some r.v)
    (hc : (∀ o, (w1.setCell ⟨mb, j, none⟩ r'.v).cell? ⟨mb, o, none⟩ = if o = j then some r'.v else w.cell? ⟨mb, o, none⟩) → ((w1.setCell ⟨mb, j, none⟩ r'.v).cell? ⟨mb, 0, none⟩ = some m'.vt ∧ (w1.setCell ⟨mb, j, none⟩ r'.v).cell? ⟨mb, 1, none⟩ = some m'.vi ∧ (w1.setCell ⟨mb, j, none⟩ r'.v).cell? ⟨mb, 2, none⟩ = some m'.vf ∧ (w1.setCell ⟨mb, j, none⟩ r'.v).cell? ⟨mb, 3, none⟩ = some (.int .i64 m'.tabMin) ∧ (w1.setCell ⟨mb, j, none⟩ r'.v).cell? ⟨mb, 4, none⟩ = some (.int .i64 m'.tabMax) ∧ (w1.setCell ⟨mb, j, none⟩ r'.v).cell? ⟨mb, 5, none⟩ = some (.int .i64 m'.memMin) ∧ (w1.setCell ⟨mb, j, none⟩ r'.v).cell? ⟨mb, 6, none⟩ = some (.int .i64 m'.memMax) ∧ (w1.setCell ⟨mb, j, none⟩ r'.v).cell? ⟨mb, 7, none⟩ = some m'.vg ∧ (w1.setCell ⟨mb, j, none⟩ r'.v).cell? ⟨mb, 8, none⟩ = some m'.vx ∧ (w1.setCell ⟨mb, j, none⟩ r'.v).cell? ⟨mb, 9, none⟩ = some (.int .i64 m'.start) ∧ (w1.setCell ⟨mb, j, none⟩ r'.v).cell? ⟨mb, 10, none⟩ = some m'.ve ∧ (w1.setCell ⟨mb, j, none⟩ r'.v).cell? ⟨mb, 11, none⟩ = some m'.vd)) :
    (w1.cell? ⟨mb, j, none⟩ = some r.v ∧ w1.frozen? ⟨mb, j, none⟩ = false) ∧ Mw (w1.setCell ⟨mb, j, none⟩ r'.v) mb m' ∧ Kp (MwB mb m) w (w1.setCell ⟨mb, j, none⟩ r'.v) ∧ MwO w mb m m' := by
  have hlt : mb < w.heap.size := lt_of_cell h.c0
  have hr : r ∈ m.rows := by rw [hrows]; simp
  have hne := h.ne r hr
  have ec : ∀ o, w1.cell? ⟨mb, o, none⟩ = w.cell? ⟨mb, o, none⟩ := fun o => hk.cell (p := ⟨mb, o, none⟩) hlt hne
  have ef : ∀ o, w1.frozen? ⟨mb, o, none⟩ = w.frozen? ⟨mb, o, none⟩ := fun o => hk.frozen (p := ⟨mb, o, none⟩) hlt hne
  have hvf : r'.v.ownBlock ≠ some mb := fun e => by
    rcases hown mb e with h5 | h5
    · exact hne h5
    · omega
  have hcs : ∀ o, (w1.setCell ⟨mb, j, none⟩ r'.v).cell? ⟨mb, o, none⟩ = if o = j then some r'.v else w.cell? ⟨mb, o, none⟩ := fun o => by
    by_cases e : o = j
    · subst e
      rw [if_pos rfl]
      have := (ec o).trans hj
      simp [this, go_sem]
    · rw [if_neg e, ← ec o]
      simp [e, go_sem]
  obtain ⟨q0, q1, q2, q3, q4, q5, q6, q7, q8, q9, q10, q11⟩ := hc hcs
  have hRows : RowsOk w1 m'.rows := by
    rw [hrows']
    have h0 := h.rows
    rw [hrows] at h0
    exact h0.upd hk ho hown
  have hne' : ∀ x, x ∈ m'.rows → x.v.ownBlock ≠ some mb := fun x hx => by
    rw [hrows'] at hx
    rcases List.mem_append.1 hx with hx | hx
    · exact h.ne x (by rw [hrows]; simp [hx])
    · rcases List.mem_cons.1 hx with hx | hx
      · rw [hx]; exact hvf
      · exact h.ne x (by rw [hrows]; simp [hx])
  refine ⟨⟨(ec j).trans hj, (ef j).trans (h.fz j)⟩, ⟨q0, q1, q2, q3, q4, q5, q6, q7, q8, q9, q10, q11, fun i => ?_, ⟨fun x hx => OR.other (hRows.ok x hx) (fun k e1 e2 => hne' x hx (by rw [← e2]; exact e1)) _, hRows.dj⟩, hne'⟩, ?_, fun k hk2 => ?_⟩
  · rw [World.frozen?_setCell]
    exact (ef i).trans (h.fz i)
  · exact (hk.mono (fun k e => .inr ⟨r, hr, e⟩)).setCell (p := ⟨mb, j, none⟩) (.inl (.inl rfl)) r'.v
  · rcases hk2 with e | ⟨x, hx, e⟩
    · exact .inl (.inl e)
    · rw [hrows'] at hx
      rcases List.mem_append.1 hx with hx | hx
      · exact .inl (.inr ⟨x, by rw [hrows]; simp [hx], e⟩)
      · rcases List.mem_cons.1 hx with hx | hx
        · rw [hx] at e
          rcases hown k e with h5 | h5
          · exact .inl (.inr ⟨r, hr, h5⟩)
          · exact .inr h5
        · exact .inl (.inr ⟨x, by rw [hrows]; simp [hx], e⟩)
theorem Mw.pushTy (h : Mw w mb m) (hn : m.types.length ≤ 1000) (x : Ty) : ∃ v' w1, (Builtin.append_ #[77, 77] 77 #[m.vt, .slice (some ⟨w.heap.size, 0, none⟩) 1 1]).run Tryz.prog (w.alloc (.cells #[.string x.text] 9)) = .ok v' w1 ∧ (∃ a n c, v' = .slice a n c) ∧
    (w1.cell? ⟨mb, 0, none⟩ = some m.vt ∧ w1.frozen? ⟨mb, 0, none⟩ = false) ∧ Mw (w1.setCell ⟨mb, 0, none⟩ v') mb { m with types := m.types ++ [x], vt := v' } ∧ Kp (MwB mb m) w (w1.setCell ⟨mb, 0, none⟩ v') ∧ MwO w mb m { m with types := m.types ++ [x], vt := v' } := by
  obtain ⟨i, z, i1, i2, i3, i4, i5⟩ := infoOf iTest.1
  have hr : (⟨9, 1, m.vt, m.types.length, m.types.flatMap tyC⟩ : Row) ∈ m.rows := by unfold MT.rows MT.mains; simp
  have hR : OR w 9 1 m.vt m.types.length (m.types.flatMap tyC) := h.rows.ok _ hr
  obtain ⟨v', w1, r1, r2, r3, r4⟩ := hR.pushN u77s i1 i2 i4 (by omega) i3 (by decide) (by omega) #[.string x.text] rfl (by intro u hu; simp at hu; rcases hu with rfl <;> rfl)
  refine ⟨v', w1, r1, (by obtain ⟨a, c, e⟩ := r2.slice; exact ⟨a, _, c, e⟩), ?_⟩
  refine h.lay (m' := { m with types := m.types ++ [x], vt := v' }) (r := ⟨9, 1, m.vt, m.types.length, m.types.flatMap tyC⟩) (r' := ⟨9, 1, v', (m.types ++ [x]).length, (m.types ++ [x]).flatMap tyC⟩) (A := []) (B := [⟨121, 3, m.vi, m.imports.length, m.imports.flatMap impC⟩, ⟨124, 4, m.vf, m.fs.length, m.fs.flatMap fnC⟩, ⟨131, 5, m.vg, m.globals.length, m.globals.flatMap globC⟩, ⟨134, 3, m.vx, m.exports.length, m.exports.flatMap expC⟩, ⟨136, 4, m.ve, m.es.length, m.es.flatMap elmC⟩, ⟨138, 4, m.vd, m.datas.length, m.datas.flatMap datC⟩] ++ (m.es.flatMap elRows ++ m.fs.flatMap fnRows)) rfl rfl r3 ?_ r4 (fun _ _ _ _ => trivial) h.c0 ?_
  · show OR w1 9 1 v' (m.types ++ [x]).length ((m.types ++ [x]).flatMap tyC)
    rw [List.length_append, List.flatMap_append]
    simpa [tyC] using r2
  · intro hc
    exact ⟨(hc 0).trans rfl, (hc 1).trans h.c1, (hc 2).trans h.c2, (hc 3).trans h.c3, (hc 4).trans h.c4, (hc 5).trans h.c5, (hc 6).trans h.c6, (hc 7).trans h.c7, (hc 8).trans h.c8, (hc 9).trans h.c9, (hc 10).trans h.c10, (hc 11).trans h.c11⟩
theorem Mw.pushIm (h : Mw w mb m) (hn : m.imports.length ≤ 1000) (x : Imp) : ∃ v' w1, (Builtin.append_ #[78, 78] 78 #[m.vi, .slice (some ⟨w.heap.size, 0, none⟩) 1 1]).run Tryz.prog (w.alloc (.cells #[.string x.mod, .string x.name, .int .i64 x.ty] 121)) = .ok v' w1 ∧ (∃ a n c, v' = .slice a n c) ∧
    (w1.cell? ⟨mb, 1, none⟩ = some m.vi ∧ w1.frozen? ⟨mb, 1, none⟩ = false) ∧ Mw (w1.setCell ⟨mb, 1, none⟩ v') mb { m with imports := m.imports ++ [x], vi := v' } ∧ Kp (MwB mb m) w (w1.setCell ⟨mb, 1, none⟩ v') ∧ MwO w mb m { m with imports := m.imports ++ [x], vi := v' } := by
  obtain ⟨i, z, i1, i2, i3, i4, i5⟩ := infoOf iTest.2.1
  have hr : (⟨121, 3, m.vi, m.imports.length, m.imports.flatMap impC⟩ : Row) ∈ m.rows := by unfold MT.rows MT.mains; simp
  have hR : OR w 121 3 m.vi m.imports.length (m.imports.flatMap impC) := h.rows.ok _ hr
  obtain ⟨v', w1, r1, r2, r3, r4⟩ := hR.pushN u78s i1 i2 i4 (by omega) i3 (by decide) (by omega) #[.string x.mod, .string x.name, .int .i64 x.ty] rfl (by intro u hu; simp at hu; rcases hu with rfl | rfl | rfl <;> rfl)
  refine ⟨v', w1, r1, (by obtain ⟨a, c, e⟩ := r2.slice; exact ⟨a, _, c, e⟩), ?_⟩
  refine h.lay (m' := { m with imports := m.imports ++ [x], vi := v' }) (r := ⟨121, 3, m.vi, m.imports.length, m.imports.flatMap impC⟩) (r' := ⟨121, 3, v', (m.imports ++ [x]).length, (m.imports ++ [x]).flatMap impC⟩) (A := [⟨9, 1, m.vt, m.types.length, m.types.flatMap tyC⟩]) (B := [⟨124, 4, m.vf, m.fs.length, m.fs.flatMap fnC⟩, ⟨131, 5, m.vg, m.globals.length, m.globals.flatMap globC⟩, ⟨134, 3, m.vx, m.exports.length, m.exports.flatMap expC⟩, ⟨136, 4, m.ve, m.es.length, m.es.flatMap elmC⟩, ⟨138, 4, m.vd, m.datas.length, m.datas.flatMap datC⟩] ++ (m.es.flatMap elRows ++ m.fs.flatMap fnRows)) rfl rfl r3 ?_ r4 (fun _ _ _ _ => trivial) h.c1 ?_
  · show OR w1 121 3 v' (m.imports ++ [x]).length ((m.imports ++ [x]).flatMap impC)
    rw [List.length_append, List.flatMap_append]
    simpa [impC] using r2
  · intro hc
    exact ⟨(hc 0).trans h.c0, (hc 1).trans rfl, (hc 2).trans h.c2, (hc 3).trans h.c3, (hc 4).trans h.c4, (hc 5).trans h.c5, (hc 6).trans h.c6, (hc 7).trans h.c7, (hc 8).trans h.c8, (hc 9).trans h.c9, (hc 10).trans h.c10, (hc 11).trans h.c11⟩
theorem Mw.pushGl (h : Mw w mb m) (hn : m.globals.length ≤ 1000) (x : Glob) : ∃ v' w1, (Builtin.append_ #[80, 80] 80 #[m.vg, .slice (some ⟨w.heap.size, 0, none⟩) 1 1]).run Tryz.prog (w.alloc (.cells #[.int .u8 (x.ty : Int), .bool x.mu, .int .u8 (x.init.op : Int), .int .u32 x.init.x, .int .u64 x.init.y] 131)) = .ok v' w1 ∧ (∃ a n c, v' = .slice a n c) ∧
    (w1.cell? ⟨mb, 7, none⟩ = some m.vg ∧ w1.frozen? ⟨mb, 7, none⟩ = false) ∧ Mw (w1.setCell ⟨mb, 7, none⟩ v') mb { m with globals := m.globals ++ [x], vg := v' } ∧ Kp (MwB mb m) w (w1.setCell ⟨mb, 7, none⟩ v') ∧ MwO w mb m { m with globals := m.globals ++ [x], vg := v' } := by
  obtain ⟨i, z, i1, i2, i3, i4, i5⟩ := infoOf iTest.2.2.2.1
  have hr : (⟨131, 5, m.vg, m.globals.length, m.globals.flatMap globC⟩ : Row) ∈ m.rows := by unfold MT.rows MT.mains; simp
  have hR : OR w 131 5 m.vg m.globals.length (m.globals.flatMap globC) := h.rows.ok _ hr
  obtain ⟨v', w1, r1, r2, r3, r4⟩ := hR.pushN u80s i1 i2 i4 (by omega) i3 (by decide) (by omega) #[.int .u8 (x.ty : Int), .bool x.mu, .int .u8 (x.init.op : Int), .int .u32 x.init.x, .int .u64 x.init.y] rfl (by intro u hu; simp at hu; rcases hu with rfl | rfl | rfl | rfl | rfl <;> rfl)
  refine ⟨v', w1, r1, (by obtain ⟨a, c, e⟩ := r2.slice; exact ⟨a, _, c, e⟩), ?_⟩
  refine h.lay (m' := { m with globals := m.globals ++ [x], vg := v' }) (r := ⟨131, 5, m.vg, m.globals.length, m.globals.flatMap globC⟩) (r' := ⟨131, 5, v', (m.globals ++ [x]).length, (m.globals ++ [x]).flatMap globC⟩) (A := [⟨9, 1, m.vt, m.types.length, m.types.flatMap tyC⟩, ⟨121, 3, m.vi, m.imports.length, m.imports.flatMap impC⟩, ⟨124, 4, m.vf, m.fs.length, m.fs.flatMap fnC⟩]) (B := [⟨134, 3, m.vx, m.exports.length, m.exports.flatMap expC⟩, ⟨136, 4, m.ve, m.es.length, m.es.flatMap elmC⟩, ⟨138, 4, m.vd, m.datas.length, m.datas.flatMap datC⟩] ++ (m.es.flatMap elRows ++ m.fs.flatMap fnRows)) rfl rfl r3 ?_ r4 (fun _ _ _ _ => trivial) h.c7 ?_
  · show OR w1 131 5 v' (m.globals ++ [x]).length ((m.globals ++ [x]).flatMap globC)
    rw [List.length_append, List.flatMap_append]
    simpa [globC] using r2
  · intro hc
    exact ⟨(hc 0).trans h.c0, (hc 1).trans h.c1, (hc 2).trans h.c2, (hc 3).trans h.c3, (hc 4).trans h.c4, (hc 5).trans h.c5, (hc 6).trans h.c6, (hc 7).trans rfl, (hc 8).trans h.c8, (hc 9).trans h.c9, (hc 10).trans h.c10, (hc 11).trans h.c11⟩
theorem Mw.pushEx (h : Mw w mb m) (hn : m.exports.length ≤ 1000) (x : Exp) : ∃ v' w1, (Builtin.append_ #[81, 81] 81 #[m.vx, .slice (some ⟨w.heap.size, 0, none⟩) 1 1]).run Tryz.prog (w.alloc (.cells #[.string x.name, .int .u8 (x.kind : Int), .int .u32 x.idx] 134)) = .ok v' w1 ∧ (∃ a n c, v' = .slice a n c) ∧
    (w1.cell? ⟨mb, 8, none⟩ = some m.vx ∧ w1.frozen? ⟨mb, 8, none⟩ = false) ∧ Mw (w1.setCell ⟨mb, 8, none⟩ v') mb { m with exports := m.exports ++ [x], vx := v' } ∧ Kp (MwB mb m) w (w1.setCell ⟨mb, 8, none⟩ v') ∧ MwO w mb m { m with exports := m.exports ++ [x], vx := v' } := by
  obtain ⟨i, z, i1, i2, i3, i4, i5⟩ := infoOf iTest.2.2.2.2.1
  have hr : (⟨134, 3, m.vx, m.exports.length, m.exports.flatMap expC⟩ : Row) ∈ m.rows := by unfold MT.rows MT.mains; simp
  have hR : OR w 134 3 m.vx m.exports.length (m.exports.flatMap expC) := h.rows.ok _ hr
  obtain ⟨v', w1, r1, r2, r3, r4⟩ := hR.pushN u81s i1 i2 i4 (by omega) i3 (by decide) (by omega) #[.string x.name, .int .u8 (x.kind : Int), .int .u32 x.idx] rfl (by intro u hu; simp at hu; rcases hu with rfl | rfl | rfl <;> rfl)
  refine ⟨v', w1, r1, (by obtain ⟨a, c, e⟩ := r2.slice; exact ⟨a, _, c, e⟩), ?_⟩
  refine h.lay (m' := { m with exports := m.exports ++ [x], vx := v' }) (r := ⟨134, 3, m.vx, m.exports.length, m.exports.flatMap expC⟩) (r' := ⟨134, 3, v', (m.exports ++ [x]).length, (m.exports ++ [x]).flatMap expC⟩) (A := [⟨9, 1, m.vt, m.types.length, m.types.flatMap tyC⟩, ⟨121, 3, m.vi, m.imports.length, m.imports.flatMap impC⟩, ⟨124, 4, m.vf, m.fs.length, m.fs.flatMap fnC⟩, ⟨131, 5, m.vg, m.globals.length, m.globals.flatMap globC⟩]) (B := [⟨136, 4, m.ve, m.es.length, m.es.flatMap elmC⟩, ⟨138, 4, m.vd, m.datas.length, m.datas.flatMap datC⟩] ++ (m.es.flatMap elRows ++ m.fs.flatMap fnRows)) rfl rfl r3 ?_ r4 (fun _ _ _ _ => trivial) h.c8 ?_
  · show OR w1 134 3 v' (m.exports ++ [x]).length ((m.exports ++ [x]).flatMap expC)
    rw [List.length_append, List.flatMap_append]
    simpa [expC] using r2
  · intro hc
    exact ⟨(hc 0).trans h.c0, (hc 1).trans h.c1, (hc 2).trans h.c2, (hc 3).trans h.c3, (hc 4).trans h.c4, (hc 5).trans h.c5, (hc 6).trans h.c6, (hc 7).trans h.c7, (hc 8).trans rfl, (hc 9).trans h.c9, (hc 10).trans h.c10, (hc 11).trans h.c11⟩
theorem Mw.pushDa (h : Mw w mb m) (hn : m.datas.length ≤ 1000) (x : Dat) : ∃ v' w1, (Builtin.append_ #[83, 83] 83 #[m.vd, .slice (some ⟨w.heap.size, 0, none⟩) 1 1]).run Tryz.prog (w.alloc (.cells #[.int .u8 (x.off.op : Int), .int .u32 x.off.x, .int .u64 x.off.y, .string x.bytes] 138)) = .ok v' w1 ∧ (∃ a n c, v' = .slice a n c) ∧
    (w1.cell? ⟨mb, 11, none⟩ = some m.vd ∧ w1.frozen? ⟨mb, 11, none⟩ = false) ∧ Mw (w1.setCell ⟨mb, 11, none⟩ v') mb { m with datas := m.datas ++ [x], vd := v' } ∧ Kp (MwB mb m) w (w1.setCell ⟨mb, 11, none⟩ v') ∧ MwO w mb m { m with datas := m.datas ++ [x], vd := v' } := by
  obtain ⟨i, z, i1, i2, i3, i4, i5⟩ := infoOf iTest.2.2.2.2.2.2
  have hr : (⟨138, 4, m.vd, m.datas.length, m.datas.flatMap datC⟩ : Row) ∈ m.rows := by unfold MT.rows MT.mains; simp
  have hR : OR w 138 4 m.vd m.datas.length (m.datas.flatMap datC) := h.rows.ok _ hr
  obtain ⟨v', w1, r1, r2, r3, r4⟩ := hR.pushN u83s i1 i2 i4 (by omega) i3 (by decide) (by omega) #[.int .u8 (x.off.op : Int), .int .u32 x.off.x, .int .u64 x.off.y, .string x.bytes] rfl (by intro u hu; simp at hu; rcases hu with rfl | rfl | rfl | rfl <;> rfl)
  refine ⟨v', w1, r1, (by obtain ⟨a, c, e⟩ := r2.slice; exact ⟨a, _, c, e⟩), ?_⟩
  refine h.lay (m' := { m with datas := m.datas ++ [x], vd := v' }) (r := ⟨138, 4, m.vd, m.datas.length, m.datas.flatMap datC⟩) (r' := ⟨138, 4, v', (m.datas ++ [x]).length, (m.datas ++ [x]).flatMap datC⟩) (A := [⟨9, 1, m.vt, m.types.length, m.types.flatMap tyC⟩, ⟨121, 3, m.vi, m.imports.length, m.imports.flatMap impC⟩, ⟨124, 4, m.vf, m.fs.length, m.fs.flatMap fnC⟩, ⟨131, 5, m.vg, m.globals.length, m.globals.flatMap globC⟩, ⟨134, 3, m.vx, m.exports.length, m.exports.flatMap expC⟩, ⟨136, 4, m.ve, m.es.length, m.es.flatMap elmC⟩]) (B := [] ++ (m.es.flatMap elRows ++ m.fs.flatMap fnRows)) rfl rfl r3 ?_ r4 (fun _ _ _ _ => trivial) h.c11 ?_
  · show OR w1 138 4 v' (m.datas ++ [x]).length ((m.datas ++ [x]).flatMap datC)
    rw [List.length_append, List.flatMap_append]
    simpa [datC] using r2
  · intro hc
    exact ⟨(hc 0).trans h.c0, (hc 1).trans h.c1, (hc 2).trans h.c2, (hc 3).trans h.c3, (hc 4).trans h.c4, (hc 5).trans h.c5, (hc 6).trans h.c6, (hc 7).trans h.c7, (hc 8).trans h.c8, (hc 9).trans h.c9, (hc 10).trans h.c10, (hc 11).trans rfl⟩
/- the nested rows of x lie apart from the module's -/
theorem Mw.pushFn (h : Mw w mb m) (hn : m.fs.length ≤ 1000) (x : Fn × Value × Value) (hv : x.2.1.oneCell' = true ∧ x.2.2.oneCell' = true) (hx : RowsOk w (fnRows x)) (hd : ∀ c, c ∈ fnRows x → ∀ k, c.v.ownBlock = some k → ¬ MwB mb m k) : ∃ v' w1, (Builtin.append_ #[79, 79] 79 #[m.vf, .slice (some ⟨w.heap.size, 0, none⟩) 1 1]).run Tryz.prog (w.alloc (.cells #[.int .i64 x.1.ty, .string x.1.locals, x.2.1, x.2.2] 124)) = .ok v' w1 ∧ (∃ a n c, v' = .slice a n c) ∧
    (w1.cell? ⟨mb, 2, none⟩ = some m.vf ∧ w1.frozen? ⟨mb, 2, none⟩ = false) ∧ Mw (w1.setCell ⟨mb, 2, none⟩ v') mb { m with fs := m.fs ++ [x], vf := v' } ∧ Kp (MwB mb m) w (w1.setCell ⟨mb, 2, none⟩ v') ∧ (∀ k, MwB mb { m with fs := m.fs ++ [x], vf := v' } k → MwB mb m k ∨ w.heap.size ≤ k ∨ ∃ c, c ∈ fnRows x ∧ c.v.ownBlock = some k) := by
  obtain ⟨i, z, i1, i2, i3, i4, i5⟩ := infoOf iTest.2.2.1
  have hr : (⟨124, 4, m.vf, m.fs.length, m.fs.flatMap fnC⟩ : Row) ∈ m.rows := by unfold MT.rows MT.mains; simp
  have hR : OR w 124 4 m.vf m.fs.length (m.fs.flatMap fnC) := h.rows.ok _ hr
  obtain ⟨v', w1, r1, r2, r3, r4⟩ := hR.pushN u79s i1 i2 i4 (by omega) i3 (by decide) (by omega) #[.int .i64 x.1.ty, .string x.1.locals, x.2.1, x.2.2] rfl (by intro u hu; simp at hu; rcases hu with rfl | rfl | rfl | rfl; rfl; rfl; exact hv.1; exact hv.2)
  have hRows := h.rows
  have hsplit : m.rows = [⟨9, 1, m.vt, m.types.length, m.types.flatMap tyC⟩, ⟨121, 3, m.vi, m.imports.length, m.imports.flatMap impC⟩] ++ (⟨124, 4, m.vf, m.fs.length, m.fs.flatMap fnC⟩ : Row) :: ([⟨131, 5, m.vg, m.globals.length, m.globals.flatMap globC⟩, ⟨134, 3, m.vx, m.exports.length, m.exports.flatMap expC⟩, ⟨136, 4, m.ve, m.es.length, m.es.flatMap elmC⟩, ⟨138, 4, m.vd, m.datas.length, m.datas.flatMap datC⟩] ++ (m.es.flatMap elRows ++ m.fs.flatMap fnRows)) := rfl
  rw [hsplit] at hRows
  have hU := hRows.upd (r' := ⟨124, 4, v', (m.fs ++ [x]).length, (m.fs ++ [x]).flatMap fnC⟩) r3 (by
    show OR w1 124 4 v' (m.fs ++ [x]).length ((m.fs ++ [x]).flatMap fnC)
    rw [List.length_append, List.flatMap_append]
    simpa [fnC] using r2) r4
  have hx1 : RowsOk w1 (fnRows x) := hx.keep r3 (fun c hc k e1 e2 => hd c hc k e1 (.inr ⟨_, hr, e2⟩))
  have hdj : ∀ a, a ∈ [⟨9, 1, m.vt, m.types.length, m.types.flatMap tyC⟩, ⟨121, 3, m.vi, m.imports.length, m.imports.flatMap impC⟩] ++ (⟨124, 4, v', (m.fs ++ [x]).length, (m.fs ++ [x]).flatMap fnC⟩ : Row) :: ([⟨131, 5, m.vg, m.globals.length, m.globals.flatMap globC⟩, ⟨134, 3, m.vx, m.exports.length, m.exports.flatMap expC⟩, ⟨136, 4, m.ve, m.es.length, m.es.flatMap elmC⟩, ⟨138, 4, m.vd, m.datas.length, m.datas.flatMap datC⟩] ++ (m.es.flatMap elRows ++ m.fs.flatMap fnRows)) → ∀ c, c ∈ fnRows x → DJ a c := fun a ha c hc k e1 e2 => by
    have hck : k < w.heap.size := hx.lt hc e2
    rcases List.mem_append.1 ha with ha | ha
    · exact hd c hc k e2 (.inr ⟨a, by rw [hsplit]; exact List.mem_append.2 (.inl ha), e1⟩)
    · rcases List.mem_cons.1 ha with ha | ha
      · rw [ha] at e1
        rcases r4 k e1 with h5 | h5
        · exact hd c hc k e2 (.inr ⟨_, hr, h5⟩)
        · omega
      · exact hd c hc k e2 (.inr ⟨a, by rw [hsplit]; exact List.mem_append.2 (.inr (List.mem_cons.2 (.inr ha))), e1⟩)
  have hAll : RowsOk w1 ({ m with fs := m.fs ++ [x], vf := v' } : MT).rows := by
    have e : ({ m with fs := m.fs ++ [x], vf := v' } : MT).rows = ([⟨9, 1, m.vt, m.types.length, m.types.flatMap tyC⟩, ⟨121, 3, m.vi, m.imports.length, m.imports.flatMap impC⟩] ++ (⟨124, 4, v', (m.fs ++ [x]).length, (m.fs ++ [x]).flatMap fnC⟩ : Row) :: ([⟨131, 5, m.vg, m.globals.length, m.globals.flatMap globC⟩, ⟨134, 3, m.vx, m.exports.length, m.exports.flatMap expC⟩, ⟨136, 4, m.ve, m.es.length, m.es.flatMap elmC⟩, ⟨138, 4, m.vd, m.datas.length, m.datas.flatMap datC⟩] ++ (m.es.flatMap elRows ++ m.fs.flatMap fnRows))) ++ fnRows x := by
      unfold MT.rows MT.mains
      simp [List.flatMap_append, List.append_assoc]
    rw [e]
    exact hU.add hx1 hdj
  have hmem : ∀ y, y ∈ ({ m with fs := m.fs ++ [x], vf := v' } : MT).rows → y ∈ m.rows ∨ y.v = v' ∨ y ∈ fnRows x := fun y hy => by
    unfold MT.rows MT.mains at hy ⊢
    simp at hy ⊢
    grind
  have hlt : mb < w.heap.size := lt_of_cell h.c0
  have hne := h.ne _ hr
  have ec : ∀ o, w1.cell? ⟨mb, o, none⟩ = w.cell? ⟨mb, o, none⟩ := fun o => r3.cell (p := ⟨mb, o, none⟩) hlt hne
  have ef : ∀ o, w1.frozen? ⟨mb, o, none⟩ = w.frozen? ⟨mb, o, none⟩ := fun o => r3.frozen (p := ⟨mb, o, none⟩) hlt hne
  have hcs : ∀ o, o ≠ 2 → (w1.setCell ⟨mb, 2, none⟩ v').cell? ⟨mb, o, none⟩ = w.cell? ⟨mb, o, none⟩ := fun o e => by
    rw [← ec o]
    simp [e, go_sem]
  have hcj : (w1.setCell ⟨mb, 2, none⟩ v').cell? ⟨mb, 2, none⟩ = some v' := by
    have := (ec 2).trans h.c2
    simp [this, go_sem]
  have hne' : ∀ y, y ∈ ({ m with fs := m.fs ++ [x], vf := v' } : MT).rows → y.v.ownBlock ≠ some mb := fun y hy e => by
    rcases hmem y hy with h5 | h5 | h5
    · exact h.ne y h5 e
    · rw [h5] at e
      rcases r4 mb e with h6 | h6
      · exact hne h6
      · omega
    · exact hd y h5 mb e (.inl rfl)
  refine ⟨v', w1, r1, (by obtain ⟨a, c, e⟩ := r2.slice; exact ⟨a, _, c, e⟩), ⟨(ec 2).trans h.c2, (ef 2).trans (h.fz 2)⟩, ⟨(hcs 0 (by decide)).trans h.c0, (hcs 1 (by decide)).trans h.c1, hcj, (hcs 3 (by decide)).trans h.c3, (hcs 4 (by decide)).trans h.c4, (hcs 5 (by decide)).trans h.c5, (hcs 6 (by decide)).trans h.c6, (hcs 7 (by decide)).trans h.c7, (hcs 8 (by decide)).trans h.c8, (hcs 9 (by decide)).trans h.c9, (hcs 10 (by decide)).trans h.c10, (hcs 11 (by decide)).trans h.c11, fun i => ?_, ⟨fun y hy => OR.other (hAll.ok y hy) (fun k e1 e2 => hne' y hy (by rw [← e2]; exact e1)) _, hAll.dj⟩, hne'⟩, ?_, fun k hk2 => ?_⟩
  · rw [World.frozen?_setCell]
    exact (ef i).trans (h.fz i)
  · exact (r3.mono (fun k e => .inr ⟨_, hr, e⟩)).setCell (p := ⟨mb, 2, none⟩) (.inl (.inl rfl)) v'
  · rcases hk2 with e | ⟨y, hy, e⟩
    · exact .inl (.inl e)
    · rcases hmem y hy with h5 | h5 | h5
      · exact .inl (.inr ⟨y, h5, e⟩)
      · rw [h5] at e
        rcases r4 k e with h6 | h6
        · exact .inl (.inr ⟨_, hr, h6⟩)
        · exact .inr (.inl h6)
      · exact .inr (.inr ⟨y, h5, e⟩)
/- the nested rows of x lie apart from the module's -/
theorem Mw.pushEl (h : Mw w mb m) (hn : m.es.length ≤ 1000) (x : Elm × Value) (hv : x.2.oneCell' = true) (hx : RowsOk w (elRows x)) (hd : ∀ c, c ∈ elRows x → ∀ k, c.v.ownBlock = some k → ¬ MwB mb m k) : ∃ v' w1, (Builtin.append_ #[82, 82] 82 #[m.ve, .slice (some ⟨w.heap.size, 0, none⟩) 1 1]).run Tryz.prog (w.alloc (.cells #[.int .u8 (x.1.off.op : Int), .int .u32 x.1.off.x, .int .u64 x.1.off.y, x.2] 136)) = .ok v' w1 ∧ (∃ a n c, v' = .slice a n c) ∧
    (w1.cell? ⟨mb, 10, none⟩ = some m.ve ∧ w1.frozen? ⟨mb, 10, none⟩ = false) ∧ Mw (w1.setCell ⟨mb, 10, none⟩ v') mb { m with es := m.es ++ [x], ve := v' } ∧ Kp (MwB mb m) w (w1.setCell ⟨mb, 10, none⟩ v') ∧ (∀ k, MwB mb { m with es := m.es ++ [x], ve := v' } k → MwB mb m k ∨ w.heap.size ≤ k ∨ ∃ c, c ∈ elRows x ∧ c.v.ownBlock = some k) := by
  obtain ⟨i, z, i1, i2, i3, i4, i5⟩ := infoOf iTest.2.2.2.2.2.1
  have hr : (⟨136, 4, m.ve, m.es.length, m.es.flatMap elmC⟩ : Row) ∈ m.rows := by unfold MT.rows MT.mains; simp
  have hR : OR w 136 4 m.ve m.es.length (m.es.flatMap elmC) := h.rows.ok _ hr
  obtain ⟨v', w1, r1, r2, r3, r4⟩ := hR.pushN u82s i1 i2 i4 (by omega) i3 (by decide) (by omega) #[.int .u8 (x.1.off.op : Int), .int .u32 x.1.off.x, .int .u64 x.1.off.y, x.2] rfl (by intro u hu; simp at hu; rcases hu with rfl | rfl | rfl | rfl; rfl; rfl; rfl; exact hv)
  have hRows := h.rows
  have hsplit : m.rows = [⟨9, 1, m.vt, m.types.length, m.types.flatMap tyC⟩, ⟨121, 3, m.vi, m.imports.length, m.imports.flatMap impC⟩, ⟨124, 4, m.vf, m.fs.length, m.fs.flatMap fnC⟩, ⟨131, 5, m.vg, m.globals.length, m.globals.flatMap globC⟩, ⟨134, 3, m.vx, m.exports.length, m.exports.flatMap expC⟩] ++ (⟨136, 4, m.ve, m.es.length, m.es.flatMap elmC⟩ : Row) :: ([⟨138, 4, m.vd, m.datas.length, m.datas.flatMap datC⟩] ++ (m.es.flatMap elRows ++ m.fs.flatMap fnRows)) := rfl
  rw [hsplit] at hRows
  have hU := hRows.upd (r' := ⟨136, 4, v', (m.es ++ [x]).length, (m.es ++ [x]).flatMap elmC⟩) r3 (by
    show OR w1 136 4 v' (m.es ++ [x]).length ((m.es ++ [x]).flatMap elmC)
    rw [List.length_append, List.flatMap_append]
    simpa [elmC] using r2) r4
  have hx1 : RowsOk w1 (elRows x) := hx.keep r3 (fun c hc k e1 e2 => hd c hc k e1 (.inr ⟨_, hr, e2⟩))
  have hdj : ∀ a, a ∈ [⟨9, 1, m.vt, m.types.length, m.types.flatMap tyC⟩, ⟨121, 3, m.vi, m.imports.length, m.imports.flatMap impC⟩, ⟨124, 4, m.vf, m.fs.length, m.fs.flatMap fnC⟩, ⟨131, 5, m.vg, m.globals.length, m.globals.flatMap globC⟩, ⟨134, 3, m.vx, m.exports.length, m.exports.flatMap expC⟩] ++ (⟨136, 4, v', (m.es ++ [x]).length, (m.es ++ [x]).flatMap elmC⟩ : Row) :: ([⟨138, 4, m.vd, m.datas.length, m.datas.flatMap datC⟩] ++ (m.es.flatMap elRows ++ m.fs.flatMap fnRows)) → ∀ c, c ∈ elRows x → DJ a c := fun a ha c hc k e1 e2 => by
    have hck : k < w.heap.size := hx.lt hc e2
    rcases List.mem_append.1 ha with ha | ha
    · exact hd c hc k e2 (.inr ⟨a, by rw [hsplit]; exact List.mem_append.2 (.inl ha), e1⟩)
    · rcases List.mem_cons.1 ha with ha | ha
      · rw [ha] at e1
        rcases r4 k e1 with h5 | h5
        · exact hd c hc k e2 (.inr ⟨_, hr, h5⟩)
        · omega
      · exact hd c hc k e2 (.inr ⟨a, by rw [hsplit]; exact List.mem_append.2 (.inr (List.mem_cons.2 (.inr ha))), e1⟩)
  have hAll : RowsOk w1 ({ m with es := m.es ++ [x], ve := v' } : MT).rows := by
    have e : (({ m with es := m.es ++ [x], ve := v' } : MT).rows).Perm (([⟨9, 1, m.vt, m.types.length, m.types.flatMap tyC⟩, ⟨121, 3, m.vi, m.imports.length, m.imports.flatMap impC⟩, ⟨124, 4, m.vf, m.fs.length, m.fs.flatMap fnC⟩, ⟨131, 5, m.vg, m.globals.length, m.globals.flatMap globC⟩, ⟨134, 3, m.vx, m.exports.length, m.exports.flatMap expC⟩] ++ (⟨136, 4, v', (m.es ++ [x]).length, (m.es ++ [x]).flatMap elmC⟩ : Row) :: ([⟨138, 4, m.vd, m.datas.length, m.datas.flatMap datC⟩] ++ (m.es.flatMap elRows ++ m.fs.flatMap fnRows))) ++ elRows x) := by
      have : ({ m with es := m.es ++ [x], ve := v' } : MT).rows = ([⟨9, 1, m.vt, m.types.length, m.types.flatMap tyC⟩, ⟨121, 3, m.vi, m.imports.length, m.imports.flatMap impC⟩, ⟨124, 4, m.vf, m.fs.length, m.fs.flatMap fnC⟩, ⟨131, 5, m.vg, m.globals.length, m.globals.flatMap globC⟩, ⟨134, 3, m.vx, m.exports.length, m.exports.flatMap expC⟩, ⟨136, 4, v', (m.es ++ [x]).length, (m.es ++ [x]).flatMap elmC⟩, ⟨138, 4, m.vd, m.datas.length, m.datas.flatMap datC⟩] ++ m.es.flatMap elRows) ++ (elRows x ++ m.fs.flatMap fnRows) := by
        unfold MT.rows MT.mains
        simp [List.flatMap_append, List.append_assoc]
      rw [this]
      refine (List.Perm.append_left _ List.perm_append_comm).trans (List.Perm.of_eq ?_)
      simp [List.append_assoc]
    exact (hU.add hx1 hdj).perm e.symm
  have hmem : ∀ y, y ∈ ({ m with es := m.es ++ [x], ve := v' } : MT).rows → y ∈ m.rows ∨ y.v = v' ∨ y ∈ elRows x := fun y hy => by
    unfold MT.rows MT.mains at hy ⊢
    simp at hy ⊢
    grind
  have hlt : mb < w.heap.size := lt_of_cell h.c0
  have hne := h.ne _ hr
  have ec : ∀ o, w1.cell? ⟨mb, o, none⟩ = w.cell? ⟨mb, o, none⟩ := fun o => r3.cell (p := ⟨mb, o, none⟩) hlt hne
  have ef : ∀ o, w1.frozen? ⟨mb, o, none⟩ = w.frozen? ⟨mb, o, none⟩ := fun o => r3.frozen (p := ⟨mb, o, none⟩) hlt hne
  have hcs : ∀ o, o ≠ 10 → (w1.setCell ⟨mb, 10, none⟩ v').cell? ⟨mb, o, none⟩ = w.cell? ⟨mb, o, none⟩ := fun o e => by
    rw [← ec o]
    simp [e, go_sem]
  have hcj : (w1.setCell ⟨mb, 10, none⟩ v').cell? ⟨mb, 10, none⟩ = some v' := by
    have := (ec 10).trans h.c10
    simp [this, go_sem]
  have hne' : ∀ y, y ∈ ({ m with es := m.es ++ [x], ve := v' } : MT).rows → y.v.ownBlock ≠ some mb := fun y hy e => by
    rcases hmem y hy with h5 | h5 | h5
    · exact h.ne y h5 e
    · rw [h5] at e
      rcases r4 mb e with h6 | h6
      · exact hne h6
      · omega
    · exact hd y h5 mb e (.inl rfl)
  refine ⟨v', w1, r1, (by obtain ⟨a, c, e⟩ := r2.slice; exact ⟨a, _, c, e⟩), ⟨(ec 10).trans h.c10, (ef 10).trans (h.fz 10)⟩, ⟨(hcs 0 (by decide)).trans h.c0, (hcs 1 (by decide)).trans h.c1, (hcs 2 (by decide)).trans h.c2, (hcs 3 (by decide)).trans h.c3, (hcs 4 (by decide)).trans h.c4, (hcs 5 (by decide)).trans h.c5, (hcs 6 (by decide)).trans h.c6, (hcs 7 (by decide)).trans h.c7, (hcs 8 (by decide)).trans h.c8, (hcs 9 (by decide)).trans h.c9, hcj, (hcs 11 (by decide)).trans h.c11, fun i => ?_, ⟨fun y hy => OR.other (hAll.ok y hy) (fun k e1 e2 => hne' y hy (by rw [← e2]; exact e1)) _, hAll.dj⟩, hne'⟩, ?_, fun k hk2 => ?_⟩
  · rw [World.frozen?_setCell]
    exact (ef i).trans (h.fz i)
  · exact (r3.mono (fun k e => .inr ⟨_, hr, e⟩)).setCell (p := ⟨mb, 10, none⟩) (.inl (.inl rfl)) v'
  · rcases hk2 with e | ⟨y, hy, e⟩
    · exact .inl (.inl e)
    · rcases hmem y hy with h5 | h5 | h5
      · exact .inl (.inr ⟨y, h5, e⟩)
      · rw [h5] at e
        rcases r4 k e with h6 | h6
        · exact .inl (.inr ⟨_, hr, h6⟩)
        · exact .inr (.inl h6)
      · exact .inr (.inr ⟨y, h5, e⟩)
end
end Go.Proofs.Qxb6500275aGreatDoor
