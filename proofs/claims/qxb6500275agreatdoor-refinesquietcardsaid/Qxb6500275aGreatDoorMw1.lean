import Derived.Test.Qxb6500275aGreatDoorBf1
set_option maxRecDepth 100000
set_option linter.unusedVariables false
set_option linter.unusedSimpArgs false
namespace Go.Proofs.Qxb6500275aGreatDoor
open Go Go.RowKit
/- one element more, of as many cells as it has -/
theorem OR.pushN {w : World} {e : TypeId} {sz : Nat} {v : Value} {n : Nat} {xs : List Value} (h : OR w e sz v n xs) {t : TypeId} {i : TypeInfo} {z : Value} (ht : Tryz.prog.underlying t = some (.slice e)) (hi : Tryz.prog.info? e = some i) (hz : i.zero = some z)
    (hsize : i.size = sz) (hby : i.bytes ≤ 1000) (hzs : z.cells.size = sz) (hsz : 0 < sz) (hn : n ≤ 100000) (C : Array Value) (hC : C.size = sz) (h1 : ∀ u ∈ C.toList, u.oneCell' = true) :
    ∃ v' w', (Builtin.append_ #[t, t] t #[v, .slice (some ⟨w.heap.size, 0, none⟩) 1 1]).run Tryz.prog (w.alloc (.cells C e)) = .ok v' w' ∧ OR w' e sz v' (n + 1) (xs ++ C.toList) ∧ Kp (fun k => v.ownBlock = some k) w w' ∧ OwnO w v v' := by
  have hk : Kp (fun _ => False) w (w.alloc (.cells C e)) := (Kp.refl _ _).alloc _
  obtain ⟨v', w', r1, r2, r3, r4⟩ := (h.keep hk (fun _ _ h => h)).app (ty := t) ht hi hz hsize rfl hzs hsz hby hn ⟨w.heap.size, 0, none⟩ 1 C.toList (by rw [Array.length_toList]; exact hC) (fun j y hy => by
    rw [add_none, Nat.zero_add]
    have hj := (List.getElem?_eq_some_iff.1 hy)
    obtain ⟨hj1, hj2⟩ := hj
    have hb := (blk_al w C e).cell (i := j) (by rw [Array.length_toList] at hj1; exact hj1)
    rw [hb]
    congr 1
    rw [Array.length_toList] at hj1
    rw [← hj2]
    simp [hj1]) h1
  refine ⟨v', w', r1, r2, (hk.mono (fun _ h => h.elim)).trans r3, fun k hk2 => ?_⟩
  rcases r4 k hk2 with h | h
  · exact .inl h
  · exact .inr (Nat.le_trans hk.size h)
/- rows that lie apart -/
structure Row where
  e : TypeId
  sz : Nat
  v : Value
  n : Nat
  xs : List Value
def DJ (a b : Row) : Prop := ∀ k, a.v.ownBlock = some k → b.v.ownBlock ≠ some k
theorem DJ.symm {a b : Row} (h : DJ a b) : DJ b a := fun k h1 h2 => h k h2 h1
def Row.ok (w : World) (r : Row) : Prop := OR w r.e r.sz r.v r.n r.xs
structure RowsOk (w : World) (L : List Row) : Prop where
  ok : ∀ r, r ∈ L → r.ok w
  dj : L.Pairwise DJ
section
variable {w w' : World} {L L' A B C : List Row} {r r' : Row} {P : Nat → Prop}
theorem RowsOk.keep (h : RowsOk w L) (hk : Kp P w w') (hp : ∀ r, r ∈ L → ∀ k, r.v.ownBlock = some k → ¬ P k) : RowsOk w' L := ⟨fun r hr => OR.keep (h.ok r hr) hk (hp r hr), h.dj⟩
theorem RowsOk.perm (h : RowsOk w L) (hp : L.Perm L') : RowsOk w L' := ⟨fun r hr => h.ok r (hp.mem_iff.2 hr), (List.Perm.pairwise_iff (fun h => DJ.symm h) hp).1 h.dj⟩
theorem RowsOk.lt (h : RowsOk w L) (hr : r ∈ L) {k : Nat} (hk : r.v.ownBlock = some k) : k < w.heap.size := OR.lt (h.ok r hr) hk
/- one row is laid anew -/
theorem RowsOk.upd (h : RowsOk w (A ++ r :: B)) (hk : Kp (fun k => r.v.ownBlock = some k) w w') (ho : r'.ok w') (hown : OwnO w r.v r'.v) : RowsOk w' (A ++ r' :: B) := by
  have hd := List.pairwise_append.1 h.dj
  have hd2 := List.pairwise_cons.1 hd.2.1
  have hA : ∀ a, a ∈ A → DJ a r := fun a ha => hd.2.2 a ha r (by simp)
  have hB : ∀ b, b ∈ B → DJ b r := fun b hb => (hd2.1 b hb).symm
  have hnew : ∀ a, a ∈ A ∨ a ∈ B → DJ a r' := fun a ha k h1 h2 => by
    have har : DJ a r := ha.elim (hA a) (hB a)
    have hal : a.ok w := h.ok a (by rcases ha with ha | ha <;> simp [ha])
    rcases hown k h2 with h3 | h3
    · exact har k h1 h3
    · have := OR.lt hal h1
      omega
  refine ⟨fun a ha => ?_, ?_⟩
  · rcases List.mem_append.1 ha with ha | ha
    · exact OR.keep (h.ok a (by simp [ha])) hk (fun k h1 h2 => hA a ha k h1 h2)
    · rcases List.mem_cons.1 ha with ha | ha
      · rw [ha]; exact ho
      · exact OR.keep (h.ok a (by simp [ha])) hk (fun k h1 h2 => hB a ha k h1 h2)
  · refine List.pairwise_append.2 ⟨hd.1, List.pairwise_cons.2 ⟨fun b hb => (hnew b (.inr hb)).symm, hd2.2⟩, fun a ha b hb => ?_⟩
    rcases List.mem_cons.1 hb with hb | hb
    · rw [hb]; exact hnew a (.inl ha)
    · exact hd.2.2 a ha b (by simp [hb])
theorem RowsOk.add (h : RowsOk w L) (h2 : RowsOk w C) (hd : ∀ a, a ∈ L → ∀ c, c ∈ C → DJ a c) : RowsOk w (L ++ C) :=
  ⟨fun r hr => (List.mem_append.1 hr).elim (h.ok r) (h2.ok r), List.pairwise_append.2 ⟨h.dj, h2.dj, hd⟩⟩
end
/- THE MODEL'S MODULE: plain data and where its rows lie -/
structure MT where
  types : List Ty
  imports : List Imp
  fs : List (Fn × Value × Value)
  tabMin : Int
  tabMax : Int
  memMin : Int
  memMax : Int
  globals : List Glob
  exports : List Exp
  start : Int
  es : List (Elm × Value)
  datas : List Dat
  vt : Value
  vi : Value
  vf : Value
  vg : Value
  vx : Value
  ve : Value
  vd : Value
def MT.mod (m : MT) : Mod := ⟨m.types, m.imports, m.fs.map (·.1), m.tabMin, m.tabMax, m.memMin, m.memMax, m.globals, m.exports, m.start, m.es.map (·.1), m.datas⟩
def tyC (t : Ty) : List Value := [.string t.text]
def impC (i : Imp) : List Value := [.string i.mod, .string i.name, .int .i64 i.ty]
def fnC (f : Fn × Value × Value) : List Value := [.int .i64 f.1.ty, .string f.1.locals, f.2.1, f.2.2]
def globC (g : Glob) : List Value := [.int .u8 (g.ty : Int), .bool g.mu, .int .u8 (g.init.op : Int), .int .u32 g.init.x, .int .u64 g.init.y]
def expC (x : Exp) : List Value := [.string x.name, .int .u8 (x.kind : Int), .int .u32 x.idx]
def elmC (x : Elm × Value) : List Value := [.int .u8 (x.1.off.op : Int), .int .u32 x.1.off.x, .int .u64 x.1.off.y, x.2]
def datC (d : Dat) : List Value := [.int .u8 (d.off.op : Int), .int .u32 d.off.x, .int .u64 d.off.y, .string d.bytes]
def fnRows (f : Fn × Value × Value) : List Row := [⟨129, 3, f.2.1, f.1.body.length, insC f.1.body⟩, ⟨127, 1, f.2.2, f.1.tabs.length, tabC f.1.tabs⟩]
def elRows (x : Elm × Value) : List Row := [⟨127, 1, x.2, x.1.fns.length, tabC x.1.fns⟩]
def MT.mains (m : MT) : List Row := [⟨9, 1, m.vt, m.types.length, m.types.flatMap tyC⟩, ⟨121, 3, m.vi, m.imports.length, m.imports.flatMap impC⟩, ⟨124, 4, m.vf, m.fs.length, m.fs.flatMap fnC⟩, ⟨131, 5, m.vg, m.globals.length, m.globals.flatMap globC⟩, ⟨134, 3, m.vx, m.exports.length, m.exports.flatMap expC⟩, ⟨136, 4, m.ve, m.es.length, m.es.flatMap elmC⟩, ⟨138, 4, m.vd, m.datas.length, m.datas.flatMap datC⟩]
def MT.rows (m : MT) : List Row := m.mains ++ (m.es.flatMap elRows ++ m.fs.flatMap fnRows)
structure Mw (w : World) (mb : Nat) (m : MT) : Prop where
  c0 : w.cell? ⟨mb, 0, none⟩ = some m.vt
  c1 : w.cell? ⟨mb, 1, none⟩ = some m.vi
  c2 : w.cell? ⟨mb, 2, none⟩ = some m.vf
  c3 : w.cell? ⟨mb, 3, none⟩ = some (.int .i64 m.tabMin)
  c4 : w.cell? ⟨mb, 4, none⟩ = some (.int .i64 m.tabMax)
  c5 : w.cell? ⟨mb, 5, none⟩ = some (.int .i64 m.memMin)
  c6 : w.cell? ⟨mb, 6, none⟩ = some (.int .i64 m.memMax)
  c7 : w.cell? ⟨mb, 7, none⟩ = some m.vg
  c8 : w.cell? ⟨mb, 8, none⟩ = some m.vx
  c9 : w.cell? ⟨mb, 9, none⟩ = some (.int .i64 m.start)
  c10 : w.cell? ⟨mb, 10, none⟩ = some m.ve
  c11 : w.cell? ⟨mb, 11, none⟩ = some m.vd
  fz : ∀ j, w.frozen? ⟨mb, j, none⟩ = false
  rows : RowsOk w m.rows
  ne : ∀ r, r ∈ m.rows → r.v.ownBlock ≠ some mb
def MwB (mb : Nat) (m : MT) (k : Nat) : Prop := k = mb ∨ ∃ r, r ∈ m.rows ∧ r.v.ownBlock = some k
section
variable {w w' w1 : World} {mb : Nat} {m m' : MT} {P : Nat → Prop}
theorem Mw.lt (h : Mw w mb m) {k : Nat} (hk : MwB mb m k) : k < w.heap.size := by
  rcases hk with e | ⟨r, hr, e⟩
  · subst e; exact lt_of_cell h.c0
  · exact h.rows.lt hr e
theorem Mw.keep (h : Mw w mb m) (hk : Kp P w w') (hp : ∀ k, MwB mb m k → ¬ P k) : Mw w' mb m := by
  have hlt := lt_of_cell h.c0
  have ec : ∀ o, w'.cell? ⟨mb, o, none⟩ = w.cell? ⟨mb, o, none⟩ := fun o => hk.cell (p := ⟨mb, o, none⟩) hlt (hp mb (.inl rfl))
  have ef : ∀ o, w'.frozen? ⟨mb, o, none⟩ = w.frozen? ⟨mb, o, none⟩ := fun o => hk.frozen (p := ⟨mb, o, none⟩) hlt (hp mb (.inl rfl))
  exact ⟨(ec 0).trans h.c0, (ec 1).trans h.c1, (ec 2).trans h.c2, (ec 3).trans h.c3, (ec 4).trans h.c4, (ec 5).trans h.c5, (ec 6).trans h.c6, (ec 7).trans h.c7, (ec 8).trans h.c8, (ec 9).trans h.c9, (ec 10).trans h.c10, (ec 11).trans h.c11, fun j => (ef j).trans (h.fz j), h.rows.keep hk (fun r hr k e => hp k (.inr ⟨r, hr, e⟩)), h.ne⟩
/- what a step makes of the module's blocks -/
def MwO (w : World) (mb : Nat) (m m' : MT) : Prop := ∀ k, MwB mb m' k → MwB mb m k ∨ w.heap.size ≤ k
end
theorem u77s : Tryz.prog.underlying 77 = some (.slice 9) := by kernel_rfl
theorem u78s : Tryz.prog.underlying 78 = some (.slice 121) := by kernel_rfl
theorem u79s : Tryz.prog.underlying 79 = some (.slice 124) := by kernel_rfl
theorem u80s : Tryz.prog.underlying 80 = some (.slice 131) := by kernel_rfl
theorem u81s : Tryz.prog.underlying 81 = some (.slice 134) := by kernel_rfl
theorem u82s : Tryz.prog.underlying 82 = some (.slice 136) := by kernel_rfl
theorem u83s : Tryz.prog.underlying 83 = some (.slice 138) := by kernel_rfl
theorem infoOf {t : TypeId} {n b : Nat} (h0 : (Tryz.prog.info? t).map (fun i => (i.zero.map (fun z => z.cells.size), i.size, i.bytes)) = some (some n, n, b)) : ∃ (i : TypeInfo) (z : Value), Tryz.prog.info? t = some i ∧ i.zero = some z ∧ z.cells.size = n ∧ i.size = n ∧ i.bytes = b := by
  cases h : Tryz.prog.info? t with
  | none => rw [h] at h0; simp at h0
  | some i =>
    rw [h] at h0
    simp at h0
    obtain ⟨⟨z, h1, h2⟩, h3, h4⟩ := h0
    exact ⟨i, z, rfl, h1, h2, h3, h4⟩
theorem iTest : (Tryz.prog.info? 9).map (fun i => (i.zero.map (fun z => z.cells.size), i.size, i.bytes)) = some (some 1, 1, 16) ∧ (Tryz.prog.info? 121).map (fun i => (i.zero.map (fun z => z.cells.size), i.size, i.bytes)) = some (some 3, 3, 40) ∧ (Tryz.prog.info? 124).map (fun i => (i.zero.map (fun z => z.cells.size), i.size, i.bytes)) = some (some 4, 4, 72) ∧ (Tryz.prog.info? 131).map (fun i => (i.zero.map (fun z => z.cells.size), i.size, i.bytes)) = some (some 5, 5, 24) ∧ (Tryz.prog.info? 134).map (fun i => (i.zero.map (fun z => z.cells.size), i.size, i.bytes)) = some (some 3, 3, 24) ∧ (Tryz.prog.info? 136).map (fun i => (i.zero.map (fun z => z.cells.size), i.size, i.bytes)) = some (some 4, 4, 40) ∧ (Tryz.prog.info? 138).map (fun i => (i.zero.map (fun z => z.cells.size), i.size, i.bytes)) = some (some 4, 4, 32) := by
  refine ⟨by kernel_rfl, by kernel_rfl, by kernel_rfl, by kernel_rfl, by kernel_rfl, by kernel_rfl, by kernel_rfl⟩
end Go.Proofs.Qxb6500275aGreatDoor
