import Derived.Test.Qxb6500274aGreatWRk
set_option linter.unusedVariables false
set_option linter.unusedSimpArgs false
set_option maxRecDepth 20000
namespace Go.Proofs.Qxb6500274aGreat
open Go Go.RowKit Go.Sx
theorem ops4 : ∃ o0 o1 o2 o3, (opsFrom 4 (bodyAt Tryz.f8.body pReg)).1 = o0 :: o1 :: o2 :: o3 :: (opsFrom 4 (bodyAt Tryz.f8.body pReg)).2 ∧ (o0.dst = some 48 ∧ o0.guard = none ∧ o0.op = .move (.tmp 0)) ∧ (o1.dst = some 49 ∧ o1.guard = none ∧ o1.op = .move (.tmp 6)) ∧
    (o2.dst = some 50 ∧ o2.guard = none ∧ o2.op = .indexAddr 22 (.tmp 48) (.tmp 49)) ∧ (o3.dst = some 51 ∧ o3.guard = none ∧ o3.op = .load 32 (.tmp 50)) :=
  ⟨_, _, _, _, rfl, ⟨rfl, rfl, rfl⟩, ⟨rfl, rfl, rfl⟩, ⟨rfl, rfl, rfl⟩, ⟨rfl, rfl, rfl⟩⟩
theorem wpList_value {P : Program} {ops : Array Oper} {Q : Exit → Act → World → Prop} {o : Oper} {l : List Oper} {a : Act} {w w' : World} {v : Value} (hg : o.guard = none) (hr : (execOp a.eval o).run P w = .ok (.value v) w') (h : wpList P ops Q l (a.put o.dst v) w') :
    wpList P ops Q (o :: l) a w := by
  have hw : Region.wanted o (yielded ops a.tmps) = true := by simp [Region.wanted, hg]
  simp only [wpList, hw, if_true]
  refine .inl ?_
  unfold Oper.wp
  rw [hr]
  exact h
/- the script's elements -/
def OpAt (w : World) (b off j : Nat) (kn A B C : Int) (S T : ByteArray) : Prop :=
  w.cell? ⟨b, off + j * 6, none⟩ = some (.int .i64 kn) ∧ w.cell? ⟨b, off + j * 6 + 1, none⟩ = some (.int .i64 A) ∧ w.cell? ⟨b, off + j * 6 + 2, none⟩ = some (.int .i64 B) ∧ w.cell? ⟨b, off + j * 6 + 3, none⟩ = some (.int .i64 C) ∧
    w.cell? ⟨b, off + j * 6 + 4, none⟩ = some (.string S) ∧ w.cell? ⟨b, off + j * 6 + 5, none⟩ = some (.string T)
theorem und22 (w : World) : (Go.underlying 22).run Tryz.prog w = .ok (.slice 32) w := by kernel_rfl
theorem size32 (w : World) : (Go.sizeOf 32).run Tryz.prog w = .ok 6 w := by kernel_rfl
theorem agg32 (w : World) : (Go.isAgg 32).run Tryz.prog w = .ok true w := by kernel_rfl
theorem run_elem (w : World) (b off sl sc j : Nat) (hj : j < sl) : (Instr.indexAt 22 (.slice (some ⟨b, off, none⟩) sl sc) (.int .i64 (j : Int))).run Tryz.prog w = .ok (.pointer (some ⟨b, off + j * 6, none⟩)) w := by
  have hlt : (0 : Int) ≤ (j : Int) ∧ (j : Int) < (sl : Int) := by omega
  simp only [Instr.indexAt, Sem.run_bind, asIntOf, Sem.run_pure, Result.andThen_ok, und22, Sem.run_ite, if_pos hlt, size32, Int.toNat_natCast, add_none]
theorem run_load32 (w : World) (b off j : Nat) (kn A B C : Int) (S T : ByteArray) (h : OpAt w b off j kn A B C S T) :
    (Instr.loadAt 32 (.pointer (some ⟨b, off + j * 6, none⟩))).run Tryz.prog w = .ok (.agg #[.int .i64 kn, .int .i64 A, .int .i64 B, .int .i64 C, .string S, .string T]) w := by
  obtain ⟨h0, h1, h2, h3, h4, h5⟩ := h
  have hl := run_loadCells_list (P := Tryz.prog) (w := w) ⟨b, off + j * 6, none⟩ [.int .i64 kn, .int .i64 A, .int .i64 B, .int .i64 C, .string S, .string T] (by
    intro d v hd
    rw [add_none]
    match d, hd with
    | 0, hd => cases hd; exact h0
    | 1, hd => cases hd; exact h1
    | 2, hd => cases hd; exact h2
    | 3, hd => cases hd; exact h3
    | 4, hd => cases hd; exact h4
    | 5, hd => cases hd; exact h5
    | d + 6, hd => simp at hd)
  have hl : (loadCells ⟨b, off + j * 6, none⟩ 6).run Tryz.prog w = .ok #[.int .i64 kn, .int .i64 A, .int .i64 B, .int .i64 C, .string S, .string T] w := hl
  simp only [Instr.loadAt, loadVar, Sem.run_bind, Instr.sureAddr, Sem.run_pure, Result.andThen_ok, agg32, if_true, size32, hl]

theorem getD_put {a : Act} {t : Nat} {v : Value} (d : Nat) (ht : t < a.tmps.size) : (a.put (some t) v).tmps.getD d undef = if d = t then v else a.tmps.getD d undef := by
  simp only [Act.put]
  rw [Array.getD_eq_getD_getElem?, Array.getD_eq_getD_getElem?, Array.getElem?_setIfInBounds]
  by_cases e : t = d
  · subst e
    rw [if_pos rfl, if_pos ht, if_pos rfl]
    rfl
  · rw [if_neg e, if_neg (fun h => e h.symm)]
theorem size_put {a : Act} {t : Nat} {v : Value} : (a.put (some t) v).tmps.size = a.tmps.size := by simp [Act.put]
theorem defers_put {a : Act} {t : Nat} {v : Value} : (a.put (some t) v).defers = a.defers := rfl

section
variable {n0 : Base} {w0 : World}
/- a round's inner part: 'o := script[i]' and what follows -/
theorem inner_wp {E : Env} (hE : IsEnv E) (hS : AllW E) {b off sl sc : Nat} {l h t : Nat} {i : Nat} {kn A B C : Int} {S T : ByteArray} {a : Act} {w : World} (hH : Head n0 w0 (.slice (some ⟨b, off, none⟩) sl sc) l h t i a w) (hil : i < sl)
    (hA : IntKind.i64.wrap A = A) (hk : IntKind.i64.wrap kn = kn) (hi : IntKind.i64.wrap (i : Int) = i) (hsl : sl ≤ 9223372036854775807) (hSl : S.data.toList.length ≤ 9223372036854775807)
    (hop : OpAt w b off i kn A B C S T) :
    (bodyAt Tryz.f8.body pReg).wp Tryz.prog (Exit.then ((bodyAt Tryz.f8.body pRest).wp Tryz.prog (Goal n0 w0 (.slice (some ⟨b, off, none⟩) sl sc) i)) (Goal n0 w0 (.slice (some ⟨b, off, none⟩) sl sc) i)) a w := by
  rw [reg_shape]
  refine wp_region_list ?_
  have hlist : (opsFrom 4 (bodyAt Tryz.f8.body pReg)).1.toArray.toList = (opsFrom 4 (bodyAt Tryz.f8.body pReg)).1 := rfl
  rw [hlist]
  obtain ⟨o0, o1, o2, o3, hl, ⟨d0, g0, p0⟩, ⟨d1, g1, p1⟩, ⟨d2, g2, p2⟩, ⟨d3, g3, p3⟩⟩ := ops4
  have h0 : a.tmps.getD 0 undef = .slice (some ⟨b, off, none⟩) sl sc := by obtain ⟨_, K0, _, _, _, h, _⟩ := hH; exact h
  have h6 : a.tmps.getD 6 undef = .int .i64 i := by obtain ⟨_, K0, _, _, _, _, _, _, h⟩ := hH; exact h
  have hsz : a.tmps.size = 79 := by obtain ⟨_, K0, _, h, _⟩ := hH; exact h
  have hd : a.defers = [] := by obtain ⟨_, K0, _, _, h, _⟩ := hH; exact h
  conv => arg 4; rw [hl]
  refine wpList_value (v := .slice (some ⟨b, off, none⟩) sl sc) (w' := w) g0 (by
    rw [show o0 = { o0 with op := .move (.tmp 0) } by cases o0; cases p0; rfl]
    simp [execOp, Act.eval, h0]) ?_
  rw [d0]
  have q1 : (a.put (some 48) (.slice (some ⟨b, off, none⟩) sl sc)).tmps.getD 6 undef = .int .i64 i := by
    rw [getD_put 6 (by omega), if_neg (by decide), h6]
  refine wpList_value (v := .int .i64 i) (w' := w) g1 (by
    rw [show o1 = { o1 with op := .move (.tmp 6) } by cases o1; cases p1; rfl]
    simp only [execOp, Act.eval, q1]
    rfl) ?_
  rw [d1]
  have q2 : ((a.put (some 48) (.slice (some ⟨b, off, none⟩) sl sc)).put (some 49) (.int .i64 i)).tmps.getD 48 undef = .slice (some ⟨b, off, none⟩) sl sc := by
    rw [getD_put 48 (by rw [size_put]; omega), if_neg (by decide), getD_put 48 (by omega), if_pos rfl]
  have q3 : ((a.put (some 48) (.slice (some ⟨b, off, none⟩) sl sc)).put (some 49) (.int .i64 i)).tmps.getD 49 undef = .int .i64 i := by
    rw [getD_put 49 (by rw [size_put]; omega), if_pos rfl]
  refine wpList_value (v := .pointer (some ⟨b, off + i * 6, none⟩)) (w' := w) g2 (by
    rw [show o2 = { o2 with op := .indexAddr 22 (.tmp 48) (.tmp 49) } by cases o2; cases p2; rfl]
    simp only [execOp, Act.eval, q2, q3, Sem.run_bind, run_elem w b off sl sc i hil, Result.andThen_ok]
    rfl) ?_
  rw [d2]
  refine wpList_value (v := .agg #[.int .i64 kn, .int .i64 A, .int .i64 B, .int .i64 C, .string S, .string T]) (w' := w) g3 (by
    rw [show o3 = { o3 with op := .load 32 (.tmp 50) } by cases o3; cases p3; rfl]
    have q4 : (((a.put (some 48) (.slice (some ⟨b, off, none⟩) sl sc)).put (some 49) (.int .i64 i)).put (some 50) (.pointer (some ⟨b, off + i * 6, none⟩))).tmps.getD 50 undef = .pointer (some ⟨b, off + i * 6, none⟩) := by
      rw [getD_put 50 (by rw [size_put, size_put]; omega), if_pos rfl]
    simp only [execOp, Act.eval, q4, Sem.run_bind, run_load32 w b off i kn A B C S T hop, Result.andThen_ok]
    rfl) ?_
  rw [d3]
  have hget : ∀ d, d < 48 → ((((a.put (some 48) (.slice (some ⟨b, off, none⟩) sl sc)).put (some 49) (.int .i64 i)).put (some 50) (.pointer (some ⟨b, off + i * 6, none⟩))).put (some 51) (.agg #[.int .i64 kn, .int .i64 A, .int .i64 B, .int .i64 C, .string S, .string T])).tmps.getD d undef = a.tmps.getD d undef := by
    intro d hd
    rw [getD_put d (by rw [size_put, size_put, size_put]; omega), if_neg (by omega), getD_put d (by rw [size_put, size_put]; omega), if_neg (by omega), getD_put d (by rw [size_put]; omega), if_neg (by omega), getD_put d (by omega), if_neg (by omega)]
  refine step_all (B := B) (C := C) (T := T) hE hS hH hA hk hi hsl hSl ?_ hd (hget 0 (by decide)) (hget 3 (by decide)) (hget 5 (by decide)) (hget 6 (by decide)) ?_
  · rw [size_put, size_put, size_put, size_put]; exact hsz
  · rw [getD_put 51 (by rw [size_put, size_put, size_put]; omega), if_pos rfl]
end
end Go.Proofs.Qxb6500274aGreat
