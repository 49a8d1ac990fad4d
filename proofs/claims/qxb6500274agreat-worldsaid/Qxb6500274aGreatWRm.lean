import Derived.Test.Qxb6500274aGreatWRl
set_option linter.unusedVariables false
set_option linter.unusedSimpArgs false
set_option maxRecDepth 100000
namespace Go.Proofs.Qxb6500274aGreat
open Go Go.RowKit Go.Sx
def pLast : List Nat := [1, 1, 1, 1, 1, 1, 1, 1, 1, 1, 1]
theorem loop_shape : bodyAt Tryz.f8.body pB0 = .block 0 (.loop (.seq (bodyAt Tryz.f8.body pTest) (.seq (.block 1 (.seq (.seq (bodyAt Tryz.f8.body pR18) (.cond (.tmp 47) (.seq (bodyAt Tryz.f8.body pReg) (bodyAt Tryz.f8.body pRest)) .skip)) (bodyAt Tryz.f8.body pShow))) (bodyAt Tryz.f8.body pNext)))) := by kernel_rfl
theorem test_slots : slotsOK 79 (bodyAt Tryz.f8.body pTest) = true := by kernel_rfl
theorem test_draws (E : Env) (h : IsEnv E) : drawsOK E 8 (bodyAt Tryz.f8.body pTest) = true := by
  unfold IsEnv at h; subst h; kernel_rfl
theorem next_shape : ∃ o0 o1 o2, bodyAt Tryz.f8.body pNext = .region 17 #[o0, o1, o2] false ∧ (o0.dst = some 44 ∧ o0.guard = none ∧ o0.op = .move (.tmp 6)) ∧ (o1.dst = some 45 ∧ o1.guard = none ∧ o1.op = .binOp .add 3 (.tmp 44) (.const (.int .i64 1)) 3) ∧
    (o2.dst = some 6 ∧ o2.guard = none ∧ o2.op = .assign (.tmp 45)) := ⟨_, _, _, rfl, ⟨rfl, rfl, rfl⟩, ⟨rfl, rfl, rfl⟩, ⟨rfl, rfl, rfl⟩⟩
theorem ask_shape : ∃ o0 o1 t, bodyAt Tryz.f8.body pR18 = .region 18 #[o0, o1] false ∧ (o0.dst = some 46 ∧ o0.guard = none ∧ o0.op = .move (.tmp 6)) ∧ (o1.dst = some 47 ∧ o1.guard = none ∧ o1.op = .binOp .geq 3 (.tmp 46) (.const (.int .i64 0)) t) := ⟨_, _, _, rfl, ⟨rfl, rfl, rfl⟩, ⟨rfl, rfl, rfl⟩⟩
theorem last_shape : ∃ o0, bodyAt Tryz.f8.body pLast = .seq (.region 29 #[o0] false) .ret ∧ (o0.dst = some 2 ∧ o0.guard = none ∧ o0.op = .assign (.const (.int .i64 (-1)))) := ⟨_, rfl, rfl, rfl, rfl⟩

section
variable {n0 : Base} {w0 : World}
def Fin (n0 : Base) (w0 : World) (a : Act) (w : World) : Prop := a.tmps.size = 79 ∧ a.defers = [] ∧ Below n0.n w0 w

theorem head_put {script : Value} {l h t : Nat} {i : Int} {a : Act} {w : World} (hH : Head n0 w0 script l h t i a w) {k : Nat} (v : Value) (hk : 7 ≤ k ∧ k < 79) : Head n0 w0 script l h t i (a.put (some k) v) w := by
  obtain ⟨hpp, K, hR, hsz, hd, h0, h3, h5, h6⟩ := hH
  refine ⟨hpp, K, hR, by rw [size_put]; exact hsz, hd, ?_, ?_, ?_, ?_⟩
  all_goals rw [getD_put _ (by omega), if_neg (by omega)]
  · exact h0
  · exact h3
  · exact h5
  · exact h6
theorem head_i6 {script : Value} {l h t : Nat} {i : Int} {a : Act} {w : World} (hH : Head n0 w0 script l h t i a w) : a.tmps.getD 6 undef = .int .i64 i := by obtain ⟨_, K0, _, _, _, _, _, _, h⟩ := hH; exact h
theorem head_sz {script : Value} {l h t : Nat} {i : Int} {a : Act} {w : World} (hH : Head n0 w0 script l h t i a w) : a.tmps.size = 79 := by obtain ⟨_, K0, _, h, _⟩ := hH; exact h

theorem next_wp {script : Value} {l h t : Nat} {i : Int} {a : Act} {w : World} (hH : Head n0 w0 script l h t i a w) (hi : -1 ≤ i ∧ i < 4398046511104) {Q : Exit → Act → World → Prop} (hQ : ∀ a', Head n0 w0 script l h t (i + 1) a' w → Q .normal a' w) : (bodyAt Tryz.f8.body pNext).wp Tryz.prog Q a w := by
  obtain ⟨o0, o1, o2, hs, ⟨d0, g0, p0⟩, ⟨d1, g1, p1⟩, ⟨d2, g2, p2⟩⟩ := next_shape
  rw [hs]
  have hsz := head_sz hH
  have h6 := head_i6 hH
  refine wp_region_list ?_
  show wpList _ _ _ [o0, o1, o2] _ _
  refine wpList_value (v := .int .i64 i) (w' := w) g0 (by
    rw [show o0 = { o0 with op := .move (.tmp 6) } by cases o0; cases p0; rfl]
    simp only [execOp, Act.eval, h6]
    rfl) ?_
  rw [d0]
  have q1 : (a.put (some 44) (.int .i64 i)).tmps.getD 44 undef = .int .i64 i := by rw [getD_put 44 (by omega), if_pos rfl]
  refine wpList_value (v := .int .i64 (i + 1)) (w' := w) g1 (by
    rw [show o1 = { o1 with op := .binOp .add 3 (.tmp 44) (.const (.int .i64 1)) 3 } by cases o1; cases p1; rfl]
    have hb : binV .add (.int .i64 i) (.int .i64 1) = some (.int .i64 (i + 1)) := by
      show some (Value.int .i64 (IntKind.i64.wrap (i + 1))) = _
      rw [wrap_i64]
      congr 2
      omega
    have hrun := binV_run (P := Tryz.prog) hb 3 (.tmp 44) (.const (.int .i64 1)) w
    simp only [execOp, Act.eval, q1]
    rw [Sem.run_bind]
    erw [hrun]
    rfl) ?_
  rw [d1]
  have q2 : ((a.put (some 44) (.int .i64 i)).put (some 45) (.int .i64 (i + 1))).tmps.getD 45 undef = .int .i64 (i + 1) := by rw [getD_put 45 (by rw [size_put]; omega), if_pos rfl]
  refine wpList_value (v := .int .i64 (i + 1)) (w' := w) g2 (by
    rw [show o2 = { o2 with op := .assign (.tmp 45) } by cases o2; cases p2; rfl]
    simp only [execOp, Act.eval, q2]
    rfl) ?_
  rw [d2]
  refine hQ _ ?_
  have hH2 := head_put (k := 45) (head_put (k := 44) hH (.int .i64 i) (by omega)) (.int .i64 (i + 1)) (by omega)
  obtain ⟨hpp, K, hR, hsz2, hd, h0, h3, h5, _⟩ := hH2
  refine ⟨hpp, K, hR, by rw [size_put]; exact hsz2, hd, ?_, ?_, ?_, ?_⟩
  all_goals rw [getD_put _ (by omega)]
  · rw [if_neg (by decide)]; exact h0
  · rw [if_neg (by decide)]; exact h3
  · rw [if_neg (by decide)]; exact h5
  · rw [if_pos rfl]

/- 'i >= 0' -/
theorem ask_wp {script : Value} {l h t : Nat} {i : Int} {a : Act} {w : World} (hH : Head n0 w0 script l h t i a w) {Q : Exit → Act → World → Prop} (hQ : ∀ a', Head n0 w0 script l h t i a' w → a'.tmps.getD 47 undef = .bool (decide (0 ≤ i)) → Q .normal a' w) : (bodyAt Tryz.f8.body pR18).wp Tryz.prog Q a w := by
  obtain ⟨o0, o1, ty, hs, ⟨d0, g0, p0⟩, ⟨d1, g1, p1⟩⟩ := ask_shape
  rw [hs]
  have hsz := head_sz hH
  have h6 := head_i6 hH
  refine wp_region_list ?_
  show wpList _ _ _ [o0, o1] _ _
  refine wpList_value (v := .int .i64 i) (w' := w) g0 (by
    rw [show o0 = { o0 with op := .move (.tmp 6) } by cases o0; cases p0; rfl]
    simp only [execOp, Act.eval, h6]
    rfl) ?_
  rw [d0]
  have q1 : (a.put (some 46) (.int .i64 i)).tmps.getD 46 undef = .int .i64 i := by rw [getD_put 46 (by omega), if_pos rfl]
  refine wpList_value (v := .bool (decide (0 ≤ i))) (w' := w) g1 (by
    rw [show o1 = { o1 with op := .binOp .geq 3 (.tmp 46) (.const (.int .i64 0)) ty } by cases o1; cases p1; rfl]
    have hb : binV .geq (.int .i64 i) (.int .i64 0) = some (.bool (decide (0 ≤ i))) := rfl
    have hrun := binV_run (P := Tryz.prog) hb 3 (.tmp 46) (.const (.int .i64 0)) w
    simp only [execOp, Act.eval, q1]
    rw [Sem.run_bind]
    erw [hrun]
    rfl) ?_
  rw [d1]
  refine hQ _ (head_put (k := 47) (head_put (k := 46) hH _ (by omega)) _ (by omega)) ?_
  rw [getD_put 47 (by rw [size_put]; omega), if_pos rfl]

/- Show against Spelt -/
theorem shown_wp {E : Env} (hE : IsEnv E) (hS : AllW E) {sa : Option Addr} {sl sc : Nat} {l h t : Nat} {i : Int} {a : Act} {w : World} (hH : Head n0 w0 (.slice sa sl sc) l h t i a w) (hi : IntKind.i64.wrap i = i) (hsl : sl ≤ 9223372036854775807) :
    (bodyAt Tryz.f8.body pShow).wp Tryz.prog (Goal n0 w0 (.slice sa sl sc) i) a w := by
  have hok := hH.1
  obtain ⟨K, hK, h40, hnx, hRep, h3, h5⟩ := start hH (zL_next l h t) (cov_at hok).1 ⟨⟨[]⟩⟩ 0 0 rfl rfl hi
  have h0 : a.tmps.getD 0 undef = .slice sa sl sc := by obtain ⟨_, K0, _, _, _, h, _⟩ := hH; exact h
  have hd : a.defers = [] := by obtain ⟨_, K0, _, _, h, _⟩ := hH; exact h
  exact show_wp hE (hS.shows l h t hok) (hRep [] no_facts) (regs_head hK.s8 hi hsl h40 hnx (head_sz hH) hd h0 h3 h5 (head_i6 hH)) h40 hK.s8

/- the test -/
theorem test_wp {E : Env} (hE : IsEnv E) {sa : Option Addr} {sl sc : Nat} {l h t : Nat} {i : Int} {a : Act} {w : World} (hH : Head n0 w0 (.slice sa sl sc) l h t i a w) (hi : IntKind.i64.wrap i = i) (hsl : sl ≤ 9223372036854775807) :
    (bodyAt Tryz.f8.body pTest).wp Tryz.prog (fun e a' w' => (e = .normal ∧ i < sl ∧ i < 4398046511104 ∧ Head n0 w0 (.slice sa sl sc) l h t i a' w') ∨ (e = .exit 0 ∧ Fin n0 w0 a' w')) a w := by
  have hP := progOK E hE (n0 := n0) (w0 := w0)
  obtain ⟨hcs, hqs⟩ := callF_sound hP 3000 60
  have hok := hH.1
  obtain ⟨K, hK, h40, hnx, hRep, h3, h5⟩ := start hH (zL_next l h t) (cov_at hok).1 ⟨⟨[]⟩⟩ 0 0 rfl rfl hi
  have h0 : a.tmps.getD 0 undef = .slice sa sl sc := by obtain ⟨_, K0, _, _, _, h, _⟩ := hH; exact h
  have hd : a.defers = [] := by obtain ⟨_, K0, _, _, h, _⟩ := hH; exact h
  have hr : RegRel K 79 (rHead (E.nv 8) (E.long 8)) a := regs_head hK.s8 hi hsl h40 hnx (head_sz hH) hd h0 h3 h5 (head_i6 hH)
  have dlen : Den K [.chan (some 40), .slice none 106 0] (.int .i64 sl) := fun st => by simp [rpn, tok1, tokOp, h40]
  have dlt : Den K pLt (.bool (decide (i < sl))) := den_op (op := .lss) (t := [.chan (some 8)]) (u := [.chan (some 40), .slice none 106 0]) (Den_sy hK.s8) dlen (by decide) (by decide) rfl
  have dmx : Den K pMax (.bool (decide (i < 4398046511104))) := den_cmp (op := .lss) (Den_sy hK.s8) (by decide) (by decide) rfl
  have ht3 := testOK hE hok
  unfold test3 testLeaves at ht3
  simp only [Bool.and_eq_true] at ht3
  obtain ⟨t1, t2, t3⟩ := ht3
  have leave : ∀ F, (∀ t b, (t, b) ∈ F → Den K t (.bool b)) → leavesIt (evalCode E (callF E 3000 60) 8 3000 (bodyAt Tryz.f8.body pTest) none (rHead (E.nv 8) (E.long 8)) ⟨(zL l h t).heap, (zL l h t).next, F, []⟩) = true →
      (bodyAt Tryz.f8.body pTest).wp Tryz.prog (fun e a' w' => (e = .normal ∧ i < sl ∧ i < 4398046511104 ∧ Head n0 w0 (.slice sa sl sc) l h t i a' w') ∨ (e = .exit 0 ∧ Fin n0 w0 a' w')) a w := by
    intro F hF hl
    unfold leavesIt at hl
    split at hl
    · rename_i r s hev
      refine wp_mono ((evalCode_sound hP.env hP.mixed hcs hqs _ test_slots (test_draws E hE)).1 _ _ _ K a w hev (hRep F hF) hr) ?_
      rintro e a2 w2 ⟨y, K2, y1, y2, y3, y4, y5⟩
      have ey := List.mem_singleton.1 y1
      subst ey
      right
      refine ⟨y2.symm, y4.size, ?_, y5.below⟩
      have := y4.defers
      have e : r.defers = [] := List.isEmpty_iff.1 hl
      simp only [e] at this
      cases hd2 : a2.defers with
      | nil => rfl
      | cons d ds => rw [hd2] at this; exact this.elim
    · cases hl
  by_cases h1 : i < sl
  · rw [decide_eq_true h1] at dlt
    by_cases h2 : i < 4398046511104
    · rw [decide_eq_true h2] at dmx
      have hg := t1
      unfold goesOn at hg
      split at hg
      · rename_i r s hev
        simp only [Bool.and_eq_true] at hg
        refine wp_mono ((evalCode_sound hP.env hP.mixed hcs hqs _ test_slots (test_draws E hE)).1 _ _ _ K a w hev (hRep _ (two_facts dlt dmx)) hr) ?_
        rintro e a2 w2 ⟨y, K2, y1, y2, y3, y4, y5⟩
        have ey := List.mem_singleton.1 y1
        subst ey
        exact .inl ⟨y2.symm, h1, h2, head_at y5 y4 hg.1 hg.2 (by rw [y3.sy]; exact h40) (by rw [y3.sy]; exact hK.s8)⟩
      · cases hg
    · rw [decide_eq_false h2] at dmx
      exact leave _ (two_facts dlt dmx) t2
  · rw [decide_eq_false h1] at dlt
    exact leave _ (one_fact dlt) t3
end
end Go.Proofs.Qxb6500274aGreat
