import Derived.Test.Qxb6500274aGreatRl
set_option linter.unusedVariables false
set_option linter.unusedSimpArgs false
set_option maxRecDepth 100000
namespace Go.Sx
open Go Go.RowKit
/- the head of the loop: its registers -/
def rHead (nv : Nat) (long : List Nat) : Rg :=
  (((((enter nv long []).put 0 (symv .nilIface [.chan (some 40)])).put 3 (ptr0 0)).put 7 (ptr0 1)).put 8 (ptr0 2)).put 9 (svI 8)
def pLt : List Value := [.chan (some 8), .chan (some 40), .slice none 106 0, .slice none 13 0]
def pMax : List Value := [.chan (some 8), .int .i64 4398046511104, .slice none 13 0]
/- the test goes on -/
def goesOn : Option (List Leaf) → Bool
  | some [(.normal, r, s)] => regsOK r && backOK s
  | _ => false
/- .. leaves the loop -/
def leavesIt : Option (List Leaf) → Bool
  | some [(.exit 0, r, _)] => r.defers.isEmpty
  | _ => false
end Go.Sx
namespace Go.Proofs.Qxb6500274aGreat
open Go Go.RowKit Go.Sx
def pTest : List Nat := [1, 1, 1, 1, 1, 1, 0, 1, 0, 0, 0]
def pNext : List Nat := [1, 1, 1, 1, 1, 1, 0, 1, 0, 0, 1, 1]
theorem loop_shape : body7 Tryz.f7.body [1, 1, 1, 1, 1, 1, 0, 1] = .block 0 (.loop (.seq (body7 Tryz.f7.body pTest) (.seq (.block 1 (.seq (body7 Tryz.f7.body pReg) (body7 Tryz.f7.body pRest))) (body7 Tryz.f7.body pNext)))) := by kernel_rfl
theorem test_on (E : Env) (h : IsEnv E) (p : Nat) (hp : p = 1 ∨ p = 2) : goesOn (evalCode E (callF E 3000 60) 7 3000 (body7 Tryz.f7.body pTest) none (rHead (E.nv 7) (E.long 7)) ⟨(zP p).heap, (zP p).next, [(pLt, true), (pMax, true)], []⟩) = true := by
  unfold IsEnv at h; subst h
  rcases hp with rfl | rfl
  · kernel_rfl
  · kernel_rfl
theorem test_max (E : Env) (h : IsEnv E) (p : Nat) (hp : p = 1 ∨ p = 2) : leavesIt (evalCode E (callF E 3000 60) 7 3000 (body7 Tryz.f7.body pTest) none (rHead (E.nv 7) (E.long 7)) ⟨(zP p).heap, (zP p).next, [(pLt, true), (pMax, false)], []⟩) = true := by
  unfold IsEnv at h; subst h
  rcases hp with rfl | rfl
  · kernel_rfl
  · kernel_rfl
theorem test_end (E : Env) (h : IsEnv E) (p : Nat) (hp : p = 1 ∨ p = 2) : leavesIt (evalCode E (callF E 3000 60) 7 3000 (body7 Tryz.f7.body pTest) none (rHead (E.nv 7) (E.long 7)) ⟨(zP p).heap, (zP p).next, [(pLt, false)], []⟩) = true := by
  unfold IsEnv at h; subst h
  rcases hp with rfl | rfl
  · kernel_rfl
  · kernel_rfl
theorem test_slots : slotsOK 99 (body7 Tryz.f7.body pTest) = true := by kernel_rfl
theorem test_draws (E : Env) (h : IsEnv E) : drawsOK E 7 (body7 Tryz.f7.body pTest) = true := by
  unfold IsEnv at h; subst h; kernel_rfl
theorem next_shape : ∃ o0 o1 o2, body7 Tryz.f7.body pNext = .region 9 #[o0, o1, o2] false ∧ (o0.dst = some 44 ∧ o0.guard = none ∧ o0.op = .move (.tmp 9)) ∧ (o1.dst = some 45 ∧ o1.guard = none ∧ o1.op = .binOp .add 3 (.tmp 44) (.const (.int .i64 1)) 3) ∧
    (o2.dst = some 9 ∧ o2.guard = none ∧ o2.op = .assign (.tmp 45)) := ⟨_, _, _, rfl, ⟨rfl, rfl, rfl⟩, ⟨rfl, rfl, rfl⟩, ⟨rfl, rfl, rfl⟩⟩
theorem last_shape : ∃ o0, body7 Tryz.f7.body [1, 1, 1, 1, 1, 1, 1] = .seq (.region 26 #[o0] false) .ret ∧ (o0.dst = some 2 ∧ o0.guard = none ∧ o0.op = .assign (.const (.int .i64 (-1)))) := ⟨_, rfl, rfl, rfl, rfl⟩

section
variable {n0 : Base} {w0 : World}
def Fin (n0 : Base) (w0 : World) (a : Act) (w : World) : Prop := a.tmps.size = 99 ∧ a.defers = [] ∧ Below n0.n w0 w

theorem next_wp {script : Value} {p : Nat} {i : Int} {a : Act} {w : World} (hH : Head n0 w0 script p i a w) (hi : 0 ≤ i ∧ i < 4398046511104) {Q : Exit → Act → World → Prop} (hQ : ∀ a', Head n0 w0 script p (i + 1) a' w → Q .normal a' w) : (body7 Tryz.f7.body pNext).wp Tryz.prog Q a w := by
  obtain ⟨o0, o1, o2, hs, ⟨d0, g0, p0⟩, ⟨d1, g1, p1⟩, ⟨d2, g2, p2⟩⟩ := next_shape
  rw [hs]
  obtain ⟨hpp, K, hR, hsz, hd, h0, h3, h7, h8, h9⟩ := hH
  refine wp_region_list ?_
  show wpList _ _ _ [o0, o1, o2] _ _
  refine wpList_value (v := .int .i64 i) (w' := w) g0 (by
    rw [show o0 = { o0 with op := .move (.tmp 9) } by cases o0; cases p0; rfl]
    simp only [execOp, Act.eval, h9]
    rfl) ?_
  rw [d0]
  have q1 : (a.put (some 44) (.int .i64 i)).tmps.getD 44 undef = .int .i64 i := by rw [getD_put 44 (by omega), if_pos rfl]
  refine wpList_value (v := .int .i64 (i + 1)) (w' := w) g1 (by
    rw [show o1 = { o1 with op := .binOp .add 3 (.tmp 44) (.const (.int .i64 1)) 3 } by cases o1; cases p1; rfl]
    have hb : binV .add (.int .i64 i) (.int .i64 1) = some (.int .i64 (i + 1)) := by
      show some (Value.int .i64 (IntKind.i64.wrap (i + 1))) = _
      rw [wrap_i64]
      congr 2
      omega
    have hrun := binV_run (P := Tryz.prog) hb 3 (.tmp 44) (.const (.int .i64 1)) w
    simp only [execOp, Act.eval, q1]
    rw [Sem.run_bind]
    erw [hrun]
    rfl) ?_
  rw [d1]
  have q2 : ((a.put (some 44) (.int .i64 i)).put (some 45) (.int .i64 (i + 1))).tmps.getD 45 undef = .int .i64 (i + 1) := by rw [getD_put 45 (by rw [size_put]; omega), if_pos rfl]
  refine wpList_value (v := .int .i64 (i + 1)) (w' := w) g2 (by
    rw [show o2 = { o2 with op := .assign (.tmp 45) } by cases o2; cases p2; rfl]
    simp only [execOp, Act.eval, q2]
    rfl) ?_
  rw [d2]
  refine hQ _ ⟨hpp, K, hR, ?_, hd, ?_, ?_, ?_, ?_, ?_⟩
  · rw [size_put, size_put, size_put]; exact hsz
  all_goals rw [getD_put _ (by rw [size_put, size_put]; omega)]
  · rw [if_neg (by decide), getD_put _ (by rw [size_put]; omega), if_neg (by decide), getD_put _ (by omega), if_neg (by decide)]; exact h0
  · rw [if_neg (by decide), getD_put _ (by rw [size_put]; omega), if_neg (by decide), getD_put _ (by omega), if_neg (by decide)]; exact h3
  · rw [if_neg (by decide), getD_put _ (by rw [size_put]; omega), if_neg (by decide), getD_put _ (by omega), if_neg (by decide)]; exact h7
  · rw [if_neg (by decide), getD_put _ (by rw [size_put]; omega), if_neg (by decide), getD_put _ (by omega), if_neg (by decide)]; exact h8
  · rw [if_pos rfl]

theorem regs_head {K : Kx} {nv : Nat} {long : List Nat} {sa : Option Addr} {sl sc : Nat} {i : Int} {a : Act} (h8' : K.sy 8 = .int .i64 i) (hi : IntKind.i64.wrap i = i) (hsl : sl ≤ 9223372036854775807)
    (h40 : K.sy 40 = .slice sa sl sc) (hnx : K.nx = 36) (hsz : a.tmps.size = 99) (hd : a.defers = []) (t0 : a.tmps.getD 0 undef = .slice sa sl sc) (t3 : a.tmps.getD 3 undef = .pointer (some ⟨K.bl 0, 0, none⟩))
    (t7 : a.tmps.getD 7 undef = .pointer (some ⟨K.bl 1, 0, none⟩)) (t8 : a.tmps.getD 8 undef = .pointer (some ⟨K.bl 2, 0, none⟩)) (t9 : a.tmps.getD 9 undef = .int .i64 i) : RegRel K 99 (rHead nv long) a := by
  have hptr : ∀ b, b < 36 → RV K (ptr0 b) (.pointer (some ⟨K.bl b, 0, none⟩)) := by
    intro b hb
    unfold ptr0
    rw [RV_ptr]
    exact ⟨rfl, by rw [hnx]; exact hb, rfl⟩
  unfold rHead
  refine RegRel.know (RegRel.know (RegRel.know (RegRel.know (RegRel.know (RegRel.none hsz hd) ?_) ?_) ?_) ?_) ?_
  · rw [t0]; exact (C1_var_slice h40 hsl).rv
  · rw [t3]; exact hptr 0 (by decide)
  · rw [t7]; exact hptr 1 (by decide)
  · rw [t8]; exact hptr 2 (by decide)
  · rw [t9]; exact (C1_var_int h8' hi).rv

/- the test -/
theorem test_wp {E : Env} (hE : IsEnv E) (hp : PfOK n0) {sa : Option Addr} {sl sc : Nat} {p : Nat} {i : Int} {a : Act} {w : World} (hH : Head n0 w0 (.slice sa sl sc) p i a w) (hi : IntKind.i64.wrap i = i) (hsl : sl ≤ 9223372036854775807) :
    (body7 Tryz.f7.body pTest).wp Tryz.prog (fun e a' w' => (e = .normal ∧ i < sl ∧ i < 4398046511104 ∧ ∃ p', Head n0 w0 (.slice sa sl sc) p' i a' w') ∨ (e = .exit 0 ∧ Fin n0 w0 a' w')) a w := by
  have hP := progOK E hE (n0 := n0) (w0 := w0) hp
  obtain ⟨hcs, hqs⟩ := callF_sound hP 3000 60
  obtain ⟨K, hK, h40, _, _, hnx, hRep, h3, h7, h8⟩ := start hp hH ⟨⟨[]⟩⟩ 0 0 0 rfl rfl rfl hi
  have hpp := hH.1
  obtain ⟨_, K0, _, hsz, hd, h0, _, _, _, h9⟩ := hH
  have hr : RegRel K 99 (rHead (E.nv 7) (E.long 7)) a := regs_head hK.s8 hi hsl h40 hnx hsz hd h0 h3 h7 h8 h9
  have dlen : Den K [.chan (some 40), .slice none 106 0] (.int .i64 sl) := fun st => by simp [rpn, tok1, tokOp, h40]
  have dlt : Den K pLt (.bool (decide (i < sl))) := den_op (op := .lss) (t := [.chan (some 8)]) (u := [.chan (some 40), .slice none 106 0]) (Den_sy hK.s8) dlen (by decide) (by decide) rfl
  have dmx : Den K pMax (.bool (decide (i < 4398046511104))) := den_cmp (op := .lss) (Den_sy hK.s8) (by decide) (by decide) rfl
  have leave : ∀ F, (∀ t b, (t, b) ∈ F → Den K t (.bool b)) → leavesIt (evalCode E (callF E 3000 60) 7 3000 (body7 Tryz.f7.body pTest) none (rHead (E.nv 7) (E.long 7)) ⟨(zP p).heap, (zP p).next, F, []⟩) = true →
      (body7 Tryz.f7.body pTest).wp Tryz.prog (fun e a' w' => (e = .normal ∧ i < sl ∧ i < 4398046511104 ∧ ∃ p', Head n0 w0 (.slice sa sl sc) p' i a' w') ∨ (e = .exit 0 ∧ Fin n0 w0 a' w')) a w := by
    intro F hF hl
    unfold leavesIt at hl
    split at hl
    · rename_i r s hev
      refine wp_mono ((evalCode_sound hP.env hP.mixed hcs hqs _ test_slots (test_draws E hE)).1 _ _ _ K a w hev (hRep F [] hF no_vals) hr) ?_
      rintro e a2 w2 ⟨y, K2, y1, y2, y3, y4, y5⟩
      have ey := List.mem_singleton.1 y1
      subst ey
      right
      refine ⟨y2.symm, y4.size, ?_, y5.below⟩
      have := y4.defers
      have e : r.defers = [] := List.isEmpty_iff.1 hl
      simp only [e] at this
      cases hd2 : a2.defers with
      | nil => rfl
      | cons d ds => rw [hd2] at this; exact this.elim
    · cases hl
  by_cases h1 : i < sl
  · rw [decide_eq_true h1] at dlt
    by_cases h2 : i < 4398046511104
    · rw [decide_eq_true h2] at dmx
      have hg := test_on E hE p hpp
      unfold goesOn at hg
      split at hg
      · rename_i r s hev
        simp only [Bool.and_eq_true] at hg
        refine wp_mono ((evalCode_sound hP.env hP.mixed hcs hqs _ test_slots (test_draws E hE)).1 _ _ _ K a w hev (hRep _ [] ?_ no_vals) hr) ?_
        · intro t b hm
          simp only [List.mem_cons, List.not_mem_nil, or_false, Prod.mk.injEq] at hm
          rcases hm with ⟨rfl, rfl⟩ | ⟨rfl, rfl⟩
          · exact dlt
          · exact dmx
        · rintro e a2 w2 ⟨y, K2, y1, y2, y3, y4, y5⟩
          have ey := List.mem_singleton.1 y1
          subst ey
          exact .inl ⟨y2.symm, h1, h2, head_ok y5 y4 hg.1 hg.2 (by rw [y3.sy]; exact h40) (by rw [y3.sy]; exact hK.s8)⟩
      · cases hg
    · rw [decide_eq_false h2] at dmx
      refine leave _ ?_ (test_max E hE p hpp)
      intro t b hm
      simp only [List.mem_cons, List.not_mem_nil, or_false, Prod.mk.injEq] at hm
      rcases hm with ⟨rfl, rfl⟩ | ⟨rfl, rfl⟩
      · exact dlt
      · exact dmx
  · rw [decide_eq_false h1] at dlt
    exact leave _ (one_fact dlt) (test_end E hE p hpp)
end
end Go.Proofs.Qxb6500274aGreat
