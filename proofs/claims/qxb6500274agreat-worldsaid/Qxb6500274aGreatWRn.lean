import Derived.Test.Qxb6500274aGreatWRm
set_option linter.unusedVariables false
set_option linter.unusedSimpArgs false
set_option maxRecDepth 100000
namespace Go.Proofs.Qxb6500274aGreat
open Go Go.RowKit Go.Sx
theorem inBlock_exit {id : Nat} {Q : Exit → Act → World → Prop} {a : Act} {w : World} (h : Q .normal a w) : Exit.inBlock id Q (.exit id) a w := by
  show (if id = id then Q .normal a w else Q (.exit id) a w)
  rw [if_pos rfl]
  exact h
theorem then_exit {i : Nat} {n : Act → World → Prop} {Q : Exit → Act → World → Prop} {a : Act} {w : World} (h : Q (.exit i) a w) : Exit.then n Q (.exit i) a w := h
section
variable {n0 : Base} {w0 : World}
/- what is known of the script -/
def Script (n0 : Base) (w0 : World) (sa : Option Addr) (sl : Nat) : Prop :=
  sl ≤ 9223372036854775807 ∧ ∀ j, j < sl → ∃ b off kn A B C S T, sa = some ⟨b, off, none⟩ ∧ b < n0.n ∧ IntKind.i64.wrap A = A ∧ IntKind.i64.wrap B = B ∧ IntKind.i64.wrap kn = kn ∧ S.data.toList.length ≤ 9223372036854775807 ∧ OpAt w0 b off j kn A B C S T
theorem OpAt.below {w : World} {b off j : Nat} {kn A B C : Int} {S T : ByteArray} (h : OpAt w0 b off j kn A B C S T) (hb : Below n0.n w0 w) (hlt : b < n0.n) : OpAt w b off j kn A B C S T := by
  have e : ∀ o, w.cell? ⟨b, o, none⟩ = w0.cell? ⟨b, o, none⟩ := fun o => hb.cell (p := ⟨b, o, none⟩) hlt
  unfold OpAt at h ⊢
  rw [e, e, e, e, e, e]
  exact h
/- the round's inside: from the head to the head -/
theorem round_wp {E : Env} (hE : IsEnv E) (hS : AllW E) {sa : Option Addr} {sl sc : Nat} (hscr : Script n0 w0 sa sl) {l h t : Nat} {i : Int} {a : Act} {w : World} (hH : Head n0 w0 (.slice sa sl sc) l h t i a w) (hi : IntKind.i64.wrap i = i) (hlt : i < sl) :
    (Code.seq (.seq (bodyAt Tryz.f8.body pR18) (.cond (.tmp 47) (.seq (bodyAt Tryz.f8.body pReg) (bodyAt Tryz.f8.body pRest)) .skip)) (bodyAt Tryz.f8.body pShow)).wp Tryz.prog (Goal n0 w0 (.slice sa sl sc) i) a w := by
  refine wp_seq (wp_seq (ask_wp hH ?_))
  intro a1 hH1 h47
  show Code.wp _ _ _ a1 w
  by_cases h0 : 0 ≤ i
  · rw [decide_eq_true h0] at h47
    refine wp_cond_true (by show a1.tmps.getD 47 undef = _; exact h47) ?_
    obtain ⟨n, rfl⟩ : ∃ n : Nat, i = n := ⟨i.toNat, by omega⟩
    obtain ⟨b, off, kn, A, B, C, S, T, hsa, hb, hA, hB, hk, hSl, hop⟩ := hscr.2 n (by omega)
    subst hsa
    have hbel : Below n0.n w0 w := by obtain ⟨_, K1, hR, _⟩ := hH1; exact hR.below
    refine wp_seq (wp_mono (inner_wp hE hS hH1 (by omega) hA hk hi hscr.1 hSl (hop.below hbel hb)) ?_)
    intro e a2 w2 hq
    have fin : ∀ e3 a3 w3, Goal n0 w0 (.slice (some ⟨b, off, none⟩) sl sc) n e3 a3 w3 → Exit.then ((bodyAt Tryz.f8.body pShow).wp Tryz.prog (Goal n0 w0 (.slice (some ⟨b, off, none⟩) sl sc) n)) (Goal n0 w0 (.slice (some ⟨b, off, none⟩) sl sc) n) e3 a3 w3 := by
      rintro e3 a3 w3 ⟨rfl | rfl, l3, h3, t3, hH3⟩
      · exact shown_wp hE hS hH3 hi hscr.1
      · exact then_exit ⟨.inr rfl, l3, h3, t3, hH3⟩
    cases e with
    | normal => exact wp_mono hq fin
    | exit id => exact fin _ _ _ hq
    | ret => obtain ⟨h | h, _⟩ := hq <;> cases h
    | goto l => obtain ⟨h | h, _⟩ := hq <;> cases h
    | panic c => obtain ⟨h | h, _⟩ := hq <;> cases h
    | outgrown => obtain ⟨h | h, _⟩ := hq <;> cases h
  · rw [decide_eq_false h0] at h47
    refine wp_cond_false (by show a1.tmps.getD 47 undef = _; exact h47) (wp_skip ?_)
    exact shown_wp hE hS hH1 hi hscr.1
theorem loop_wp {E : Env} (hE : IsEnv E) (hS : AllW E) {sa : Option Addr} {sl sc : Nat} (hscr : Script n0 w0 sa sl) {l h t : Nat} {a : Act} {w : World} (hH : Head n0 w0 (.slice sa sl sc) l h t (-1) a w) {Q : Exit → Act → World → Prop} (hQ : ∀ a' w', Fin n0 w0 a' w' → Q .normal a' w') :
    (bodyAt Tryz.f8.body pB0).wp Tryz.prog Q a w := by
  rw [loop_shape]
  refine wp_block ?_
  refine wp_loop (fun a w => ∃ (l h t : Nat) (i : Int), (-1 ≤ i ∧ i ≤ sl) ∧ Head n0 w0 (.slice sa sl sc) l h t i a w) (fun a _ => ((sl : Int) - intOf (a.tmps.getD 6 undef)).toNat) ⟨l, h, t, -1, by omega, hH⟩ ?_
  intro a w ⟨l, h, t, i, hil, hH⟩
  have h6 := head_i6 hH
  have hi : IntKind.i64.wrap i = i := by rw [wrap_i64]; have := hscr.1; omega
  refine wp_seq (wp_mono (test_wp hE hH hi hscr.1) ?_)
  rintro e a1 w1 (⟨rfl, h1, h2, hH1⟩ | ⟨rfl, hF⟩)
  · show Code.wp _ _ _ a1 w1
    refine wp_seq (wp_block (wp_mono (round_wp hE hS hscr hH1 hi h1) ?_))
    have fin : ∀ a2 w2, (∃ l h t, Head n0 w0 (.slice sa sl sc) l h t i a2 w2) → (bodyAt Tryz.f8.body pNext).wp Tryz.prog (Exit.then (fun a' w' => (∃ (l h t : Nat) (i : Int), (-1 ≤ i ∧ i ≤ sl) ∧ Head n0 w0 (.slice sa sl sc) l h t i a' w') ∧ ((sl : Int) - intOf (a'.tmps.getD 6 undef)).toNat < ((sl : Int) - intOf (a.tmps.getD 6 undef)).toNat) (Exit.inBlock 0 Q)) a2 w2 := by
      rintro a2 w2 ⟨l2, hd2, t2, hH2⟩
      refine next_wp hH2 (by omega) ?_
      intro a3 hH3
      have h63 := head_i6 hH3
      refine ⟨⟨l2, hd2, t2, i + 1, by omega, hH3⟩, ?_⟩
      rw [h63, h6]
      simp only [intOf]
      omega
    rintro e3 a3 w3 ⟨rfl | rfl, hh⟩
    · exact fin a3 w3 hh
    · refine inBlock_exit ?_
      exact fin a3 w3 hh
  · change Exit.inBlock 0 Q (.exit 0) a1 w1
    exact inBlock_exit (hQ a1 w1 hF)
theorem last_wp {a : Act} {w : World} (hF : Fin n0 w0 a w) {R : Ending → World → Prop} (hR : R (.returned (.int .i64 (-1))) w) : (bodyAt Tryz.f8.body pLast).wp Tryz.prog (bodyPost Tryz.prog Tryz.f8 R) a w := by
  obtain ⟨o0, hs, d0, g0, p0⟩ := last_shape
  rw [hs]
  obtain ⟨hsz, hd, _⟩ := hF
  refine wp_seq (wp_region_list ?_)
  show wpList _ _ _ [o0] _ _
  refine wpList_value (v := .int .i64 (-1)) (w' := w) g0 (by
    rw [show o0 = { o0 with op := .assign (.const (.int .i64 (-1))) } by cases o0; cases p0; rfl]
    rfl) ?_
  rw [d0]
  show Code.ret.wp _ _ _ _
  refine wp_ret ?_
  have e : (a.put (some 2) (.int .i64 (-1))).tmps.getD 2 undef = .int .i64 (-1) := by rw [getD_put 2 (by omega), if_pos rfl]
  refine ⟨hd, .int .i64 (-1), ?_, hR⟩
  have hres : Tryz.f8.results = #[.tmp 2] := by kernel_rfl
  have e' : (a.put (some 2) (.int .i64 (-1))).tmps[2]?.getD undef = .int .i64 (-1) := by rw [← Array.getD_eq_getD_getElem?]; exact e
  simp [results, hres, e']
end
end Go.Proofs.Qxb6500274aGreat
