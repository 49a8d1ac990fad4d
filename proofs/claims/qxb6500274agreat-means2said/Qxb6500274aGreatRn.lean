import Derived.Test.Qxb6500274aGreatRm
set_option linter.unusedVariables false
set_option linter.unusedSimpArgs false
set_option maxRecDepth 100000
namespace Go.Proofs.Qxb6500274aGreat
open Go Go.RowKit Go.Sx
theorem inBlock_exit {id : Nat} {Q : Exit → Act → World → Prop} {a : Act} {w : World} (h : Q .normal a w) : Exit.inBlock id Q (.exit id) a w := by
  show (if id = id then Q .normal a w else Q (.exit id) a w)
  rw [if_pos rfl]
  exact h
theorem then_exit {i : Nat} {n : Act → World → Prop} {Q : Exit → Act → World → Prop} {a : Act} {w : World} (h : Q (.exit i) a w) : Exit.then n Q (.exit i) a w := h
section
variable {n0 : Base} {w0 : World}
/- what is known of the script -/
def Script (n0 : Base) (w0 : World) (sa : Option Addr) (sl : Nat) : Prop :=
  sl ≤ 9223372036854775807 ∧ ∀ j, j < sl → ∃ b off kn A B C S T, sa = some ⟨b, off, none⟩ ∧ b < n0.n ∧ IntKind.i64.wrap A = A ∧ IntKind.i64.wrap B = B ∧ IntKind.i64.wrap kn = kn ∧ S.data.toList.length ≤ 9223372036854775807 ∧ OpAt w0 b off j kn A B C S T
theorem OpAt.below {w : World} {b off j : Nat} {kn A B C : Int} {S T : ByteArray} (h : OpAt w0 b off j kn A B C S T) (hb : Below n0.n w0 w) (hlt : b < n0.n) : OpAt w b off j kn A B C S T := by
  have e : ∀ o, w.cell? ⟨b, o, none⟩ = w0.cell? ⟨b, o, none⟩ := fun o => hb.cell (p := ⟨b, o, none⟩) hlt
  unfold OpAt at h ⊢
  rw [e, e, e, e, e, e]
  exact h
theorem loop_wp {E : Env} (hE : IsEnv E) (hp : PfOK n0) (hS : AllSteps E) {sa : Option Addr} {sl sc : Nat} (hscr : Script n0 w0 sa sl) {p : Nat} {a : Act} {w : World} (hH : Head n0 w0 (.slice sa sl sc) p 0 a w) {Q : Exit → Act → World → Prop} (hQ : ∀ a' w', Fin n0 w0 a' w' → Q .normal a' w') :
    (body7 Tryz.f7.body [1, 1, 1, 1, 1, 1, 0, 1]).wp Tryz.prog Q a w := by
  rw [loop_shape]
  refine wp_block ?_
  refine wp_loop (fun a w => ∃ (p : Nat) (i : Nat), i ≤ sl ∧ Head n0 w0 (.slice sa sl sc) p i a w) (fun a _ => sl - (intOf (a.tmps.getD 9 undef)).toNat) ⟨p, 0, Nat.zero_le _, hH⟩ ?_
  intro a w ⟨p, i, hil, hH⟩
  have h9 : a.tmps.getD 9 undef = .int .i64 i := by obtain ⟨_, K0, _, _, _, _, _, _, _, h⟩ := hH; exact h
  have hi : IntKind.i64.wrap (i : Int) = i := by rw [wrap_i64]; have := hscr.1; omega
  refine wp_seq (wp_mono (test_wp hE hp hH hi hscr.1) ?_)
  rintro e a1 w1 (⟨rfl, h1, h2, p1, hH1⟩ | ⟨rfl, hF⟩)
  · show Code.wp _ _ _ a1 w1
    obtain ⟨b, off, kn, A, B, C, S, T, hsa, hb, hA, hB, hk, hSl, hop⟩ := hscr.2 i (by omega)
    subst hsa
    have hbel : Below n0.n w0 w1 := by obtain ⟨_, K1, hR, _⟩ := hH1; exact hR.below
    refine wp_seq (wp_block (wp_seq (wp_mono (inner_wp hE hp hS hH1 (by omega) hA hB hk hi hscr.1 hSl (hop.below hbel hb)) ?_)))
    have fin : ∀ a2 w2, (∃ p', Head n0 w0 (.slice (some ⟨b, off, none⟩) sl sc) p' i a2 w2) → (body7 Tryz.f7.body pNext).wp Tryz.prog (Exit.then (fun a' w' => (∃ (p : Nat) (i : Nat), i ≤ sl ∧ Head n0 w0 (.slice (some ⟨b, off, none⟩) sl sc) p i a' w') ∧ sl - (intOf (a'.tmps.getD 9 undef)).toNat < sl - (intOf (a.tmps.getD 9 undef)).toNat) (Exit.inBlock 0 Q)) a2 w2 := by
      rintro a2 w2 ⟨p2, hH2⟩
      refine next_wp hH2 (by omega) ?_
      intro a3 hH3
      have h93 : a3.tmps.getD 9 undef = .int .i64 ((i : Int) + 1) := by obtain ⟨_, K0, _, _, _, _, _, _, _, h⟩ := hH3; exact h
      refine ⟨⟨p2, i + 1, by omega, by exact_mod_cast hH3⟩, ?_⟩
      rw [h93, h9]
      simp only [intOf]
      omega
    intro e a2 w2 hq
    cases e with
    | normal =>
      refine wp_mono hq ?_
      rintro e3 a3 w3 ⟨rfl | rfl, hh⟩
      · exact fin a3 w3 hh
      · refine inBlock_exit ?_
        exact fin a3 w3 hh
    | exit id =>
      obtain ⟨h | h, hh⟩ := hq
      · cases h
      · cases h
        refine then_exit (inBlock_exit ?_)
        exact fin a2 w2 hh
    | ret => obtain ⟨h | h, _⟩ := hq <;> cases h
    | goto l => obtain ⟨h | h, _⟩ := hq <;> cases h
    | panic c => obtain ⟨h | h, _⟩ := hq <;> cases h
    | outgrown => obtain ⟨h | h, _⟩ := hq <;> cases h
  · change Exit.inBlock 0 Q (.exit 0) a1 w1
    exact inBlock_exit (hQ a1 w1 hF)
theorem last_wp {a : Act} {w : World} (hF : Fin n0 w0 a w) {R : Ending → World → Prop} (hR : R (.returned (.int .i64 (-1))) w) : (body7 Tryz.f7.body [1, 1, 1, 1, 1, 1, 1]).wp Tryz.prog (bodyPost Tryz.prog Tryz.f7 R) a w := by
  obtain ⟨o0, hs, d0, g0, p0⟩ := last_shape
  rw [hs]
  obtain ⟨hsz, hd, _⟩ := hF
  refine wp_seq (wp_region_list ?_)
  show wpList _ _ _ [o0] _ _
  refine wpList_value (v := .int .i64 (-1)) (w' := w) g0 (by
    rw [show o0 = { o0 with op := .assign (.const (.int .i64 (-1))) } by cases o0; cases p0; rfl]
    rfl) ?_
  rw [d0]
  show Code.ret.wp _ _ _ _
  refine wp_ret ?_
  have e : (a.put (some 2) (.int .i64 (-1))).tmps.getD 2 undef = .int .i64 (-1) := by rw [getD_put 2 (by omega), if_pos rfl]
  refine ⟨hd, .int .i64 (-1), ?_, hR⟩
  have hres : Tryz.f7.results = #[.tmp 2] := by kernel_rfl
  have e' : (a.put (some 2) (.int .i64 (-1))).tmps[2]?.getD undef = .int .i64 (-1) := by rw [← Array.getD_eq_getD_getElem?]; exact e
  simp [results, hres, e']
end
end Go.Proofs.Qxb6500274aGreat
