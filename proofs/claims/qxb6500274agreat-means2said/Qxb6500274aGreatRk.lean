import Derived.Test.Qxb6500274aGreatRj
set_option linter.unusedVariables false
set_option linter.unusedSimpArgs false
set_option maxRecDepth 20000
namespace Go.Proofs.Qxb6500274aGreat
open Go Go.RowKit Go.Sx
section
variable {n0 : Base} {w0 w : World}
theorem no_facts {K : Kx} : ∀ t b, (t, b) ∈ ([] : List (List Value × Bool)) → Den K t (.bool b) := fun t b h => by simp at h
theorem no_vals {K : Kx} : ∀ t v, (t, v) ∈ ([] : List (List Value × Value)) → Den K t v ∧ plain v = true := fun t v h => by simp at h
theorem one_fact {K : Kx} {p : List Value} {c : Bool} (h : Den K p (.bool c)) : ∀ t b, (t, b) ∈ [(p, c)] → Den K t (.bool b) := by
  intro t b hm
  cases List.mem_singleton.1 hm
  exact h
theorem one_val {K : Kx} {p : List Value} {c : Value} (h : Den K p c) (hc : plain c = true) : ∀ t v, (t, v) ∈ [(p, c)] → Den K t v ∧ plain v = true := by
  intro t b hm
  cases List.mem_singleton.1 hm
  exact ⟨h, hc⟩
theorem den_cmp {K : Kx} {op : BinOp} {t : List Value} {k : IntKind} {a c : Int} {r : Bool} (ht : Den K t (.int k a)) (h1 : op ≠ .shl) (h2 : op ≠ .shr) (h : ibin op k a c = some (.bool r)) : Den K (t ++ ([.int k c] ++ [.slice none (opN op) 0])) (.bool r) := den_op ht Den_lint h1 h2 h

theorem step_all {E : Env} (hE : IsEnv E) (hp : PfOK n0) (hS : AllSteps E) {sa : Option Addr} {sl sc : Nat} {p : Nat} {i kn A B C : Int} {S T : ByteArray} {a0 a : Act} (hH : Head n0 w0 (.slice sa sl sc) p i a0 w)
    (hA : IntKind.i64.wrap A = A) (hB : IntKind.i64.wrap B = B) (hk : IntKind.i64.wrap kn = kn) (hi : IntKind.i64.wrap i = i) (hsl : sl ≤ 9223372036854775807) (hSl : S.data.toList.length ≤ 9223372036854775807)
    (hsz : a.tmps.size = 99) (hd : a.defers = []) (e0 : a.tmps.getD 0 undef = a0.tmps.getD 0 undef) (e3 : a.tmps.getD 3 undef = a0.tmps.getD 3 undef) (e7 : a.tmps.getD 7 undef = a0.tmps.getD 7 undef)
    (e8 : a.tmps.getD 8 undef = a0.tmps.getD 8 undef) (e9 : a.tmps.getD 9 undef = a0.tmps.getD 9 undef) (t49 : a.tmps.getD 49 undef = .agg #[.int .i64 kn, .int .i64 A, .int .i64 B, .int .i64 C, .string S, .string T]) :
    wpList Tryz.prog (opsFrom 4 (body7 Tryz.f7.body pReg)).1.toArray (Exit.then ((body7 Tryz.f7.body pRest).wp Tryz.prog (fun e a' w' => (e = .normal ∨ e = .exit 1) ∧ ∃ p', Head n0 w0 (.slice sa sl sc) p' i a' w')) (fun e a' w' => (e = .normal ∨ e = .exit 1) ∧ ∃ p', Head n0 w0 (.slice sa sl sc) p' i a' w'))
      (opsFrom 4 (body7 Tryz.f7.body pReg)).2 a w := by
  obtain ⟨K, hK, h40, h30, h31, hnx, hRep, h3, h7, h8⟩ := start hp hH S A B kn hA hB hk hi
  have hpp := hH.1
  have h0 : a0.tmps.getD 0 undef = .slice sa sl sc := by obtain ⟨_, K0, _, _, _, h, _⟩ := hH; exact h
  have h9 : a0.tmps.getD 9 undef = .int .i64 i := by obtain ⟨_, K0, _, _, _, _, _, _, _, h⟩ := hH; exact h
  have hregs : ∀ k av, C1 K k (.int .i64 kn) → C1 K av (.int .i64 A) → RegRel K 99 (rAt (E.nv 7) (E.long 7) k av) a := fun k av c1 c2 =>
    regs_at hK hB hi hsl hSl h40 hnx hsz hd (e0.trans h0) (e3.trans h3) (e7.trans h7) (e8.trans h8) (e9.trans h9) t49 c1 c2
  have cA : C1 K (svI 1) (.int .i64 A) := C1_var_int hK.s1 hA
  have ck : C1 K (svI 50) (.int .i64 kn) := C1_var_int hK.s50 hk
  -- from the state that leaves the pages open
  have both : ∀ (k av : Value) (F : List (List Value × Bool)) (V : List (List Value × Value)) (bad : List (List Value × Bool)), Step E backBoth zBoth k av F V bad → C1 K k (.int .i64 kn) → C1 K av (.int .i64 A) →
      (∀ t b, (t, b) ∈ F → Den K t (.bool b)) → (∀ t v, (t, v) ∈ V → Den K t v ∧ plain v = true) → (∀ f, f ∈ bad → ∀ K', Syms n0 K' S A B i kn → ¬ Den K' f.1 (.bool f.2)) → _ := fun k av F V bad hst c1 c2 hF hV hbad =>
    step_wp hE hp hst (rep_both hpp (hRep F V hF hV) h30 h31) (hregs k av c1 c2) (fun f hf K' hle _ => hbad f hf K' (hK.mono hle)) (C := fun a' w' => ∃ p', Head n0 w0 (.slice sa sl sc) p' i a' w')
      (fun K' s' r' a' w' hle hR' hr' hk' hb' => ⟨p, head_both hpp hR' hr' hk' hb' (by rw [hle.sy]; exact h40) (by rw [hle.sy]; exact hK.s8) (by rw [hle.sy]; exact h30)
        (by rw [hle.sy, h31, hle.bl 16 (by rw [hnx]; decide)]) (Nat.lt_of_lt_of_le (by rw [hnx]; decide) hle.nx)⟩)
  -- from the pages' own state
  have each : ∀ (k av : Value) (F : List (List Value × Bool)) (V : List (List Value × Value)) (bad : List (List Value × Bool)), Step E backOK (zP p) k av F V bad → C1 K k (.int .i64 kn) → C1 K av (.int .i64 A) →
      (∀ t b, (t, b) ∈ F → Den K t (.bool b)) → (∀ t v, (t, v) ∈ V → Den K t v ∧ plain v = true) → (∀ f, f ∈ bad → ∀ K', Syms n0 K' S A B i kn → ¬ Den K' f.1 (.bool f.2)) → _ := fun k av F V bad hst c1 c2 hF hV hbad =>
    step_wp hE hp hst (hRep F V hF hV) (hregs k av c1 c2) (fun f hf K' hle _ => hbad f hf K' (hK.mono hle)) (C := fun a' w' => ∃ p', Head n0 w0 (.slice sa sl sc) p' i a' w')
      (fun K' s' r' a' w' hle hR' hr' hk' hb' => head_ok hR' hr' hk' hb' (by rw [hle.sy]; exact h40) (by rw [hle.sy]; exact hK.s8))
  have none_bad : ∀ f, f ∈ ([] : List (List Value × Bool)) → ∀ K', Syms n0 K' S A B i kn → ¬ Den K' f.1 (.bool f.2) := fun f hf => by simp at hf
  have hwA := wA_range S
  have hwB := wB_range S
  by_cases k1 : kn = 1
  · subst k1
    have cc : C1 K (kI 1) (.int .i64 1) := C1_plain rfl
    have vb : ∀ b : Nat, wB S = b → ∀ t v, (t, v) ∈ [(pgB, uI b)] → Den K t v ∧ plain v = true := fun b hb => one_val (by have := denB hK; rw [hb] at this; exact this) rfl
    by_cases b0 : wB S = 0
    · exact both _ _ _ _ _ hS.s0 cc cA no_facts (vb 0 b0) (fun f hf K' h' => bad_sub0 h' f hf)
    by_cases b1 : wB S = 1
    · exact both _ _ _ _ _ hS.s1 cc cA no_facts (vb 1 b1) (fun f hf K' h' => bad_sub1 h' f hf)
    by_cases b2 : wB S = 2
    · exact both _ _ _ _ _ hS.s2 cc cA no_facts (vb 2 b2) (fun f hf K' h' => bad_sub2 h' f hf)
    by_cases b3 : wB S = 3
    · exact both _ _ _ _ _ hS.s3 cc cA no_facts (vb 3 b3) (fun f hf K' h' => bad_sub3 h' f hf)
    by_cases b4 : wB S = 4
    · exact both _ _ _ _ _ hS.s4 cc cA no_facts (vb 4 b4) (fun f hf K' h' => bad_sub4 h' f hf)
    by_cases b5 : wB S = 5
    · exact both _ _ _ _ _ hS.s5 cc cA no_facts (vb 5 b5) (fun f hf K' h' => bad_sub5 h' f hf)
    refine both _ _ _ _ _ hS.s6 cc cA ?_ no_vals none_bad
    have hge : 6 ≤ wB S := by omega
    have d0 : Den K (pgB ++ [uI 6, .slice none 16 0]) (.bool true) := den_cmp (op := .geq) (denB hK) (by decide) (by decide) (by show some (Value.bool (decide (wB S ≥ 6))) = _; rw [decide_eq_true hge])
    have dn : ∀ n : Nat, n ≤ 5 → Den K (pgDown n ++ [uI 0, .slice none 11 0]) (.bool false) := by
      intro n hn
      refine den_cmp (op := .eql) (den_down hK n) (by decide) (by decide) ?_
      show some (Value.bool ((wB S - (n : Int)) % 4294967296 == 0)) = _
      have : ((wB S - (n : Int)) % 4294967296 == 0) = false := by simp; omega
      rw [this]
    intro t b hm
    unfold fSub6 pgEq0 at hm
    simp only [List.mem_cons, List.not_mem_nil, or_false, Prod.mk.injEq] at hm
    rcases hm with ⟨rfl, rfl⟩ | ⟨rfl, rfl⟩ | ⟨rfl, rfl⟩ | ⟨rfl, rfl⟩ | ⟨rfl, rfl⟩ | ⟨rfl, rfl⟩ | ⟨rfl, rfl⟩
    · exact d0
    · exact dn 0 (by decide)
    · exact dn 1 (by decide)
    · exact dn 2 (by decide)
    · exact dn 3 (by decide)
    · exact dn 4 (by decide)
    · exact dn 5 (by decide)
  by_cases k2 : kn = 2
  · subst k2
    exact both _ _ _ _ _ hS.pick (C1_plain rfl) cA no_facts no_vals none_bad
  by_cases k4 : kn = 4
  · subst k4
    exact both _ _ _ _ _ hS.gadd (C1_plain rfl) cA no_facts no_vals none_bad
  by_cases k6 : kn = 6
  · subst k6
    by_cases hl : S.data.toList.length = 8
    · refine both _ _ _ _ _ hS.host (C1_plain rfl) cA no_facts (one_val ?_ rfl) none_bad
      have := den_len hK
      rw [hl] at this
      exact this
    · refine both _ _ _ _ _ hS.hostX (C1_plain rfl) cA (one_fact ?_) no_vals none_bad
      refine den_cmp (op := .neq) (den_len hK) (by decide) (by decide) ?_
      show some (Value.bool ((S.data.toList.length : Int) != 8)) = _
      have : ((S.data.toList.length : Int) != 8) = true := bne_iff_ne.2 (by omega)
      rw [this]
  by_cases k7 : kn = 7
  · subst k7
    have cc : C1 K (kI 7) (.int .i64 7) := C1_plain rfl
    by_cases a1 : A < 69
    · refine both _ _ _ _ _ hS.low cc cA (one_fact ?_) no_vals none_bad
      exact den_cmp (op := .lss) (Den_sy hK.s1) (by decide) (by decide) (by show some (Value.bool (decide (A < 69))) = _; rw [decide_eq_true a1])
    by_cases a2 : 191 < A
    · refine both _ _ _ _ _ hS.high cc cA (one_fact ?_) no_vals none_bad
      exact den_cmp (op := .gtr) (Den_sy hK.s1) (by decide) (by decide) (by show some (Value.bool (decide (A > 191))) = _; rw [decide_eq_true a2])
    by_cases a3 : A = 69
    · subst a3
      by_cases az : wA S = 0
      · refine both _ _ _ _ _ (ko69z E hE) cc (C1_plain rfl) no_facts ?_ (fun f hf K' h' => bad_69z h' f hf)
        intro t v hm
        simp only [List.mem_cons, List.not_mem_nil, or_false, Prod.mk.injEq] at hm
        rcases hm with ⟨rfl, rfl⟩ | ⟨rfl, rfl⟩
        · have := denA hK
          rw [az] at this
          exact ⟨this, rfl⟩
        · exact ⟨val69z hK, rfl⟩
      · refine both _ _ _ _ _ (ko69n E hE) cc (C1_plain rfl) (one_fact ?_) (one_val (val69 hK) rfl) (fun f hf K' h' => bad_69n h' az f hf)
        refine den_cmp (op := .eql) (denA hK) (by decide) (by decide) ?_
        show some (Value.bool (wA S == 0)) = _
        have : (wA S == 0) = false := by simpa using az
        rw [this]
    by_cases a4 : A = 106
    · subst a4
      exact both _ _ _ _ _ (ko106' E hE) cc (C1_plain rfl) no_facts (one_val (val106 hK) rfl) (fun f hf K' h' => bad_106 h' f hf)
    exact both _ _ _ _ _ (hS.ko A (by omega) (by omega) a3 a4) cc (C1_plain rfl) no_facts no_vals none_bad
  by_cases k3 : kn = 3
  · subst k3
    have cc : C1 K (kI 3) (.int .i64 3) := C1_plain rfl
    by_cases hm : wA S + 8 ≤ 64 * p
    · obtain ⟨n, hn⟩ : ∃ n : Nat, wA S = n := ⟨(wA S).toNat, by omega⟩
      refine each _ _ _ _ _ (hS.mem p n hpp (by omega)) cc cA no_facts (one_val ?_ rfl) (fun f hf K' h' => bad_mem h' f hf)
      have := denA hK
      rw [hn] at this
      exact this
    · refine each _ _ _ _ _ (hS.memX p hpp) cc cA ?_ no_vals none_bad
      have d1 := den_cmp (op := .gtr) (c := 64 * p) (r := true) (den_op (op := .add) (u := [uI 8]) (denA hK) Den_lint (by decide) (by decide) rfl) (by decide) (by decide) (by
        show some (Value.bool (decide (IntKind.u64.wrap (wA S + 8) > 64 * p))) = _
        rw [decide_eq_true (by rw [wrap_u64]; omega)])
      have d2 := den_cmp (op := .gtr) (c := 64 * p) (r := true) (den_op (op := .add) (u := [uI 4]) (den_op (op := .add) (u := [uI 4]) (denA64 hK) Den_lint (by decide) (by decide) rfl) Den_lint (by decide) (by decide) rfl) (by decide) (by decide) (by
        show some (Value.bool (decide (IntKind.u64.wrap (IntKind.u64.wrap (wA S + 4) + 4) > 64 * p))) = _
        rw [decide_eq_true (by rw [wrap_u64, wrap_u64]; omega)])
      intro t b hm
      unfold fMemX at hm
      simp only [List.mem_cons, List.not_mem_nil, or_false, Prod.mk.injEq] at hm
      rcases hm with ⟨rfl, rfl⟩ | ⟨rfl, rfl⟩
      · exact d1
      · exact d2
  by_cases k5 : kn = 5
  · subst k5
    have cc : C1 K (kI 5) (.int .i64 5) := C1_plain rfl
    by_cases hm : wA S ≤ 1
    · obtain ⟨n, hn⟩ : ∃ n : Nat, wA S = n := ⟨(wA S).toNat, by omega⟩
      refine each _ _ _ _ _ (hS.grow p n hpp (by omega)) cc cA no_facts (one_val ?_ rfl) none_bad
      have := denA hK
      rw [hn] at this
      exact this
    · refine each _ _ _ _ _ (hS.growX p hpp) cc cA ?_ no_vals none_bad
      have d1 := den_cmp (op := .gtr) (c := 2) (r := true) (den_op (op := .add) (t := [uI p]) Den_lint (denA hK) (by decide) (by decide) rfl) (by decide) (by decide) (by
        show some (Value.bool (decide (IntKind.u64.wrap ((p : Int) + wA S) > 2))) = _
        rw [decide_eq_true (by rw [wrap_u64]; omega)])
      have d2 := den_cmp (op := .gtr) (c := 2 - p) (r := true) (denA64 hK) (by decide) (by decide) (by
        show some (Value.bool (decide (wA S > 2 - p))) = _
        rw [decide_eq_true (by omega)])
      intro t b hm
      unfold fGrow at hm
      simp only [List.mem_cons, List.not_mem_nil, or_false, Prod.mk.injEq] at hm
      rcases hm with ⟨rfl, rfl⟩ | ⟨rfl, rfl⟩
      · exact d1
      · exact d2
  by_cases kl : kn < 1
  · refine both _ _ _ _ _ hS.noLow ck cA (one_fact ?_) no_vals none_bad
    exact den_cmp (op := .lss) (Den_sy hK.s50) (by decide) (by decide) (by show some (Value.bool (decide (kn < 1))) = _; rw [decide_eq_true kl])
  · refine both _ _ _ _ _ hS.noHigh ck cA (one_fact ?_) no_vals none_bad
    exact den_cmp (op := .gtr) (Den_sy hK.s50) (by decide) (by decide) (by show some (Value.bool (decide (kn > 7))) = _; rw [decide_eq_true (by omega)])
end
end Go.Proofs.Qxb6500274aGreat
