import Derived.Test.Qxb6500274aGreatWRj
set_option linter.unusedVariables false
set_option linter.unusedSimpArgs false
set_option maxRecDepth 20000
namespace Go.Proofs.Qxb6500274aGreat
open Go Go.RowKit Go.Sx
section
variable {K : Kx}
theorem den_op {op : BinOp} {t u : List Value} {k : IntKind} {a b : Int} {v : Value} (ht : Den K t (.int k a)) (hu : Den K u (.int k b)) (h1 : op ≠ .shl) (h2 : op ≠ .shr) (h : ibin op k a b = some v) : Den K (t ++ (u ++ [.slice none (opN op) 0])) v :=
  Den_bin ht hu (by rw [binV_int h1 h2]; exact h)
theorem den_cmp {op : BinOp} {t : List Value} {k : IntKind} {a c : Int} {r : Bool} (ht : Den K t (.int k a)) (h1 : op ≠ .shl) (h2 : op ≠ .shr) (h : ibin op k a c = some (.bool r)) : Den K (t ++ ([.int k c] ++ [.slice none (opN op) 0])) (.bool r) := den_op ht Den_lint h1 h2 h
theorem no_facts : ∀ t b, (t, b) ∈ ([] : List (List Value × Bool)) → Den K t (.bool b) := fun t b h => by simp at h
theorem one_fact {p : List Value} {c : Bool} (h : Den K p (.bool c)) : ∀ t b, (t, b) ∈ [(p, c)] → Den K t (.bool b) := by
  intro t b hm
  cases List.mem_singleton.1 hm
  exact h
theorem two_facts {p q : List Value} {c d : Bool} (h : Den K p (.bool c)) (k : Den K q (.bool d)) : ∀ t b, (t, b) ∈ [(p, c), (q, d)] → Den K t (.bool b) := by
  intro t b hm
  simp only [List.mem_cons, List.not_mem_nil, or_false, Prod.mk.injEq] at hm
  rcases hm with ⟨rfl, rfl⟩ | ⟨rfl, rfl⟩
  · exact h
  · exact k
end
theorem cov_at {l h t : Nat} (hk : ok3 l h t = true) : covers (zL l h t) ⟨(zL l h t).heap, (zL l h t).next, [], []⟩ [] (bdId l t) = true ∧ covers (zG l h) ⟨(zL l h t).heap, (zL l h t).next, [], []⟩ [] (bdId l t) = true ∧ covers (zT t) ⟨(zL l h t).heap, (zL l h t).next, [], []⟩ [] (bdId l t) = true := by
  have hc := covOK hk
  unfold cov3 at hc
  simp only [Bool.and_eq_true] at hc
  exact hc
theorem zL_next (l h t : Nat) : (zL l h t).next = 31 := rfl
theorem zG_next (l h : Nat) : (zG l h).next = 31 := rfl
theorem zT_next (t : Nat) : (zT t).next = 31 := rfl

section
variable {n0 : Base} {w0 w : World}
def Goal (n0 : Base) (w0 : World) (script : Value) (i : Int) (e : Exit) (a' : Act) (w' : World) : Prop := (e = .normal ∨ e = .exit 1) ∧ ∃ l h t, Head n0 w0 script l h t i a' w'

theorem still_mem {E : Env} {l h t : Nat} (hS : StillOK E l h t) {c : Value × List (List Value × Bool)} (hm : c ∈ stillCases) : stepRun E (bodyAt Tryz.f8.body pReg) (bodyAt Tryz.f8.body pRest) (allAt l h t) (zL l h t) c.1 (svS 0) c.2 = true := by
  unfold StillOK stillRun at hS
  exact List.all_eq_true.1 hS c hm

theorem step_all {E : Env} (hE : IsEnv E) (hS : AllW E) {sa : Option Addr} {sl sc : Nat} {l h t : Nat} {i kn A B C : Int} {S T : ByteArray} {a0 a : Act} (hH : Head n0 w0 (.slice sa sl sc) l h t i a0 w)
    (hA : IntKind.i64.wrap A = A) (hk : IntKind.i64.wrap kn = kn) (hi : IntKind.i64.wrap i = i) (hsl : sl ≤ 9223372036854775807) (hSl : S.data.toList.length ≤ 9223372036854775807)
    (hsz : a.tmps.size = 79) (hd : a.defers = []) (e0 : a.tmps.getD 0 undef = a0.tmps.getD 0 undef) (e3 : a.tmps.getD 3 undef = a0.tmps.getD 3 undef) (e5 : a.tmps.getD 5 undef = a0.tmps.getD 5 undef)
    (e6 : a.tmps.getD 6 undef = a0.tmps.getD 6 undef) (t51 : a.tmps.getD 51 undef = .agg #[.int .i64 kn, .int .i64 A, .int .i64 B, .int .i64 C, .string S, .string T]) :
    wpList Tryz.prog (opsFrom 4 (bodyAt Tryz.f8.body pReg)).1.toArray (Exit.then ((bodyAt Tryz.f8.body pRest).wp Tryz.prog (Goal n0 w0 (.slice sa sl sc) i)) (Goal n0 w0 (.slice sa sl sc) i))
      (opsFrom 4 (bodyAt Tryz.f8.body pReg)).2 a w := by
  have hok := hH.1
  have hle := ok3_le hok
  have hcov := cov_at hok
  have h0 : a0.tmps.getD 0 undef = .slice sa sl sc := by obtain ⟨_, K0, _, _, _, h, _⟩ := hH; exact h
  have h6 : a0.tmps.getD 6 undef = .int .i64 i := by obtain ⟨_, K0, _, _, _, _, _, _, h⟩ := hH; exact h
  have go : ∀ (Z : St) (good : List Leaf → Bool) (k st : Value) (F : List (List Value × Bool)), Z.next = 31 → covers Z ⟨(zL l h t).heap, (zL l h t).next, [], []⟩ [] (bdId l t) = true → GoodW good →
      stepRun E (bodyAt Tryz.f8.body pReg) (bodyAt Tryz.f8.body pRest) good Z k st F = true → (∀ K, Syms K S A i kn → C1 K k (.int .i64 kn) ∧ C1 K st (.string S) ∧ ∀ t b, (t, b) ∈ F → Den K t (.bool b)) →
      wpList Tryz.prog (opsFrom 4 (bodyAt Tryz.f8.body pReg)).1.toArray (Exit.then ((bodyAt Tryz.f8.body pRest).wp Tryz.prog (Goal n0 w0 (.slice sa sl sc) i)) (Goal n0 w0 (.slice sa sl sc) i)) (opsFrom 4 (bodyAt Tryz.f8.body pReg)).2 a w := by
    intro Z good k st F hn hc hg hrun hall
    obtain ⟨K, hK, h40, hnx, hRep, h3, h5⟩ := start hH hn hc S A kn hA hk hi
    obtain ⟨c1, c2, c3⟩ := hall K hK
    exact step_wp hE hg hrun (hRep F c3) (regs_at hK hA hi hsl h40 hnx hsz hd (e0.trans h0) (e3.trans h3) (e5.trans h5) (e6.trans h6) t51 c1 c2) h40 hK.s8
  have still : ∀ c, c ∈ stillCases → (∀ K, Syms K S A i kn → C1 K c.1 (.int .i64 kn) ∧ ∀ t b, (t, b) ∈ c.2 → Den K t (.bool b)) → _ := fun c hm hall =>
    go (zL l h t) (allAt l h t) c.1 (svS 0) c.2 (zL_next l h t) hcov.1 (good_at l h t) (still_mem (hS.still l h t hok) hm) (fun K hK => ⟨(hall K hK).1, ⟨S, rfl, hSl, Den_sy hK.s0⟩, (hall K hK).2⟩)
  have dlen : ∀ K, Syms K S A i kn → Den K [.chan (some 0), .slice none 101 0] (.int .i64 S.data.toList.length) := fun K hK => Den_snoc1 (Den_sy hK.s0) (fun st => rfl)
  have dgt : ∀ (c : Int) K, Syms K S A i kn → Den K (pgLen 15 c) (.bool (decide ((S.data.toList.length : Int) > c))) := fun c K hK => den_cmp (op := .gtr) (dlen K hK) (by decide) (by decide) rfl
  have dne : ∀ (c : Int) K, Syms K S A i kn → Den K (pgLen 12 c) (.bool ((S.data.toList.length : Int) != c)) := fun c K hK => den_cmp (op := .neq) (dlen K hK) (by decide) (by decide) rfl
  have gt : ∀ (c : Int) (r : Bool) K, Syms K S A i kn → decide ((S.data.toList.length : Int) > c) = r → Den K (pgLen 15 c) (.bool r) := fun c r K hK e => by rw [← e]; exact dgt c K hK
  have ne : ∀ (c : Int) K, Syms K S A i kn → (S.data.toList.length : Int) ≠ c → Den K (pgLen 12 c) (.bool true) := fun c K hK e => by
    have := dne c K hK
    rw [bne_iff_ne.2 e] at this
    exact this
  have lit : ∀ (n : Int) K, kn = n → C1 K (kI n) (.int .i64 kn) := fun n K e => by rw [e]; exact C1_plain rfl
  have emp : S.data.toList.length = 0 → ∀ K, C1 K emptyS (.string S) := fun e K => by
    have hz : S = ⟨⟨[]⟩⟩ := by
      have h1 : S.data.toList = [] := List.eq_nil_of_length_eq_zero e
      cases S with
      | mk d => cases d with
        | mk d => simp at h1; subst h1; rfl
    rw [hz]
    exact C1_plain rfl
  have mv : MoveOK E l h := hS.move l h hle.1
  unfold MoveOK moveRun at mv
  simp only [Bool.and_eq_true] at mv
  obtain ⟨m2, m3, m4, m6⟩ := mv
  have long : ∀ (c : Int), (kI c, fLong) ∈ stillCases → kn = c → (S.data.toList.length : Int) > 32 → _ := fun c hm e hl =>
    still (kI c, fLong) hm (fun K hK => ⟨lit c K e, one_fact (gt 32 true K hK (decide_eq_true hl))⟩)
  have other : ∀ (c d : Int), (kI c, fOther d) ∈ stillCases → kn = c → ¬ (S.data.toList.length : Int) > 32 → (S.data.toList.length : Int) ≠ d → _ := fun c d hm e hl hne =>
    still (kI c, fOther d) hm (fun K hK => ⟨lit c K e, two_facts (gt 32 false K hK (decide_eq_false hl)) (ne d K hK hne)⟩)
  have open0 : ∀ (k st : Value), stepRun E (bodyAt Tryz.f8.body pReg) (bodyAt Tryz.f8.body pRest) (allBack []) (zG l h) k st [] = true → (∀ K, Syms K S A i kn → C1 K k (.int .i64 kn) ∧ C1 K st (.string S)) → _ := fun k st hrun hall =>
    go (zG l h) (allBack []) k st [] (zG_next l h) hcov.2.1 (good_back []) hrun (fun K hK => ⟨(hall K hK).1, (hall K hK).2, no_facts⟩)
  by_cases k1 : kn = 1
  · by_cases hl : (S.data.toList.length : Int) > 48
    · exact still (kI 1, fTapeL) (by simp [stillCases]) (fun K hK => ⟨lit 1 K k1, one_fact (gt 48 true K hK (decide_eq_true hl))⟩)
    by_cases hm : S.data.toList.length % 8 = 0
    · obtain ⟨n, hn⟩ : ∃ n, S.data.toList.length = 8 * n := ⟨S.data.toList.length / 8, by omega⟩
      exact go (zT t) (allBack []) (kI 1) (tapeS 110 n) [] (zT_next t) hcov.2.2 (good_back []) (hS.tape t n hle.2 (by omega)) (fun K hK => ⟨lit 1 K k1, tape_C1 hK (by omega) hn, no_facts⟩)
    · refine still (kI 1, fTapeX) (by simp [stillCases]) (fun K hK => ⟨lit 1 K k1, two_facts (gt 48 false K hK (decide_eq_false hl)) ?_⟩)
      have d1 := den_op (op := .rem) (u := [.int .i64 8]) (v := .int .i64 ((S.data.toList.length % 8 : Nat) : Int)) (dlen K hK) Den_lint (by decide) (by decide) (by
        show (if (8 : Int) = 0 then none else some (Value.int .i64 (Int.tmod S.data.toList.length 8))) = _
        rw [if_neg (by decide), Int.tmod_eq_emod_of_nonneg (by omega)]
        congr 2)
      have d2 := den_cmp (op := .neq) (c := 0) (r := true) d1 (by decide) (by decide) (by
        show some (Value.bool (((S.data.toList.length % 8 : Nat) : Int) != 0)) = _
        rw [bne_iff_ne.2 (by omega)])
      exact d2
  by_cases k2 : kn = 2
  · by_cases hl : (S.data.toList.length : Int) > 32
    · exact long 2 (by simp [stillCases]) k2 hl
    by_cases h16 : (S.data.toList.length : Int) = 16
    · exact open0 (kI 2) (tapeS 110 2) m2 (fun K hK => ⟨lit 2 K k2, tape_C1 hK (by omega) (by omega)⟩)
    · exact other 2 16 (by simp [stillCases]) k2 hl h16
  by_cases k3 : kn = 3
  · by_cases hl : (S.data.toList.length : Int) > 32
    · exact long 3 (by simp [stillCases]) k3 hl
    by_cases h16 : (S.data.toList.length : Int) = 0
    · exact open0 (kI 3) emptyS m3 (fun K hK => ⟨lit 3 K k3, emp (by omega) K⟩)
    · exact other 3 0 (by simp [stillCases]) k3 hl h16
  by_cases k4 : kn = 4
  · by_cases hl : (S.data.toList.length : Int) > 32
    · exact long 4 (by simp [stillCases]) k4 hl
    by_cases h16 : (S.data.toList.length : Int) = 0
    · exact open0 (kI 4) emptyS m4 (fun K hK => ⟨lit 4 K k4, emp (by omega) K⟩)
    · exact other 4 0 (by simp [stillCases]) k4 hl h16
  by_cases k6 : kn = 6
  · by_cases hl : (S.data.toList.length : Int) > 32
    · exact long 6 (by simp [stillCases]) k6 hl
    by_cases h16 : (S.data.toList.length : Int) = 0
    · exact open0 (kI 6) emptyS m6 (fun K hK => ⟨lit 6 K k6, emp (by omega) K⟩)
    · exact other 6 0 (by simp [stillCases]) k6 hl h16
  by_cases k7 : kn = 7
  · by_cases hl : (S.data.toList.length : Int) > 32
    · exact long 7 (by simp [stillCases]) k7 hl
    · exact still (kI 7, fShort) (by simp [stillCases]) (fun K hK => ⟨lit 7 K k7, one_fact (gt 32 false K hK (decide_eq_false hl))⟩)
  by_cases k5 : kn = 5
  · exact go (zG l h) (allBack loadMap) (kI 5) (svS 0) [] (zG_next l h) hcov.2.1 (good_back loadMap) (hS.load l h hle.1) (fun K hK => ⟨lit 5 K k5, ⟨S, rfl, hSl, Den_sy hK.s0⟩, no_facts⟩)
  by_cases kl : kn < 1
  · refine still (svI 50, fLow) (by simp [stillCases]) (fun K hK => ⟨C1_var_int hK.s50 hk, one_fact ?_⟩)
    exact den_cmp (op := .lss) (Den_sy hK.s50) (by decide) (by decide) (by show some (Value.bool (decide (kn < 1))) = _; rw [decide_eq_true kl])
  · refine still (svI 50, fHigh) (by simp [stillCases]) (fun K hK => ⟨C1_var_int hK.s50 hk, one_fact ?_⟩)
    exact den_cmp (op := .gtr) (Den_sy hK.s50) (by decide) (by decide) (by show some (Value.bool (decide (kn > 7))) = _; rw [decide_eq_true (by omega)])
end
end Go.Proofs.Qxb6500274aGreat
