import Derived.Test.Qxb6500274aGreatRi
set_option linter.unusedVariables false
set_option linter.unusedSimpArgs false
set_option maxRecDepth 20000
namespace Go.Proofs.Qxb6500274aGreat
open Go Go.RowKit Go.Sx
/- what the kernel has run -/
structure AllSteps (E : Env) : Prop where
  ko : ∀ o : Int, 69 ≤ o → o ≤ 191 → o ≠ 69 → o ≠ 106 → Step E backBoth zBoth (kI 7) (kI o) [] [] []
  s0 : Step E backBoth zBoth (kI 1) (svI 1) [] [(pgB, uI 0)] bad0
  s1 : Step E backBoth zBoth (kI 1) (svI 1) [] [(pgB, uI 1)] bad1
  s2 : Step E backBoth zBoth (kI 1) (svI 1) [] [(pgB, uI 2)] bad2
  s3 : Step E backBoth zBoth (kI 1) (svI 1) [] [(pgB, uI 3)] bad3
  s4 : Step E backBoth zBoth (kI 1) (svI 1) [] [(pgB, uI 4)] bad4
  s5 : Step E backBoth zBoth (kI 1) (svI 1) [] [(pgB, uI 5)] bad5
  s6 : Step E backBoth zBoth (kI 1) (svI 1) fSub6 [] []
  pick : Step E backBoth zBoth (kI 2) (svI 1) [] [] []
  gadd : Step E backBoth zBoth (kI 4) (svI 1) [] [] []
  host : Step E backBoth zBoth (kI 6) (svI 1) [] [(pgLen, kI 8)] []
  hostX : Step E backBoth zBoth (kI 6) (svI 1) fHostX [] []
  low : Step E backBoth zBoth (kI 7) (svI 1) fLow [] []
  high : Step E backBoth zBoth (kI 7) (svI 1) fHigh [] []
  noLow : Step E backBoth zBoth (svI 50) (svI 1) fNoLow [] []
  noHigh : Step E backBoth zBoth (svI 50) (svI 1) fNoHigh [] []
  mem : ∀ p a : Nat, p = 1 ∨ p = 2 → a + 8 ≤ 64 * p → Step E backOK (zP p) (kI 3) (svI 1) [] [(pgA, uI a)] badM
  memX : ∀ p : Nat, p = 1 ∨ p = 2 → Step E backOK (zP p) (kI 3) (svI 1) (fMemX p) [] []
  grow : ∀ p a : Nat, p = 1 ∨ p = 2 → a ≤ 1 → Step E backOK (zP p) (kI 5) (svI 1) [] [(pgA, uI a)] []
  growX : ∀ p : Nat, p = 1 ∨ p = 2 → Step E backOK (zP p) (kI 5) (svI 1) (fGrow p) [] []

section
variable {n0 : Base} {w0 w : World}
/- the symbols of a round -/
def symOf (K0 : Kx) (script : Value) (p : Nat) (i : Int) (S : ByteArray) (A B kn : Int) (j : Nat) : Value :=
  if j = 0 then .string S else if j = 1 then .int .i64 A else if j = 3 then .int .i64 B else if j = 8 then .int .i64 i else if j = 50 then .int .i64 kn else if j = 40 then script else
    if j = 30 then .int .u64 p else if j = 31 then .slice (some ⟨K0.bl 16, 0, none⟩) (64 * p) 128 else K0.sy j
theorem start {sa : Option Addr} {sl sc : Nat} {p : Nat} {i : Int} {a : Act} (hp : PfOK n0) (hH : Head n0 w0 (.slice sa sl sc) p i a w) (S : ByteArray) (A B kn : Int) (hA : IntKind.i64.wrap A = A) (hB : IntKind.i64.wrap B = B) (hk : IntKind.i64.wrap kn = kn) (hi : IntKind.i64.wrap i = i) :
    ∃ K, Syms n0 K S A B i kn ∧ K.sy 40 = .slice sa sl sc ∧ K.sy 30 = .int .u64 p ∧ K.sy 31 = .slice (some ⟨K.bl 16, 0, none⟩) (64 * p) 128 ∧ K.nx = 36 ∧
      (∀ F V, (∀ t b, (t, b) ∈ F → Den K t (.bool b)) → (∀ t v, (t, v) ∈ V → Den K t v ∧ plain v = true) → Rep n0 w0 K ⟨(zP p).heap, (zP p).next, F, V⟩ w) ∧
      a.tmps.getD 3 undef = .pointer (some ⟨K.bl 0, 0, none⟩) ∧ a.tmps.getD 7 undef = .pointer (some ⟨K.bl 1, 0, none⟩) ∧ a.tmps.getD 8 undef = .pointer (some ⟨K.bl 2, 0, none⟩) := by
  obtain ⟨hpp, K0, hR, hsz, hd, h0, h3, h7, h8, h9⟩ := hH
  have hpr : IntKind.u64.wrap (p : Int) = p := by rw [wrap_u64]; omega
  have hr : ∀ j k n, symOf K0 (.slice sa sl sc) p i S A B kn j = .int k n → k.wrap n = n := by
    intro j k n h
    unfold symOf at h
    split at h
    · cases h
    split at h
    · cases h; exact hA
    split at h
    · cases h; exact hB
    split at h
    · cases h; exact hi
    split at h
    · cases h; exact hk
    split at h
    · cases h
    split at h
    · cases h; exact hpr
    split at h
    · cases h
    exact hR.syr j k n h
  refine ⟨K0.weak (zP p) [] w (symOf K0 (.slice sa sl sc) p i S A B kn), ⟨rfl, rfl, rfl, rfl, rfl, hR.pfq, hp⟩, rfl, rfl, rfl, zP_next p, fun F V hF hV => resym hR (symOf K0 (.slice sa sl sc) p i S A B kn) rfl rfl rfl hr F V hF hV, h3, h7, h8⟩

/- the registers behind 'script[i]' -/
theorem regs_at {K : Kx} {nv : Nat} {long : List Nat} {sa : Option Addr} {sl sc : Nat} {i kn A B C : Int} {S T : ByteArray} {k av : Value} {a : Act} (hK : Syms n0 K S A B i kn) (hB : IntKind.i64.wrap B = B) (hi : IntKind.i64.wrap i = i) (hsl : sl ≤ 9223372036854775807) (hS : S.data.toList.length ≤ 9223372036854775807)
    (h40 : K.sy 40 = .slice sa sl sc) (hnx : K.nx = 36) (hsz : a.tmps.size = 99) (hd : a.defers = []) (t0 : a.tmps.getD 0 undef = .slice sa sl sc) (t3 : a.tmps.getD 3 undef = .pointer (some ⟨K.bl 0, 0, none⟩))
    (t7 : a.tmps.getD 7 undef = .pointer (some ⟨K.bl 1, 0, none⟩)) (t8 : a.tmps.getD 8 undef = .pointer (some ⟨K.bl 2, 0, none⟩)) (t9 : a.tmps.getD 9 undef = .int .i64 i)
    (t49 : a.tmps.getD 49 undef = .agg #[.int .i64 kn, .int .i64 A, .int .i64 B, .int .i64 C, .string S, .string T]) (hk : C1 K k (.int .i64 kn)) (hav : C1 K av (.int .i64 A)) : RegRel K 99 (rAt nv long k av) a := by
  have hptr : ∀ b, b < 36 → RV K (ptr0 b) (.pointer (some ⟨K.bl b, 0, none⟩)) := by
    intro b hb
    unfold ptr0
    rw [RV_ptr]
    exact ⟨rfl, by rw [hnx]; exact hb, rfl⟩
  unfold rAt
  refine RegRel.know (RegRel.know (RegRel.know (RegRel.know (RegRel.know (RegRel.know (RegRel.none hsz hd) ?_) ?_) ?_) ?_) ?_) ?_
  · rw [t0]; exact (C1_var_slice h40 hsl).rv
  · rw [t3]; exact hptr 0 (by decide)
  · rw [t7]; exact hptr 1 (by decide)
  · rw [t8]; exact hptr 2 (by decide)
  · rw [t9]; exact (C1_var_int hK.s8 hi).rv
  · rw [t49, RV_agg]
    refine ⟨_, rfl, hk, hav, C1_var_int hK.s3 hB, rfl, ?_, rfl, trivial⟩
    exact ⟨S, rfl, hS, Den_sy hK.s0⟩
end
end Go.Proofs.Qxb6500274aGreat
