import Derived.Test.Qxb6500274aGreatWPt
set_option linter.unusedVariables false
set_option linter.unusedSimpArgs false
set_option maxRecDepth 20000
namespace Go.Proofs.Qxb6500274aGreat
open Go Go.RowKit Go.Sx
theorem invoke34 (cap args : Array Value) (w : World) : ∃ args', (invoke (.fn (.func 34) cap) args).run Tryz.prog w = .ok (.enter 34 args') w := by
  obtain ⟨c, hb⟩ := Option.isSome_iff_exists.1 (show Tryz.f34.body.isSome = true by kernel_rfl)
  exact ⟨_, callFunc_run Tryz.func34 (of_decide_eq_true (by kernel_rfl)) hb _ w⟩
theorem fn_row (E : Env) (h : IsEnv E) {g : Nat} {f : Func} (hf : E.fn g = some f) : FRow Tryz.prog E g f := by
  refine AllRows.get (fnAll E h) ?_
  unfold IsEnv at h
  rw [h] at hf
  exact hf
theorem prim_row (E : Env) (h : IsEnv E) (g : Nat) : E.prim g = row g [(99, primConst), (64, primWord), (66, primHex), (30, primBin), (69, primHost)] := by
  unfold IsEnv at h
  rw [h]
theorem calm_row (E : Env) (h : IsEnv E) (g : Nat) : E.calm g = Nat.beq g 34 := by
  unfold IsEnv at h
  rw [h]
theorem quiet_row (E : Env) (h : IsEnv E) (g : Nat) : E.quiet g = Nat.beq g 99 := by
  unfold IsEnv at h
  rw [h]
theorem progOK (E : Env) (h : IsEnv E) {n0 : Base} {w0 : World} : ProgOK Tryz.prog E n0 w0 := by
  refine ⟨envAll h, mixed, fun g f c hf hc => (fn_row E h hf).body hc, ?_, ?_, ?_⟩
  · intro g hg cap args w
    rw [calm_row E h] at hg
    have e := Nat.eq_of_beq_eq_true hg
    subst e
    obtain ⟨a, ha⟩ := invoke34 cap args w
    exact ⟨34, a, ha, calm34 a w⟩
  · intro g f hf
    rw [prim_row E h] at hf
    have key : AllRows (fun g f => CallSound Tryz.prog n0 w0 (fun h args s => if h = g then f args s else none)) [(99, primConst), (64, primWord), (66, primHex), (30, primBin), (69, primHost)] :=
      ⟨const_sound, word_sound, hex_sound, bin_sound, host_sound, trivial⟩
    exact AllRows.get key hf
  · intro g hg
    rw [quiet_row E h] at hg
    have e := Nat.eq_of_beq_eq_true hg
    subst e
    exact ⟨primConst, by rw [prim_row E h]; rfl, const_quiet⟩
end Go.Proofs.Qxb6500274aGreat
