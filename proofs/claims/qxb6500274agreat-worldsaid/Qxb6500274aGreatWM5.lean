import Derived.Test.Qxb6500274aGreatRows
import Derived.Test.Qxb6500274aGreatWKa
import Derived.Test.Qxb6500274aGreatWLr
import Derived.ProofKit
import Derived.Deep.Slices
import Derived.Carry
set_option linter.unusedVariables false
set_option linter.unusedSimpArgs false
set_option maxRecDepth 100000
namespace Go.Proofs.Qxb6500274aGreat
open Go.ChangeShapes Go.WideShapes Go.ChangeAt Go.RowKit Go.Deep

theorem Tryz.own : ownKnob Tryz.prog.godebug = none := by kernel_rfl
theorem Tryz.laidOut : laidOutB Tryz.prog = true := by kernel_rfl
theorem cells32 : Tryz.prog.cellsOf 32 = 6 := by kernel_rfl
theorem cells3 : Tryz.prog.cellsOf 3 = 1 := by kernel_rfl
theorem cells9 : Tryz.prog.cellsOf 9 = 1 := by kernel_rfl
theorem wf_wrap {n : Int} (h : (Lit.int .i64 n).wf = true) : IntKind.i64.wrap n = n := by
  rw [Go.Sx.wrap_range]
  simpa [Lit.wf] using h

section
variable {H : Type} {enc : TypeId × Value → H}
theorem script_open {W : World} {a0 : Option Addr} {len cap fuel : Nat} {x : DataW H × List MemPlace} (h : DataW.trod enc Tryz.prog W 0 (fun _ => true) true fuel 22 [.slice a0 len cap] = some x) (n0 : Go.Sx.Base) (hn : n0.n = W.heap.size) : Script n0 W a0 len := by
  rcases open_slice Tryz.underlying22 h with ⟨hc, _⟩ | ⟨a, len', cap', m, n, D, Pl, hc, hb, hl, hm, hmm, hx, hall⟩
  · simp only [List.cons.injEq, Value.slice.injEq, and_true] at hc
    obtain ⟨_, rfl, _⟩ := hc
    exact ⟨by omega, fun j hj => by omega⟩
  · simp only [List.cons.injEq, Value.slice.injEq, and_true] at hc
    obtain ⟨q1, q2, q3⟩ := hc
    subst q1
    rw [← q2] at hl
    rw [← q3] at hl hm hmm
    simp only [if_true] at hmm
    rw [hmm] at hall
    have hm' : cap ≤ 9223372036854775807 := by unfold maxLen at hm; omega
    refine ⟨by omega, fun j hj => ?_⟩
    have each : ∀ j, j < cap → ∃ kn A B C S T, W.cell? ((a.add (j * 6)).add 0) = some (.int .i64 kn) ∧ W.cell? ((a.add (j * 6)).add 1) = some (.int .i64 A) ∧ W.cell? ((a.add (j * 6)).add 2) = some (.int .i64 B) ∧ W.cell? ((a.add (j * 6)).add 3) = some (.int .i64 C) ∧
        W.cell? ((a.add (j * 6)).add 4) = some (.string S) ∧ W.cell? ((a.add (j * 6)).add 5) = some (.string T) ∧ IntKind.i64.wrap kn = kn ∧ IntKind.i64.wrap A = A ∧ IntKind.i64.wrap B = B ∧ S.size ≤ maxLen := by
      intro j hj
      obtain ⟨cs', h1, h2⟩ := hall j hj
      rw [cells32] at h1
      obtain ⟨_, hlen, hcell⟩ := World.cells?_some h1
      obtain ⟨xs, k, hk, hxy, _, hxl, hf⟩ := DataW.trod_struct Tryz.underlying32 h2
      match cs', hlen with
      | [v0, v1, v2, v3, v4, v5], _ =>
        match xs, hxl with
        | [y0, y1, y2, y3, y4, y5], _ =>
          have g0 : DataW.trod enc Tryz.prog W 0 (fun _ => true) true k 3 [v0] = some y0 := by have := hf 0 _ rfl; simpa [cells3] using this
          have g1 : DataW.trod enc Tryz.prog W 0 (fun _ => true) true k 3 [v1] = some y1 := by have := hf 1 _ rfl; simpa [cells3] using this
          have g2 : DataW.trod enc Tryz.prog W 0 (fun _ => true) true k 3 [v2] = some y2 := by have := hf 2 _ rfl; simpa [cells3] using this
          have g3 : DataW.trod enc Tryz.prog W 0 (fun _ => true) true k 3 [v3] = some y3 := by have := hf 3 _ rfl; simpa [cells3] using this
          have g4 : DataW.trod enc Tryz.prog W 0 (fun _ => true) true k 9 [v4] = some y4 := by have := hf 4 _ rfl; simpa [cells9] using this
          have g5 : DataW.trod enc Tryz.prog W 0 (fun _ => true) true k 9 [v5] = some y5 := by have := hf 5 _ rfl; simpa [cells9] using this
          obtain ⟨n0, e0, _, w0⟩ := DataW.trod_int Tryz.underlying3 g0
          obtain ⟨n1, e1, _, w1⟩ := DataW.trod_int Tryz.underlying3 g1
          obtain ⟨n2, e2, _, w2⟩ := DataW.trod_int Tryz.underlying3 g2
          obtain ⟨n3, e3, _, w3⟩ := DataW.trod_int Tryz.underlying3 g3
          obtain ⟨s4, e4, _, w4⟩ := DataW.trod_string Tryz.underlying9 g4
          obtain ⟨s5, e5, _, w5⟩ := DataW.trod_string Tryz.underlying9 g5
          cases e0; cases e1; cases e2; cases e3; cases e4; cases e5
          exact ⟨n0, n1, n2, n3, s4, s5, hcell 0 (by decide), hcell 1 (by decide), hcell 2 (by decide), hcell 3 (by decide), hcell 4 (by decide), hcell 5 (by decide), wf_wrap w0, wf_wrap w1, wf_wrap w2, w4⟩
    obtain ⟨b, off, spot⟩ := a
    have hspot : spot = none := by
      obtain ⟨_, _, _, _, _, _, h0, _⟩ := each 0 (by omega)
      simpa [Addr.add] using World.cell?_spot h0
    subst hspot
    obtain ⟨kn, A, B, C, S, T, c0, c1, c2, c3, c4, c5, wk, wA, wB, wS⟩ := each j (by omega)
    rw [add_none, add_none] at c0 c1 c2 c3 c4 c5
    have hblt : b < W.heap.size := by
      obtain ⟨cs', h1, _⟩ := hall j (by omega)
      have := World.cells?_block h1 (by rw [cells32]; decide)
      rw [add_none] at this
      exact this
    refine ⟨b, off, kn, A, B, C, S, T, rfl, by rw [hn]; exact hblt, wA, wB, wk, ?_, c0, c1, c2, c3, c4, c5⟩
    unfold maxLen at wS
    simp
    omega
end

theorem world_any (a0 : Option Addr) (len cap : Nat) (W : World) (h : ∀ n0 : Go.Sx.Base, n0.n = W.heap.size → Script n0 W a0 len) :
    Calls Tryz.prog 5 #[.slice a0 len cap] W fun e W' => e = .returned (.bool true) ∧ Below W.heap.size W W' := by
  have h8 := f8_calls allW a0 len cap W h
  go_enter Tryz.func5, Tryz.ntmps5
  go_wp2_with (go_at_call 8; refine h8.mono ?_; rintro e w' ⟨rfl, hb⟩)
  go_ret
  exact ⟨rfl, hb⟩

theorem world_lifted (os : Os) (started : os.Started) (H : Type) (enc : TypeId × Value → H) :
    ReturnsInHanded {} Tryz.checked os 5 .any (Rows.worldSpec.pre6 enc Tryz.prog Tryz.f5 Rows.worldRow.domain false) (Rows.worldSpec.post enc Tryz.prog Tryz.f5 false true false false) := by
  refine returnsInHanded_of_change (C := Tryz.checked) Tryz.own started (by kernel_rfl) Tryz.func5
    (ChangeSpec.witness6 (enc := enc) (C := Tryz.checked) false ⟨#[], #[.slice none 0 0], []⟩ 8 (by kernel_rfl) (by kernel_rfl) (by kernel_rfl) (by kernel_rfl)) ?_
  intro W base args ds gs before hval0 hW hcnd _
  have hval : ∀ (j : Nat) t v, Tryz.f5.params[j]? = some t → args[j]? = some v → Value.okWide Tryz.prog W .any base t v := hval0
  have hW' := hW
  obtain ⟨p, q, hA0, hV, rfl, hfz, hnd⟩ := hW
  have hA : DataW.TrodAll enc Tryz.prog W 0 (fun _ => true) true Tryz.f5.params.toList args.toList ds p := hA0
  rw [Tryz.params5] at hA hval
  obtain ⟨v0, d0, rfl, rfl, h0⟩ := trodAll_one hA
  obtain ⟨rfl, rfl⟩ := trodVars_none hV
  obtain ⟨a0, len, cap, rfl⟩ := okWide_slice Tryz.underlying22 (hval 0 22 v0 rfl rfl)
  obtain ⟨fuel, hf⟩ := h0
  have hf : DataW.trod enc Tryz.prog W 0 (fun _ => true) true fuel 22 [.slice a0 len cap] = some (d0, p) := by simpa [Value.cells] using hf
  clear hA0 hval0
  refine (world_any a0 len cap W (script_open hf)).mono fun e W' ⟨he, hB⟩ => ?_
  subst he
  have hlt : ∀ x ∈ p, x.block < W.heap.size := fun x hx => hW'.lt x (List.mem_append_left _ hx)
  have hd := Below.trod Tryz.laidOut (by kernel_rfl) (of_decide_eq_true (by kernel_rfl)) (v := .slice a0 len cap) (⟨fuel, by simpa [Value.cells] using hf⟩ : DataW.Trod enc Tryz.prog W 0 (fun _ => true) true 22 (.slice a0 len cap) d0 p) hB hlt
  refine ⟨_, rfl, _, _, _, [], p, [], hW', ?_, ?_, ?_, hB.frame _, fun h => by cases h⟩
  · exact trodAll_mk1 (shut_bool Tryz.underlying4 true)
  · exact trodAll_mk1 hd
  · exact rfl

theorem world_holds : Rows.WorldSaid :=
  OpenClaim.holds_of_wide 5 Tryz.f5 rfl rfl rfl rfl rfl rfl rfl ⟨rfl, rfl, rfl, rfl, rfl⟩ rfl rfl rfl rfl rfl (by kernel_rfl) Tryz.func5 (by kernel_rfl)
    (of_decide_eq_true (by kernel_rfl)) (by unfold Func.isWrapper; first | (rw [if_pos (by decide +kernel)]; kernel_rfl) | (rw [if_neg (by decide +kernel)]; exact ⟨rfl, rfl⟩))
    (fun os started H enc _ => world_lifted os started H enc)

end Go.Proofs.Qxb6500274aGreat
