import Derived.Test.Qxb6500275aGreatDoorKv2
import Derived.Test.Qxb6500275aGreatDoorNm7
import Derived.Test.Qxb6500275aGreatDoorRows
import Derived.ProofKit
import Derived.Deep.Slices
import Derived.Carry
import Derived.OpenShut
import Derived.LaidLaws
import Derived.Handed
set_option linter.unusedVariables false
set_option linter.unusedSimpArgs false
set_option maxRecDepth 100000
namespace Go.Proofs.Qxb6500275aGreatDoor
open Go Go.ChangeShapes Go.WideShapes Go.ChangeAt Go.RowKit Go.Deep
/- the numeric operators are SOME function -/
theorem num_exists : ∃ num : NumF, NumR num ∧ NumOk num := by
  have h : ∀ (o : Nat) (x y : Int), ∃ p : Int × Int, ((0 ≤ p.1 ∧ p.1 < 18446744073709551616) ∧ (p.2 = 0 ∨ 38 ≤ p.2 ∧ p.2 ≤ 45)) ∧ (69 ≤ o → o ≤ 191 → (0 ≤ x ∧ x < 18446744073709551616) → (0 ≤ y ∧ y < 18446744073709551616) → ∀ w, Calls Tryz.prog 104 #[.int .i64 o, .int .u64 x, .int .u64 y] w fun e' w' => e' = .returned (.tuple #[.int .u64 p.1, .int .i64 p.2]) ∧ sameWorld w w') := by
    intro o x y
    by_cases hc : 69 ≤ o ∧ o ≤ 191 ∧ (0 ≤ x ∧ x < 18446744073709551616) ∧ (0 ≤ y ∧ y < 18446744073709551616)
    · obtain ⟨b, e, hb, he, hw⟩ := apply_all o x y ⟨by omega, by omega⟩ hc.2.2.1 hc.2.2.2
      exact ⟨(b, e), ⟨hb, he⟩, fun _ _ _ _ w => hw w⟩
    · exact ⟨(0, 0), ⟨by decide, .inl rfl⟩, fun a b c d => absurd ⟨a, b, c, d⟩ hc⟩
  exact ⟨fun o x y => Classical.choose (h o x y), fun o x y a b c d w => (Classical.choose_spec (h o x y)).2 a b c d w, ⟨fun o x y => (Classical.choose_spec (h o x y)).1⟩⟩
theorem cells30 : Tryz.prog.cellsOf 30 = 6 := by kernel_rfl
theorem cells3 : Tryz.prog.cellsOf 3 = 1 := by kernel_rfl
theorem cells9 : Tryz.prog.cellsOf 9 = 1 := by kernel_rfl
theorem addrAdd (B o j : Nat) : (⟨B, o, none⟩ : Addr).add j = ⟨B, o + j, none⟩ := by
  simp [Addr.add]
theorem wf_rg {n : Int} (h : (Lit.int .i64 n).wf = true) : -9223372036854775808 ≤ n ∧ n < 9223372036854775808 := by
  simp [Lit.wf, IntKind.min, IntKind.max, IntKind.signed, IntKind.bits] at h
  omega
section
variable {H : Type} {enc : TypeId × Value → H}
/- THE SCRIPT, out of what the row hands over -/
theorem script_open {W : World} {a0 : Option Addr} {len cap fuel : Nat} {x : DataW H × List MemPlace} (h : DataW.trod enc Tryz.prog W 0 (fun _ => true) true fuel 22 [.slice a0 len cap] = some x) : Script W a0 len := by
  rcases open_slice Tryz.underlying22 h with ⟨hc, _⟩ | ⟨a, len', cap', m, n, D, Pl, hc, hb, hl, hm, hmm, hx, hall⟩
  · simp only [List.cons.injEq, Value.slice.injEq, and_true] at hc
    obtain ⟨_, rfl, _⟩ := hc
    exact ⟨by omega, fun j hj => by omega⟩
  · simp only [List.cons.injEq, Value.slice.injEq, and_true] at hc
    obtain ⟨q1, q2, q3⟩ := hc
    subst q1
    rw [← q2] at hl
    rw [← q3] at hl hm hmm
    simp only [if_true] at hmm
    rw [hmm] at hall
    have hm' : cap ≤ 9223372036854775807 := by unfold maxLen at hm; omega
    refine ⟨by omega, fun j hj => ?_⟩
    have each : ∀ j, j < cap → ∃ kn A B C S T, W.cell? ((a.add (j * 6)).add 0) = some (.int .i64 kn) ∧ W.cell? ((a.add (j * 6)).add 1) = some (.int .i64 A) ∧ W.cell? ((a.add (j * 6)).add 2) = some (.int .i64 B) ∧ W.cell? ((a.add (j * 6)).add 3) = some (.int .i64 C) ∧
        W.cell? ((a.add (j * 6)).add 4) = some (.string S) ∧ W.cell? ((a.add (j * 6)).add 5) = some (.string T) ∧ (-9223372036854775808 ≤ A ∧ A < 9223372036854775808) ∧ S.size ≤ maxLen ∧ T.size ≤ maxLen := by
      intro j hj
      obtain ⟨cs', h1, h2⟩ := hall j hj
      rw [cells30] at h1
      obtain ⟨_, hlen, hcell⟩ := World.cells?_some h1
      obtain ⟨xs, k, hk, hxy, _, hxl, hf⟩ := DataW.trod_struct Tryz.underlying30 h2
      match cs', hlen with
      | [v0, v1, v2, v3, v4, v5], _ =>
        match xs, hxl with
        | [y0, y1, y2, y3, y4, y5], _ =>
          have g0 : DataW.trod enc Tryz.prog W 0 (fun _ => true) true k 3 [v0] = some y0 := by have := hf 0 _ rfl; simpa [cells3] using this
          have g1 : DataW.trod enc Tryz.prog W 0 (fun _ => true) true k 3 [v1] = some y1 := by have := hf 1 _ rfl; simpa [cells3] using this
          have g2 : DataW.trod enc Tryz.prog W 0 (fun _ => true) true k 3 [v2] = some y2 := by have := hf 2 _ rfl; simpa [cells3] using this
          have g3 : DataW.trod enc Tryz.prog W 0 (fun _ => true) true k 3 [v3] = some y3 := by have := hf 3 _ rfl; simpa [cells3] using this
          have g4 : DataW.trod enc Tryz.prog W 0 (fun _ => true) true k 9 [v4] = some y4 := by have := hf 4 _ rfl; simpa [cells9] using this
          have g5 : DataW.trod enc Tryz.prog W 0 (fun _ => true) true k 9 [v5] = some y5 := by have := hf 5 _ rfl; simpa [cells9] using this
          obtain ⟨n0, e0, _, w0⟩ := DataW.trod_int Tryz.underlying3 g0
          obtain ⟨n1, e1, _, w1⟩ := DataW.trod_int Tryz.underlying3 g1
          obtain ⟨n2, e2, _, w2⟩ := DataW.trod_int Tryz.underlying3 g2
          obtain ⟨n3, e3, _, w3⟩ := DataW.trod_int Tryz.underlying3 g3
          obtain ⟨s4, e4, _, w4⟩ := DataW.trod_string Tryz.underlying9 g4
          obtain ⟨s5, e5, _, w5⟩ := DataW.trod_string Tryz.underlying9 g5
          cases e0; cases e1; cases e2; cases e3; cases e4; cases e5
          exact ⟨n0, n1, n2, n3, s4, s5, hcell 0 (by decide), hcell 1 (by decide), hcell 2 (by decide), hcell 3 (by decide), hcell 4 (by decide), hcell 5 (by decide), wf_rg w1, w4, w5⟩
    obtain ⟨b, off, spot⟩ := a
    have hspot : spot = none := by
      obtain ⟨_, _, _, _, _, _, h0, _⟩ := each 0 (by omega)
      simpa [Addr.add] using World.cell?_spot h0
    subst hspot
    obtain ⟨kn, A, B, C, S, T, c0, c1, c2, c3, c4, c5, wA, wS, wT⟩ := each j (by omega)
    rw [addrAdd, addrAdd] at c0 c1 c2 c3 c4 c5
    unfold maxLen at wS wT
    exact ⟨⟨kn, A, B, C, S, T⟩, b, off, rfl, ⟨wA.2, by dsimp only; omega, by dsimp only; omega⟩, wA.1, c0, c1, c2, c3, c4, c5⟩
end
/- THE NAMES' TABLE, out of what the row lists -/
theorem known_g : Tryz.prog.globalNamed ((Rows.keepsRow.laid.map (fun x => x.1)).headD "") = some 0 := by kernel_rfl
theorem known_t : (Tryz.prog.globals[0]?).map (·.type) = some 306 := by kernel_rfl
theorem kn_of_laid {W : World} (h : laidMetH Tryz.prog Rows.keepsRow.laid W) : Kn W := by
  have h' : laidMet Tryz.prog [(((Rows.keepsRow.laid.map (fun x => x.1)).headD ""), Rows.laid_e2e_host_known)] W := h
  obtain ⟨ps, ⟨g, t, cs, fuel, p, q, e1, e2, e3, e4, _⟩, _⟩ := h'
  obtain rfl := Option.some.inj (known_g.symm.trans e1)
  obtain rfl := Option.some.inj (known_t.symm.trans e2)
  obtain ⟨xs, m, _, hx, hl, hxl, hall⟩ := DataW.trod_array Tryz.underlying306 e4
  simp only [Prod.mk.injEq, Rows.laid_e2e_host_known, DataW.agg.injEq] at hx
  have hx1 := hx.1
  match xs, hxl with
  | [y0, y1, y2, y3], _ =>
    simp only [List.map_cons, List.map_nil, List.cons.injEq, and_true] at hx1
    obtain ⟨z0, z1, z2, z3⟩ := hx1
    have one : ∀ k, k < 4 → ∀ y : DataW Unit × List MemPlace, [y0, y1, y2, y3][k]? = some y → ∀ l, y.1 = .lit (.string l) → W.cell? ⟨0, k, none⟩ = some (.string ⟨l.toArray⟩) := by
      intro k hk y hy l hyl
      have hk' := hall k hk
      rw [cells9, hy, Nat.mul_one] at hk'
      obtain ⟨s, a1, a2, _⟩ := DataW.trod_string Tryz.underlying9 hk'
      rw [a2] at hyl
      simp only [DataW.lit.injEq, Lit.string.injEq] at hyl
      rw [World.var?_cell known_g e3 k]
      have : cs.toList[k]? = some (.string s) := by
        have h0 : (cs.toList.drop k).take 1 = [.string s] := a1
        have h1 := congrArg (fun l => l[0]?) h0
        simpa [List.getElem?_take, List.getElem?_drop] using h1
      rw [← Array.getElem?_toList, this, ← hyl]
    intro k hk
    have hb4 : k = 0 ∨ k = 1 ∨ k = 2 ∨ k = 3 := by omega
    rcases hb4 with rfl | rfl | rfl | rfl
    · exact one 0 (by decide) y0 rfl _ z0.symm
    · exact one 1 (by decide) y1 rfl _ z1.symm
    · exact one 2 (by decide) y2 rfl _ z2.symm
    · exact one 3 (by decide) y3 rfl _ z3.symm
end Go.Proofs.Qxb6500275aGreatDoor
