import Derived.Test.Qxb6500275aGreatDoorXoh
import Derived.Test.Qxb6500275aGreatDoorXoi
import Derived.Test.Qxb6500275aGreatDoorXoj
import Derived.Test.Qxb6500275aGreatDoorXok
import Derived.Test.Qxb6500275aGreatDoorXol
import Derived.Test.Qxb6500275aGreatDoorXom
import Derived.Test.Qxb6500275aGreatDoorXon
import Derived.Test.Qxb6500275aGreatDoorXop
import Derived.Test.Qxb6500275aGreatDoorXoq
import Derived.Test.Qxb6500275aGreatDoorXor
import Derived.Test.Qxb6500275aGreatDoorXos
set_option maxRecDepth 100000
set_option linter.unusedVariables false
set_option linter.unusedSimpArgs false
namespace Go.Proofs.Qxb6500275aGreatDoor
open Go Go.RowKit
section
variable {w0 w u : World} {N0 N : EN} {q : MQ} {g cap : Nat} {q0 q1 : List (MF × FT3)} {x b : MF × FT3}
theorem nsig_w : ∀ op : Nat, op < 192 → 69 ≤ op → ((numSig op).1 = 1 ∨ (numSig op).1 = 2) ∧ (65 ≤ (numSig op).2.1 ∧ (numSig op).2.1 < 256) ∧ (65 ≤ (numSig op).2.2 ∧ (numSig op).2.2 < 256) := by decide +kernel
theorem memM_min {num : NumF0} {M : Mod} {fn : Fn} {r : MF} {rest : List MF} {X Y : Int} {op e : Nat} {q' : MQ} (ho : 40 ≤ op ∧ op ≤ 64) (hfr : q.fr = r :: rest) (hr : deedM num M fn q ⟨op, X, Y⟩ = some (e, q')) : ¬ M.memMin < 0 := fun hm => by
  unfold deedM at hr
  rw [hfr] at hr
  dsimp only at hr
  iterate 11 rw [if_neg (by omega)] at hr
  rw [if_neg (show ¬ (32 ≤ op ∧ op ≤ 34) by omega), if_neg (show ¬ (op = 35 ∨ op = 36) by omega), if_pos (show 40 ≤ op ∧ op ≤ 64 by omega)] at hr
  unfold memoryM at hr
  rw [if_pos hm] at hr
  simp at hr
theorem callM_lt {M : Mod} (hM : ModOk M) {q' : MQ} {f e : Nat} (hr : callM M q f = some (e, q')) : f < 1000 := by
  unfold callM at hr
  cases hto : M.typeOf (f : Int) with
  | none => rw [hto] at hr; simp at hr
  | some t =>
    have := typeOf_range hto
    have := hM.ni
    have := hM.nf
    omega
/- EVERY INSTRUCTION THAT COSTS -/
theorem deed_w (h : Ew w0 N0 w N q g cap (q1 ++ [b]) x) (hM : ModOk N.m.mod) (hB : FB x.1) {k : Nat} (hfk : x.1.f = (k : Int)) (hn : q1.length ≤ 8) {y : Fn × Value × Value} (hyk : N.m.fs[k]? = some y) (hpc : 1 ≤ x.1.pc ∧ x.1.pc ≤ y.1.body.length) (hop : ∀ l, l ∈ x.1.labs → l.1 < y.1.body.length) (hl7 : x.1.labs.length ≤ 8) (hS : SmOk q.S) (hH : HmOk q.H) (hbd : q.H.bd.length = N.m.mod.imports.length) (hgl : q.S.gl.length = N.m.mod.globals.length) (htab : ∀ x, x ∈ q.S.tab → x < ((N.m.mod.imports.length + N.m.mod.funcs.length : Nat) : Int)) {i : Ins} (hi : InsOk i) {e : Nat} {q' : MQ} (hr : deedM numI N.m.mod y.1 q i = some (e, q')) :
    Calls Tryz.prog 261 #[.pointer (some ⟨N.xb, 0, none⟩), .pointer (some ⟨g, (q1.length + 1) * 5, none⟩), y.2.1, .agg #[.int .u8 (i.op : Int), .int .u32 i.x, .int .u64 i.y]] w (Ez w0 N0 (e : Int) q') := by
  obtain ⟨op, X, Y⟩ := i
  have hx := hi.x
  have hy := hi.y
  have ho := hi.op
  dsimp only at hx hy ho ⊢
  have hl : (q1 ++ [b]).length = q1.length + 1 := by simp
  have hf0 : 0 ≤ x.1.f := by omega
  have hn10 : (q1 ++ [b]).length ≤ 10 := by omega
  have hq10 : q1.length ≤ 10 := by omega
  rcases (by unfold opOk at ho; omega : op = 0 ∨ op = 1 ∨ op = 2 ∨ op = 3 ∨ op = 4 ∨ op = 5 ∨ op = 11 ∨ op = 12 ∨ op = 13 ∨ op = 14 ∨ op = 15 ∨ op = 16 ∨ op = 17 ∨ op = 26 ∨ op = 27 ∨ op = 32 ∨ op = 33 ∨ op = 34 ∨ op = 35 ∨ op = 36 ∨ (40 ≤ op ∧ op ≤ 53) ∨ (54 ≤ op ∧ op ≤ 62) ∨ op = 63 ∨ op = 64 ∨ op = 65 ∨ op = 66 ∨ op = 67 ∨ op = 68 ∨ (69 ≤ op ∧ op ≤ 191)) with e0 | e0 | e0 | e0 | e0 | e0 | e0 | e0 | e0 | e0 | e0 | e0 | e0 | e0 | e0 | e0 | e0 | e0 | e0 | e0 | e0 | e0 | e0 | e0 | e0 | e0 | e0 | e0 | e0
  · subst e0; rw [← hl]; exact dd_0 h hB hx hy hr
  · subst e0; rw [← hl]; exact dd_1 h hB hx hy hr
  · subst e0; exfalso; unfold deedM at hr; rw [h.fr] at hr; simp [numM, numSig] at hr
  · subst e0; exfalso; unfold deedM at hr; rw [h.fr] at hr; simp [numM, numSig] at hr
  · subst e0; rw [← hl]; exact dd_4 h hB hM hn10 hyk hpc hl7 hx hy hr
  · subst e0; exfalso; unfold deedM at hr; rw [h.fr] at hr; simp [numM, numSig] at hr
  · subst e0; exfalso; unfold deedM at hr; rw [h.fr] at hr; simp [numM, numSig] at hr
  · subst e0; exact dd_12 h hB hM hf0 hq10 hyk hop hx hy hr
  · subst e0; exact dd_13 h hB hM hf0 hq10 hyk hop hx hy hr
  · subst e0; exact dd_14 h hB hM hfk hq10 hyk hop hx hy hr
  · subst e0; exact dd_15 h hB hM hf0 hq10 hx hy hr
  · subst e0
    rw [← hl]
    refine dd_16 h hB hM hn10 hS hH hbd ?_ hx hy hr
    have hr2 := hr
    unfold deedM at hr2
    rw [h.fr] at hr2
    dsimp only at hr2
    iterate 7 rw [if_neg (by decide)] at hr2
    rw [if_pos rfl] at hr2
    have := callM_lt hM hr2
    have := hx.1
    omega
  · subst e0; rw [← hl]; exact dd_17 h hB hM hn10 hS hH hbd htab hx hy hr
  · subst e0; rw [← hl]; exact dd_26 h hB hx hy hr
  · subst e0; rw [← hl]; exact dd_27 h hB hx hy hr
  · subst e0; rw [← hl]; exact dd_32 h hB hx hy hr
  · subst e0; rw [← hl]; exact dd_33 h hB hn10 hx hy hr
  · subst e0; rw [← hl]; exact dd_34 h hB hn10 hx hy hr
  · subst e0; rw [← hl]; exact dd_35 h hB hM hn10 hS hgl hx hy hr
  · subst e0; rw [← hl]; exact dd_36 h hB hM hn10 hS hgl hx hy hr
  · rw [← hl]; exact dd_load h hB hn10 hS (memM_min (by omega) h.fr hr) hM.memMin e0 hx hy hr
  · rw [← hl]; exact dd_store h hB hn10 hS (memM_min (by omega) h.fr hr) hM.memMin e0 hx hy hr
  · rw [← hl]; exact dd_size h hB hn10 hS (memM_min (by omega) h.fr hr) hM.memMin e0 hx hy hr
  · rw [← hl]; exact dd_grow h hB hn10 hS (memM_min (by omega) h.fr hr) hM.memMin e0 hx hy hr
  · subst e0; rw [← hl]; exact dd_65 h hB hx hy hr
  · subst e0; rw [← hl]; exact dd_66 h hB hx hy hr
  · subst e0; rw [← hl]; exact dd_67 h hB hx hy hr
  · subst e0; rw [← hl]; exact dd_68 h hB hx hy hr
  · rw [← hl]
    obtain ⟨h1, h2, h3⟩ := nsig_w op (by omega) e0.1
    obtain ⟨⟨n, p, rr⟩, hs⟩ : ∃ s, numSig op = s := ⟨_, rfl⟩
    rw [hs] at h1 h2 h3
    dsimp only at h1 h2 h3
    rcases h1 with rfl | rfl
    · exact dd_num1 h hB e0 hs (by omega) (by omega) hn10 hx hy hr
    · exact dd_num2 h hB e0 hs (by omega) (by omega) hn10 hx hy hr
end
end Go.Proofs.Qxb6500275aGreatDoor
