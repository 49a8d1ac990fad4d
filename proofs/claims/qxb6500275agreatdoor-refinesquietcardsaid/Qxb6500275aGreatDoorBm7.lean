import Derived.Test.Qxb6500275aGreatDoorBm6
import Derived.Test.Qxb6500275aGreatDoorIc
import Derived.Test.Qxb6500275aGreatDoorWr13
import Derived.Test.Qxb6500275aGreatDoorEn1
set_option maxRecDepth 100000
set_option linter.unusedVariables false
set_option linter.unusedSimpArgs false
namespace Go.Proofs.Qxb6500275aGreatDoor
open Go Go.RowKit
def rest1 (s : ByteArray) (q e op at_ : Nat) : R Ins :=
  if op = 0 ∨ op = 1 ∨ op = 5 ∨ op = 11 ∨ op = 15 ∨ op = 26 ∨ op = 27 then .ok (⟨op, 0, 0⟩, q)
  else if op = 2 ∨ op = 3 ∨ op = 4 then bindQ (nextS s q e) fun x => if x.1 = 64 ∨ (124 ≤ x.1 ∧ x.1 ≤ 127) then .ok (⟨op, x.1, 0⟩, x.2) else .error (9, q)
  else if op = 12 ∨ op = 13 ∨ op = 16 ∨ op = 32 ∨ op = 33 ∨ op = 34 ∨ op = 35 ∨ op = 36 then bindQ (u32S s q e) fun x => .ok (⟨op, x.1, 0⟩, x.2)
  else if op = 17 then bindQ (u32S s q e) fun x => bindQ (fixedS s x.2 e 0) fun y => .ok (⟨op, x.1, 0⟩, y.2)
  else if op = 63 ∨ op = 64 then bindQ (fixedS s q e 0) fun y => .ok (⟨op, 0, 0⟩, y.2)
  else if 65 ≤ op ∧ op ≤ 68 then bindQ (cS s q e op) fun y => .ok (⟨op, 0, y.1⟩, y.2)
  else if 40 ≤ op ∧ op ≤ 62 then bindQ (u32S s q e) fun x => bindQ (u32S s x.2 e) fun y => .ok (⟨op, x.1, y.1⟩, y.2)
  else if 69 ≤ op ∧ op ≤ 191 then .ok (⟨op, 0, 0⟩, q)
  else .error (10, at_)
theorem restS_1 {s : ByteArray} {q e op at_ : Nat} {tabs : List Int} (h : op ≠ 14) : restS s q e op at_ tabs = (match rest1 s q e op at_ with
    | .error f => .error f
    | .ok x => .ok (x.1, x.2, tabs)) := by
  unfold restS rest1
  by_cases h1 : op = 0 ∨ op = 1 ∨ op = 5 ∨ op = 11 ∨ op = 15 ∨ op = 26 ∨ op = 27
  · rw [if_pos h1, if_pos h1]
  rw [if_neg h1, if_neg h1]
  by_cases h2 : op = 2 ∨ op = 3 ∨ op = 4
  · rw [if_pos h2, if_pos h2]
    unfold blkS nextS bindQ
    by_cases hq : q < e
    · rw [if_pos hq, if_pos hq]
      dsimp only
      by_cases h3 : bAt s q = 64 ∨ (124 ≤ bAt s q ∧ bAt s q ≤ 127)
      · rw [if_pos h3, if_pos h3]
      · rw [if_neg h3, if_neg h3]
    · rw [if_neg hq, if_neg hq]
  rw [if_neg h2, if_neg h2]
  by_cases h3 : op = 12 ∨ op = 13 ∨ op = 16 ∨ op = 32 ∨ op = 33 ∨ op = 34 ∨ op = 35 ∨ op = 36
  · rw [if_pos h3, if_pos h3]
    unfold idxS bindQ
    cases u32S s q e <;> rfl
  rw [if_neg h3, if_neg h3, if_neg h]
  by_cases h4 : op = 17
  · rw [if_pos h4, if_pos h4]
    unfold ciS bindQ
    cases u32S s q e with
    | error f => rfl
    | ok x =>
      dsimp only
      cases fixedS s x.2 e 0 <;> rfl
  rw [if_neg h4, if_neg h4]
  by_cases h5 : op = 63 ∨ op = 64
  · rw [if_pos h5, if_pos h5]
    unfold zeroS bindQ
    cases fixedS s q e 0 <;> rfl
  rw [if_neg h5, if_neg h5]
  by_cases h6 : 65 ≤ op ∧ op ≤ 68
  · rw [if_pos h6, if_pos h6]
    unfold constS bindQ
    cases cS s q e op <;> rfl
  rw [if_neg h6, if_neg h6]
  by_cases h7 : 40 ≤ op ∧ op ≤ 62
  · rw [if_pos h7, if_pos h7]
    unfold ldstS bindQ
    cases u32S s q e with
    | error f => rfl
    | ok x =>
      dsimp only
      cases u32S s x.2 e <;> rfl
  rw [if_neg h7, if_neg h7]
  by_cases h8 : 69 ≤ op ∧ op ≤ 191
  · rw [if_pos h8, if_pos h8]
  · rw [if_neg h8, if_neg h8]
section
variable {w w' : World} {b : Nat} {s : ByteArray} {p e : Nat} {er : Int} {a : Nat}
theorem byte_ok (h : Rc w b s p e 0 a) (hp : p < e) {K : Nat} (hK : bAt s p = K) : Hid (∀ u, Kp (fun _ => False) w u → Calls Tryz.prog 183 #[.pointer (some ⟨b, 0, none⟩)] u (fun en w' => ∃ a', en = .returned (.int .i64 (K : Int)) ∧ Rc w' b s (p + 1) e 0 a' ∧ Kp (· = b) u w')) := fun u hu => by
  refine (byte_m (h.keep hu (fun h => h))).mono ?_
  rintro en w2 ⟨v, q, er', a', rfl, hR, hK', hB, hC⟩
  rcases hC.out.1 rfl with ⟨ho, h1⟩ | ⟨ho, h1⟩
  · unfold nextS at ho
    rw [if_pos hp, hK] at ho
    simp at ho
    obtain ⟨rfl, rfl⟩ := ho
    subst h1
    exact ⟨a', rfl, hR, hK'⟩
  · unfold nextS at ho
    rw [if_pos hp] at ho
    simp at ho
/- a block of three cells -/
structure C3 (u : World) (n : Nat) (x y z : Value) : Prop where
  c0 : u.cell? ⟨n, 0, none⟩ = some x
  c1 : u.cell? ⟨n, 1, none⟩ = some y
  c2 : u.cell? ⟨n, 2, none⟩ = some z
  f0 : u.frozen? ⟨n, 0, none⟩ = false
  f1 : u.frozen? ⟨n, 1, none⟩ = false
  f2 : u.frozen? ⟨n, 2, none⟩ = false
theorem C3.new (u : World) (x y z : Value) (t : TypeId) : C3 (u.alloc (.cells #[x, y, z] t)) u.heap.size x y z := by
  have hb := blk_al u #[x, y, z] t
  exact ⟨hb.cell (i := 0) (by simp), hb.cell (i := 1) (by simp), hb.cell (i := 2) (by simp), hb.fz (by simp), hb.fz (by simp), hb.fz (by simp)⟩
theorem C3.lt {u : World} {n : Nat} {x y z : Value} (h : C3 u n x y z) : n < u.heap.size := lt_of_cell h.c0
theorem C3.keep {u u2 : World} {n : Nat} {x y z : Value} {P : Nat → Prop} (h : C3 u n x y z) (hk : Kp P u u2) (hp : ¬ P n) : C3 u2 n x y z := by
  have ec : ∀ o, u2.cell? ⟨n, o, none⟩ = u.cell? ⟨n, o, none⟩ := fun o => hk.cell (p := ⟨n, o, none⟩) h.lt hp
  have ef : ∀ o, u2.frozen? ⟨n, o, none⟩ = u.frozen? ⟨n, o, none⟩ := fun o => hk.frozen (p := ⟨n, o, none⟩) h.lt hp
  exact ⟨(ec 0).trans h.c0, (ec 1).trans h.c1, (ec 2).trans h.c2, (ef 0).trans h.f0, (ef 1).trans h.f1, (ef 2).trans h.f2⟩
theorem C3.set1 {u : World} {n : Nat} {x y z : Value} (h : C3 u n x y z) (v : Value) : C3 (u.setCell ⟨n, 1, none⟩ v) n x v z := by
  obtain ⟨h1, h2, h3, f1, f2, f3⟩ := h
  exact ⟨by simp [h1, go_sem], by simp [h2, go_sem], by simp [h3, go_sem], by simp [f1, go_sem], by simp [f2, go_sem], by simp [f3, go_sem]⟩
theorem C3.set2 {u : World} {n : Nat} {x y z : Value} (h : C3 u n x y z) (v : Value) : C3 (u.setCell ⟨n, 2, none⟩ v) n x y v := by
  obtain ⟨h1, h2, h3, f1, f2, f3⟩ := h
  exact ⟨by simp [h1, go_sem], by simp [h2, go_sem], by simp [h3, go_sem], by simp [f1, go_sem], by simp [f2, go_sem], by simp [f3, go_sem]⟩
theorem ins_end {α : Type} {enc : α → Value} {w4 wf : World} {n4 n7 q a' : Nat} {er' : Int} {x : α} {o : R α} {en : Ending} (hen : en = .returned (enc x)) (hR : Rc w4 b s q e er' a') (hK : Kp (· = b) w w4) (hS : Kp (fun k => k = n4 ∨ k = n7) w4 wf) (h4 : w.heap.size ≤ n4) (h7 : w.heap.size ≤ n7) (hb : b < w.heap.size) (hC : Cu o er a x q er' a') : Cm enc (fun _ => True) o b s e er a w en wf := by
  refine ⟨x, q, er', a', hen, hR.keep hS (fun h => ?_), ?_, trivial, hC⟩
  · rcases h with h | h <;> omega
  · have hsz := hK.size
    refine ⟨hS.os.trans hK.os, hS.tape.trans hK.tape, hS.output.trans hK.output, Nat.le_trans hK.size hS.size, fun i hi hn => ?_⟩
    rw [hS.block i (by omega) (fun h => by rcases h with h | h <;> omega)]
    exact hK.block i hi hn
end
end Go.Proofs.Qxb6500275aGreatDoor
