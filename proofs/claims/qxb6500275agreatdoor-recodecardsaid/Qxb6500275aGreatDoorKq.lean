import Derived.Test.Qxb6500275aGreatDoorLs
set_option maxRecDepth 100000
set_option linter.unusedVariables false
set_option linter.unusedSimpArgs false
namespace Go.Proofs.Qxb6500275aGreatDoor
open Go Go.RowKit
theorem Kp.later {S T : Nat → Prop} {a b c : World} (h : Kp S a b) (k : Kp T b c) (ht : ∀ j, T j → S j ∨ a.heap.size ≤ j) : Kp S a c :=
  ⟨k.os.trans h.os, k.tape.trans h.tape, k.output.trans h.output, Nat.le_trans h.size k.size, fun i hi hs => (k.block i (Nat.lt_of_lt_of_le hi h.size) (fun h => by rcases ht i h with h | h; exact hs h; omega)).trans (h.block i hi hs)⟩
theorem make_c2 {P : Program} (w : World) (t e : TypeId) (n c sz bytes : Nat) (Z : Array Value) (ht : P.underlying t = some (.slice e)) (hi : (P.info? e).map (fun i => (i.size, i.bytes)) = some (sz, bytes)) (hz : (P.info? e).bind (fun i => i.zero.map (fun z => z.cells)) = some Z) (hn : bytes * c ≤ 16777216) (hn2 : n ≤ c) (hc : c ≤ 16777216) :
    (Instr.makeSlice t (.int .i64 (n : Int)) (.int .i64 (c : Int))).run P w = .ok (.slice (some ⟨w.heap.size, 0, none⟩) n c) (w.alloc (.cells (madeCells Z (c * sz)) e)) := by
  cases hq : P.info? e with
  | none => simp [hq] at hi
  | some i =>
    simp [hq] at hi hz
    obtain ⟨z, h1, h2⟩ := hz
    subst h2
    have hb : (i.bytes : Int) * (c : Int) ≤ 281474976710656 := by
      rw [hi.2]
      have : ((bytes * c : Nat) : Int) ≤ 281474976710656 := by omega
      rwa [Int.natCast_mul] at this
    have h := run_make (P := P) w t e i z ht hq h1 .i64 .i64 n c (by omega) (by omega) hb (by omega)
    rw [Int.toNat_natCast, Int.toNat_natCast, hi.1] at h
    exact h
end Go.Proofs.Qxb6500275aGreatDoor
