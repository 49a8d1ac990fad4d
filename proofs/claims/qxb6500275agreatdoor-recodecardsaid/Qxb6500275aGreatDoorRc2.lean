import Derived.Test.Qxb6500275aGreatDoorRc1
import Derived.Test.Qxb6500275aGreatDoorEo5
import Derived.Test.Qxb6500275aGreatDoorShh
set_option maxRecDepth 100000
set_option linter.unusedVariables false
set_option linter.unusedSimpArgs false
namespace Go.Proofs.Qxb6500275aGreatDoor
open Go Go.RowKit
structure Kr (num : NumF) (W w : World) (X Y : Mx) (st : Ma) (bb ib tb : Nat) (t : TV) : Prop where
  d : Duo num (VB bb ib tb t) W w X Y st st
  q : Bq w bb ib tb t
def fr10 (k0 b v x y ii : Value) (u : Nat → Value) : Array Value := #[k0, u 1, u 2, b, v, x, y, ii, u 8, u 9, u 10, u 11, u 12, u 13, u 14, u 15, u 16, u 17, u 18, u 19, u 20, u 21, u 22, u 23, u 24, u 25, u 26, u 27, u 28, u 29, u 30, u 31, u 32, u 33, u 34, u 35, u 36, u 37, u 38, u 39, u 40, u 41, u 42, u 43, u 44, u 45, u 46, u 47, u 48, u 49, u 50, u 51, u 52, u 53, u 54, u 55, u 56, u 57, u 58, u 59, u 60, u 61, u 62, u 63, u 64, u 65, u 66, u 67, u 68, u 69, u 70, u 71, u 72, u 73, u 74, u 75, u 76, u 77, u 78, u 79, u 80, u 81, u 82, u 83, u 84, u 85, u 86, u 87, u 88, u 89, u 90, u 91, u 92, u 93, u 94, u 95, u 96, u 97, u 98, u 99, u 100, u 101, u 102, u 103, u 104, u 105, u 106, u 107, u 108, u 109]
/- how a round goes on -/
def Next10 (num : NumF) (W : World) (k0 b v : Value) (X Y : Mx) (bb ib tb : Nat) (i : Nat) (Q : Exit → Act → World → Prop) : Prop :=
  ∀ tmps w' st' t', tmps = fr10 k0 b v (.pointer (some ⟨X.xb, 0, none⟩)) (.pointer (some ⟨Y.xb, 0, none⟩)) (.int .i64 ((i : Int) + 1)) (fun j => tmps.getD j undef) → Kr num W w' X Y st' bb ib tb t' → Q .normal ⟨tmps, []⟩ w'
/- ONE ROUND of RecodeUpTo, amid the script -/
def Case10 (num : NumF) (W : World) (a0 : Option Addr) (len cap : Nat) (X Y : Mx) (bb ib tb : Nat) (i : Nat) (o : Op6) : Prop :=
  ∀ (wr : World) (v : Value) (u : Nat → Value) (st : Ma) (t : TV) (Q : Exit → Act → World → Prop), NumR num → NumOk num → Kn W → 0 < W.heap.size → i < len → len ≤ 9223372036854775807 → (i : Int) < 4398046511104 → (∃ b off, Scr W a0 i o b off) → Kr num W wr X Y st bb ib tb t →
    Next10 num W (.slice a0 len cap) (.pointer (some ⟨bb, 0, none⟩)) v X Y bb ib tb i Q →
    Code.wp Tryz.prog ((Tryz.f10.body.bind firstLoop).getD .skip) Q ⟨fr10 (.slice a0 len cap) (.pointer (some ⟨bb, 0, none⟩)) v (.pointer (some ⟨X.xb, 0, none⟩)) (.pointer (some ⟨Y.xb, 0, none⟩)) (.int .i64 i) u, []⟩ wr
theorem O8.new (w : World) (kd oa ob oc : Int) (os ot : ByteArray) : O8 (w.alloc (.cells #[.int .i64 kd, .int .i64 oa, .int .i64 ob, .int .i64 oc, .string os, .string ot] 30)) w.heap.size ⟨kd, oa, ob, oc, os, ot⟩ := by
  have hb8 := blk_alloc w #[.int .i64 kd, .int .i64 oa, .int .i64 ob, .int .i64 oc, .string os, .string ot] 30
  exact ⟨hb8.cell (i := 0) (by simp), hb8.cell (i := 1) (by simp), hb8.cell (i := 2) (by simp), hb8.cell (i := 3) (by simp), hb8.cell (i := 4) (by simp), hb8.cell (i := 5) (by simp)⟩
theorem O8.fz (w : World) (kd oa ob oc : Int) (os ot : ByteArray) : ∀ j, j < 6 → (w.alloc (.cells #[.int .i64 kd, .int .i64 oa, .int .i64 ob, .int .i64 oc, .string os, .string ot] 30)).frozen? ⟨w.heap.size, j, none⟩ = false := fun j hj =>
  (blk_alloc w #[.int .i64 kd, .int .i64 oa, .int .i64 ob, .int .i64 oc, .string os, .string ot] 30).fz (i := j) (by simpa using hj)
theorem O8.setS {w : World} {n : Nat} {o : Op6} (h : O8 w n o) (s : ByteArray) : O8 (w.setCell ⟨n, 4, none⟩ (.string s)) n { o with s := s } := by
  have hB : ∀ j, j ≠ 4 → (w.setCell ⟨n, 4, none⟩ (.string s)).cell? ⟨n, j, none⟩ = w.cell? ⟨n, j, none⟩ := fun j hj => World.cell?_setCell_other _ _ _ _ (by intro e; injection e; omega)
  refine ⟨by rw [hB 0 (by decide)]; exact h.c0, by rw [hB 1 (by decide)]; exact h.c1, by rw [hB 2 (by decide)]; exact h.c2, by rw [hB 3 (by decide)]; exact h.c3, ?_, by rw [hB 5 (by decide)]; exact h.c5⟩
  exact World.cell?_setCell_same _ _ _ h.c4
end Go.Proofs.Qxb6500275aGreatDoor
