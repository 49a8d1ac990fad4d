import Derived.Test.Qxb6500275aGreatDoorKv2
import Derived.Test.Qxb6500275aGreatDoorVb2
import Derived.Test.Qxb6500275aGreatDoorCtl
set_option maxRecDepth 100000
set_option linter.unusedVariables false
set_option linter.unusedSimpArgs false
namespace Go.Proofs.Qxb6500275aGreatDoor
open Go Go.RowKit
structure Kl (num : NumF) (W w : World) (X Y Z : Mx) (st stz : Ma) (lev : Bool) : Prop where
  t : Tri num (fun _ => False) W w X Y Z st st stz
  l : lev = true → stz = st
structure O8 (w : World) (n : Nat) (o : Op6) : Prop where
  c0 : w.cell? ⟨n, 0, none⟩ = some (.int .i64 o.kind)
  c1 : w.cell? ⟨n, 1, none⟩ = some (.int .i64 o.a)
  c2 : w.cell? ⟨n, 2, none⟩ = some (.int .i64 o.b)
  c3 : w.cell? ⟨n, 3, none⟩ = some (.int .i64 o.c)
  c4 : w.cell? ⟨n, 4, none⟩ = some (.string o.s)
  c5 : w.cell? ⟨n, 5, none⟩ = some (.string o.t)
theorem O8.keep {w w' : World} {n : Nat} {o : Op6} {P : Nat → Prop} (h : O8 w n o) (hk : Kp P w w') (hn : ¬ P n) : O8 w' n o := by
  have hl : n < w.heap.size := lt_of_cell h.c0
  have e : ∀ j, w'.cell? ⟨n, j, none⟩ = w.cell? ⟨n, j, none⟩ := fun j => hk.cell (p := ⟨n, j, none⟩) hl hn
  exact ⟨by rw [e]; exact h.c0, by rw [e]; exact h.c1, by rw [e]; exact h.c2, by rw [e]; exact h.c3, by rw [e]; exact h.c4, by rw [e]; exact h.c5⟩
structure A4 (w : World) (n : Nat) (a : An4) : Prop where
  c0 : w.cell? ⟨n, 0, none⟩ = some (.int .i64 a.e)
  c1 : w.cell? ⟨n, 1, none⟩ = some (.int .i64 a.n)
  c2 : w.cell? ⟨n, 2, none⟩ = some (.int .i64 a.m)
  c3 : w.cell? ⟨n, 3, none⟩ = some (.string a.s)
theorem A4.keep {w w' : World} {n : Nat} {a : An4} {P : Nat → Prop} (h : A4 w n a) (hk : Kp P w w') (hn : ¬ P n) : A4 w' n a := by
  have hl : n < w.heap.size := lt_of_cell h.c0
  have e : ∀ j, w'.cell? ⟨n, j, none⟩ = w.cell? ⟨n, j, none⟩ := fun j => hk.cell (p := ⟨n, j, none⟩) hl hn
  exact ⟨by rw [e]; exact h.c0, by rw [e]; exact h.c1, by rw [e]; exact h.c2, by rw [e]; exact h.c3⟩
theorem A4.new (w : World) (e n m : Int) (s : ByteArray) : A4 (w.alloc (.cells #[.int .i64 e, .int .i64 n, .int .i64 m, .string s] 39)) w.heap.size ⟨e, n, m, s⟩ := by
  have h := blk_alloc w #[.int .i64 e, .int .i64 n, .int .i64 m, .string s] 39
  exact ⟨h.cell (i := 0) (by simp), h.cell (i := 1) (by simp), h.cell (i := 2) (by simp), h.cell (i := 3) (by simp)⟩
theorem eq39s (a : An4) (w : World) : (Op.equalIn 10000 39 a.val a.val).run Tryz.prog w = .ok true w := by
  rw [eq39]
  simp
theorem showM_size (st : Ma) : 0 < (showM st).size := by
  unfold showM
  rw [ByteArray.size_append, ByteArray.size_append]
  have : (⟨#[32]⟩ : ByteArray).size = 1 := rfl
  omega
theorem showM_dash (st : Ma) (h : st.m = none) : bAt (showM st) 0 = 45 := by
  have hs := showM_size st
  have e : showM st = (⟨#[45]⟩ ++ ⟨#[32]⟩) ++ showH st.H := by unfold showM; rw [h]; rfl
  rw [e] at hs ⊢
  rw [← bAt_get _ _ hs, ByteArray.getElem_append_left (by rw [ByteArray.size_append]; decide), ByteArray.getElem_append_left (by decide)]
  rfl
def fr9 (k0 x y z lv ii : Value) (u : Nat → Value) : Array Value := #[k0, u 1, u 2, x, y, z, lv, ii, u 8, u 9, u 10, u 11, u 12, u 13, u 14, u 15, u 16, u 17, u 18, u 19, u 20, u 21, u 22, u 23, u 24, u 25, u 26, u 27, u 28, u 29, u 30, u 31, u 32, u 33, u 34, u 35, u 36, u 37, u 38, u 39, u 40, u 41, u 42, u 43, u 44, u 45, u 46, u 47, u 48, u 49, u 50, u 51, u 52, u 53, u 54, u 55, u 56, u 57, u 58, u 59, u 60, u 61, u 62, u 63, u 64, u 65, u 66, u 67, u 68, u 69, u 70, u 71, u 72, u 73, u 74, u 75, u 76, u 77, u 78, u 79, u 80, u 81, u 82, u 83, u 84, u 85, u 86, u 87, u 88, u 89, u 90, u 91, u 92, u 93, u 94, u 95, u 96, u 97, u 98, u 99, u 100, u 101, u 102, u 103, u 104, u 105, u 106, u 107, u 108, u 109, u 110, u 111, u 112, u 113, u 114, u 115, u 116, u 117, u 118, u 119, u 120, u 121, u 122, u 123, u 124, u 125, u 126, u 127, u 128, u 129, u 130, u 131, u 132, u 133, u 134, u 135, u 136, u 137, u 138, u 139, u 140, u 141, u 142, u 143, u 144, u 145, u 146, u 147, u 148, u 149, u 150, u 151, u 152, u 153, u 154, u 155, u 156, u 157, u 158, u 159, u 160, u 161, u 162, u 163, u 164, u 165, u 166, u 167, u 168, u 169, u 170, u 171, u 172, u 173, u 174, u 175, u 176, u 177, u 178, u 179, u 180, u 181, u 182, u 183]
/- how a round goes on -/
def Next9 (num : NumF) (W : World) (k0 : Value) (X Y Z : Mx) (i : Nat) (Q : Exit → Act → World → Prop) : Prop :=
  ∀ tmps w' lev' st' stz', tmps = fr9 k0 (.pointer (some ⟨X.xb, 0, none⟩)) (.pointer (some ⟨Y.xb, 0, none⟩)) (.pointer (some ⟨Z.xb, 0, none⟩)) (.bool lev') (.int .i64 ((i : Int) + 1)) (fun j => tmps.getD j undef) → Kl num W w' X Y Z st' stz' lev' → Q .normal ⟨tmps, []⟩ w'
/- ONE ROUND of KeepsUpTo, amid the script -/
def Case9 (num : NumF) (W : World) (a0 : Option Addr) (len cap : Nat) (X Y Z : Mx) (i : Nat) (o : Op6) : Prop :=
  ∀ (wr : World) (u : Nat → Value) (lev : Bool) (st stz : Ma) (Q : Exit → Act → World → Prop), NumR num → NumOk num → Kn W → 0 < W.heap.size → i < len → len ≤ 9223372036854775807 → (i : Int) < 4398046511104 → (∃ b off, Scr W a0 i o b off) → Kl num W wr X Y Z st stz lev →
    Next9 num W (.slice a0 len cap) X Y Z i Q →
    Code.wp Tryz.prog ((Tryz.f9.body.bind firstLoop).getD .skip) Q ⟨fr9 (.slice a0 len cap) (.pointer (some ⟨X.xb, 0, none⟩)) (.pointer (some ⟨Y.xb, 0, none⟩)) (.pointer (some ⟨Z.xb, 0, none⟩)) (.bool lev) (.int .i64 i) u, []⟩ wr
end Go.Proofs.Qxb6500275aGreatDoor
