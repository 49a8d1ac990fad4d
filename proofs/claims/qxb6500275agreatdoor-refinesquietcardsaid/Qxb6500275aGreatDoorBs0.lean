import Derived.Test.Qxb6500275aGreatDoorMw2
import Derived.Test.Qxb6500275aGreatDoorBc1
import Derived.Test.Qxb6500275aGreatDoorBz1
import Derived.Deep.RegionLaw
set_option maxRecDepth 100000
set_option linter.unusedVariables false
set_option linter.unusedSimpArgs false
namespace Go.Proofs.Qxb6500275aGreatDoor
open Go Go.RowKit
/- amid a section: w the world ahead, w1 now; m, m1 the module -/
structure Ms1 (w w1 : World) (b mb : Nat) (m m1 : MT) : Prop where
  mw : Mw w1 mb m1
  ow : MwO w mb m m1
  ne : ¬ MwB mb m1 b
  kp : Kp (fun k => k = b ∨ MwB mb m k) w w1
  lt : b < w.heap.size
section
variable {w w1 w2 : World} {b mb : Nat} {m m1 m2 : MT}
theorem Ms1.start (h : Mw w mb m) (hne : ¬ MwB mb m b) (hb : b < w.heap.size) : Ms1 w w b mb m m := ⟨h, fun k hk => .inl hk, hne, Kp.refl _ _, hb⟩
theorem Ms1.cur (h : Ms1 w w1 b mb m m1) (hk : Kp (· = b) w1 w2) : Ms1 w w2 b mb m m1 :=
  ⟨h.mw.keep hk (fun k hk2 e => h.ne (by rw [← e]; exact hk2)), h.ow, h.ne, h.kp.trans (hk.mono (fun k e => .inl e)), h.lt⟩
theorem Ms1.new (h : Ms1 w w1 b mb m m1) (hk : Kp (fun _ => False) w1 w2) : Ms1 w w2 b mb m m1 := h.cur (hk.mono (fun _ h => h.elim))
theorem Ms1.step (h : Ms1 w w1 b mb m m1) (hm : Mw w2 mb m2) (hk : Kp (MwB mb m1) w1 w2) (ho : MwO w1 mb m1 m2) : Ms1 w w2 b mb m m2 := by
  refine ⟨hm, fun k hk2 => ?_, fun hb => ?_, h.kp.later hk (fun j hj => ?_), h.lt⟩
  · rcases ho k hk2 with h5 | h5
    · exact h.ow k h5
    · exact .inr (Nat.le_trans h.kp.size h5)
  · rcases ho b hb with h5 | h5
    · exact h.ne h5
    · have := h.lt; have := h.kp.size; omega
  · rcases h.ow j hj with h5 | h5
    · exact .inl (.inr h5)
    · exact .inr h5
end
theorem Mw.slTy {w : World} {mb : Nat} {m : MT} (h : Mw w mb m) : ∃ a c, m.vt = .slice a m.types.length c := by
  have hr : (⟨9, 1, m.vt, m.types.length, m.types.flatMap tyC⟩ : Row) ∈ m.rows := by unfold MT.rows MT.mains; simp
  exact OR.slice (h.rows.ok _ hr)
theorem Mw.slIm {w : World} {mb : Nat} {m : MT} (h : Mw w mb m) : ∃ a c, m.vi = .slice a m.imports.length c := by
  have hr : (⟨121, 3, m.vi, m.imports.length, m.imports.flatMap impC⟩ : Row) ∈ m.rows := by unfold MT.rows MT.mains; simp
  exact OR.slice (h.rows.ok _ hr)
theorem Mw.slFn {w : World} {mb : Nat} {m : MT} (h : Mw w mb m) : ∃ a c, m.vf = .slice a m.fs.length c := by
  have hr : (⟨124, 4, m.vf, m.fs.length, m.fs.flatMap fnC⟩ : Row) ∈ m.rows := by unfold MT.rows MT.mains; simp
  exact OR.slice (h.rows.ok _ hr)
theorem Mw.slGl {w : World} {mb : Nat} {m : MT} (h : Mw w mb m) : ∃ a c, m.vg = .slice a m.globals.length c := by
  have hr : (⟨131, 5, m.vg, m.globals.length, m.globals.flatMap globC⟩ : Row) ∈ m.rows := by unfold MT.rows MT.mains; simp
  exact OR.slice (h.rows.ok _ hr)
theorem Mw.slEx {w : World} {mb : Nat} {m : MT} (h : Mw w mb m) : ∃ a c, m.vx = .slice a m.exports.length c := by
  have hr : (⟨134, 3, m.vx, m.exports.length, m.exports.flatMap expC⟩ : Row) ∈ m.rows := by unfold MT.rows MT.mains; simp
  exact OR.slice (h.rows.ok _ hr)
theorem Mw.slEl {w : World} {mb : Nat} {m : MT} (h : Mw w mb m) : ∃ a c, m.ve = .slice a m.es.length c := by
  have hr : (⟨136, 4, m.ve, m.es.length, m.es.flatMap elmC⟩ : Row) ∈ m.rows := by unfold MT.rows MT.mains; simp
  exact OR.slice (h.rows.ok _ hr)
theorem Mw.slDa {w : World} {mb : Nat} {m : MT} (h : Mw w mb m) : ∃ a c, m.vd = .slice a m.datas.length c := by
  have hr : (⟨138, 4, m.vd, m.datas.length, m.datas.flatMap datC⟩ : Row) ∈ m.rows := by unfold MT.rows MT.mains; simp
  exact OR.slice (h.rows.ok _ hr)
/- how a section ends -/
def Scq (o : R Mod) (b : Nat) (s : ByteArray) (e : Nat) (er : Int) (a mb : Nat) (m : MT) (w : World) (en : Ending) (w' : World) : Prop :=
  ∃ m' q er' a', en = .returned (.tuple #[]) ∧ Rc w' b s q e er' a' ∧ Ms1 w w' b mb m m' ∧ Hid (Cu o er a m'.mod q er' a')
theorem flagS_b (s : ByteArray) (p e mx : Nat) : flagS s p e mx = bindQ (nextS s p e) (fun x => if mx < x.1 then .error (8, p) else .ok (x.1, x.2)) := by
  unfold flagS nextS bindQ
  by_cases h : p < e
  · rw [if_pos h, if_pos h]
  · rw [if_neg h, if_neg h]
theorem rowsL_b {α : Type} (row : Nat → R α) (n q : Nat) (l : List α) : rowsL row (n + 1) q l = bindQ (row q) fun x => rowsL row n x.2 (l ++ [x.1]) := by rw [rowsL, bindR_Q]
theorem Cu.row {α : Type} {row : Nat → R α} {n q1 q2 a1 a2 a3 q3 : Nat} {l : List α} {x : α} {er1 er2 er3 : Int} {l3 : List α} (hn : 0 < n) (h : Cu (row q1) er1 a1 x q2 er2 a2) (h2 : Cu (rowsL row (n - 1) q2 (l ++ [x])) er2 a2 l3 q3 er3 a3) : Cu (rowsL row n q1 l) er1 a1 l3 q3 er3 a3 := by
  obtain ⟨k, rfl⟩ : ∃ k, n = k + 1 := ⟨n - 1, by omega⟩
  rw [rowsL_b]
  exact h.trans h2
theorem pickQ_nil {α : Type} (l : List α) : pick l [] = l := by
  unfold pick
  by_cases h : l.length = 0
  · rw [if_pos h, List.eq_nil_of_length_eq_zero h]
  · rw [if_neg h]
theorem Cu.map {α β : Type} {o : R α} {er er' : Int} {a a' q : Nat} {v : α} (f : α → β) (h : Cu o er a v q er' a') : Cu (bindQ o fun x => .ok (f x.1, x.2)) er a (f v) q er' a' := h.trans (Cu.pure _ _)
def scQ (o : RM) : R Mod := bindQ o fun x => .ok (x.1, x.2.2)
end Go.Proofs.Qxb6500275aGreatDoor
