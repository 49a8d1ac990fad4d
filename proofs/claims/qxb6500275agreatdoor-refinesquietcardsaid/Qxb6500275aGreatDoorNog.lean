import Derived.Test.Qxb6500275aGreatDoorNof
import Derived.Test.Qxb6500275aGreatDoorMc1
set_option maxRecDepth 100000
set_option linter.unusedVariables false
set_option linter.unusedSimpArgs false
namespace Go.Proofs.Qxb6500275aGreatDoor
open Go Go.RowKit
/- THE NUMERIC OPERATORS AS ONE FUNCTION: the real answers it (NumR), the model answers it -/
def numI : NumF := fun o x y => if 69 ≤ o ∧ o ≤ 191 ∧ (0 ≤ x ∧ x < 18446744073709551616) ∧ (0 ≤ y ∧ y < 18446744073709551616) then (((numP o x.toNat y.toNat).1 : Int), ((numP o x.toNat y.toNat).2 : Int)) else (0, 0)
theorem numI_nat {o : Nat} (h1 : 69 ≤ o) (h2 : o ≤ 191) {a b : Nat} (ha : a < 18446744073709551616) (hb : b < 18446744073709551616) : numI o (a : Int) (b : Int) = (((numP o a b).1 : Int), ((numP o a b).2 : Int)) := by
  unfold numI
  rw [if_pos ⟨h1, h2, by omega, by omega⟩, Int.toNat_natCast, Int.toNat_natCast]
theorem numI_r : NumR numI := by
  intro o x y h1 h2 hx hy w
  obtain ⟨a, rfl⟩ : ∃ a : Nat, x = (a : Int) := ⟨x.toNat, by omega⟩
  obtain ⟨b, rfl⟩ : ∃ b : Nat, y = (b : Int) := ⟨y.toNat, by omega⟩
  rw [numI_nat h1 h2 (by omega) (by omega)]
  exact applyR_all o h1 h2 a b (by omega) (by omega) w
theorem numI_ok (w : World) : NumOk numI := by
  refine ⟨fun o x y => ?_⟩
  by_cases h : 69 ≤ o ∧ o ≤ 191 ∧ (0 ≤ x ∧ x < 18446744073709551616) ∧ (0 ≤ y ∧ y < 18446744073709551616)
  · obtain ⟨b, e, hb, he, hc⟩ := apply_all (o : Int) x y (by omega) h.2.2.1 h.2.2.2
    have hr := calls_ret (numI_r o x y h.1 h.2.1 h.2.2.1 h.2.2.2 w) (hc w) (by kernel_rfl)
    injection hr with hr
    have h1 := congrArg (fun a => a[0]?) hr
    have h2 := congrArg (fun a => a[1]?) hr
    simp at h1 h2
    rw [h1, h2]
    exact ⟨hb, he⟩
  · unfold numI
    rw [if_neg h]
    exact ⟨by decide, .inl rfl⟩
/- numm.Apply -/
theorem numm_calls {o : Nat} {x y : Int} (h1 : 69 ≤ o) (h2 : o ≤ 191) (hx : 0 ≤ x ∧ x < 18446744073709551616) (hy : 0 ≤ y ∧ y < 18446744073709551616) (w : World) : Calls Tryz.prog 278 #[.int .i64 o, .int .u64 x, .int .u64 y] w (Pq w (.tuple #[.int .u64 (numI o x y).1, .int .i64 (numI o x y).2])) := by
  obtain ⟨a, rfl⟩ : ∃ a : Nat, x = (a : Int) := ⟨x.toNat, by omega⟩
  obtain ⟨b, rfl⟩ : ∃ b : Nat, y = (b : Int) := ⟨y.toNat, by omega⟩
  rw [numI_nat h1 h2 (by omega) (by omega)]
  exact applyM_all o h1 h2 a b (by omega) (by omega) w
end Go.Proofs.Qxb6500275aGreatDoor
