import Derived.Test.Qxb6500275aGreatDoorWr4
import Derived.Deep.Light
set_option maxRecDepth 100000
set_option linter.unusedVariables false
set_option linter.unusedSimpArgs false
set_option linter.unusedSectionVars false
namespace Go.Proofs.Qxb6500275aGreatDoor
open Go Go.RowKit
variable [Inhabited TV]
section
variable {w : World} {b : Nat} {s : ByteArray} {p e bb ib tb : Nat} {ty : List Int} {opn : List Nat} {ins : List Ins} {tabs : List Int}
set_option maxHeartbeats 8000000 in
theorem rest_zero (h : Rd w b s p e bb) (hB : Bn w bb ib tb ty opn ins tabs) (hne : b ≠ bb ∧ b ≠ ib ∧ b ≠ tb) (op : Nat) (ho : op = 63 ∨ op = 64) (at_ : Nat) :
    Calls Tryz.prog 180 #[.pointer (some ⟨b, 0, none⟩), .int .u8 op, .int .i64 at_] w (QP (zeroS s p e op tabs) b s e bb ib tb ty opn ins w) := by
  have HR : Hid _ := h
  have HB : Hid _ := hB
  have hbl : b < w.heap.size := lt_of_cell h.c0
  have hle := h.le
  have hes := h.es
  have hsz := h.sz
  have HL : Hid _ := hB.lts
  clear h hB
  cases hf : fixedS s p e 0 with
  | error f =>
    obtain ⟨c, a⟩ := f
    have HF : Hid _ := hf
    clear hf
    rcases ho with rfl | rfl
    all_goals
      go_enter Tryz.func180, Tryz.ntmps180
      go_wp2_with (go_at_call 110; refine (fixed_calls (by exact HR.out.keep (S := fun _ => False) (((Kp.refl _ w).alloc _).alloc _) (fun h => h)) 0 (by omega)).mono ?_; rintro en w2 hP; obtain ⟨hK, rfl⟩ := hP.err HF.out)
      go_light
      exact ⟨rfl, QP.mkErr (c := c) (a := a) (by unfold zeroS; rw [HF.out]) (old_S hK) rfl (HB.out.newer hne hK)⟩
  | ok y =>
    obtain ⟨y, r⟩ := y
    have HF : Hid _ := hf
    clear hf
    rcases ho with rfl | rfl
    all_goals
      go_enter Tryz.func180, Tryz.ntmps180
      go_wp2_with (go_at_call 110; refine (fixed_calls (by exact HR.out.keep (S := fun _ => False) (((Kp.refl _ w).alloc _).alloc _) (fun h => h)) 0 (by omega)).mono ?_; rintro en w2 hP; obtain ⟨hK, rfl, hR2⟩ := hP.ok HF.out; unfold encN; obtain ⟨g1, g2, g3, g4⟩ := two_new hK hbl)
      go_light
      exact rest_close (i := ⟨_, 0, 0⟩) rfl rfl (by unfold zeroS; rw [HF.out]) ⟨hbl, HL.out.1, HL.out.2.1, HL.out.2.2⟩ (old_S hK) hR2 (HB.out.newer hne hK) (Kp.refl _ w2) (fun j hj => (three_some g1 rfl j hj))
set_option maxHeartbeats 8000000 in
theorem rest_bad (h : Rd w b s p e bb) (hB : Bn w bb ib tb ty opn ins tabs) (hne : b ≠ bb ∧ b ≠ ib ∧ b ≠ tb) (op : Nat) (ho : (6 ≤ op ∧ op ≤ 10) ∨ (18 ≤ op ∧ op ≤ 25) ∨ (28 ≤ op ∧ op ≤ 31) ∨ (37 ≤ op ∧ op ≤ 39) ∨ (192 ≤ op ∧ op ≤ 255)) (at_ : Nat) :
    Calls Tryz.prog 180 #[.pointer (some ⟨b, 0, none⟩), .int .u8 op, .int .i64 at_] w (QP (.error (10, at_)) b s e bb ib tb ty opn ins w) := by
  have HR : Hid _ := h
  have HB : Hid _ := hB
  have hbl : b < w.heap.size := lt_of_cell h.c0
  have hle := h.le
  have hes := h.es
  have hsz := h.sz
  have HL : Hid _ := hB.lts
  clear h hB
  rcases ho with ho | ho | ho | ho | ho
  all_goals
    go_enter Tryz.func180, Tryz.ntmps180
    go_wp2
    all_goals
      go_light
      exact ⟨rfl, QP.mkErr (c := 10) (a := at_) rfl (((Kp.refl _ w).alloc _).alloc _) rfl (HB.out.keep (S := fun _ => False) (((Kp.refl _ w).alloc _).alloc _) (fun h => h) (fun h => h) (fun h => h))⟩
end
end Go.Proofs.Qxb6500275aGreatDoor
