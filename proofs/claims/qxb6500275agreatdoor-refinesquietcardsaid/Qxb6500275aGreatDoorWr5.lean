import Derived.Test.Qxb6500275aGreatDoorWr4
import Derived.Deep.Light
set_option maxRecDepth 100000
set_option linter.unusedVariables false
set_option linter.unusedSimpArgs false
set_option linter.unusedSectionVars false
namespace Go.Proofs.Qxb6500275aGreatDoor
open Go Go.RowKit
variable [Inhabited TV]
section
variable {w : World} {b : Nat} {s : ByteArray} {p e bb ib tb : Nat} {ty : List Int} {opn : List Nat} {ins : List Ins} {tabs : List Int}
set_option maxHeartbeats 8000000 in
theorem rest_idx (h : Rd w b s p e bb) (hB : Bn w bb ib tb ty opn ins tabs) (hne : b ≠ bb ∧ b ≠ ib ∧ b ≠ tb) (op : Nat) (ho : isIdx op) (at_ : Nat) :
    Calls Tryz.prog 180 #[.pointer (some ⟨b, 0, none⟩), .int .u8 op, .int .i64 at_] w (QP (idxS s p e op tabs) b s e bb ib tb ty opn ins w) := by
  have HR : Hid _ := h
  have HB : Hid _ := hB
  have hbl : b < w.heap.size := lt_of_cell h.c0
  have hle := h.le
  have hes := h.es
  have hsz := h.sz
  have HL : Hid _ := hB.lts
  clear h hB
  cases hu : u32S s p e with
  | error f =>
    obtain ⟨c, a⟩ := f
    have HU : Hid _ := hu
    clear hu
    rcases ho with rfl | rfl | rfl | rfl | rfl | rfl | rfl | rfl
    all_goals
      go_enter Tryz.func180, Tryz.ntmps180
      go_wp2_with (go_at_call 113; refine (u32_calls (by exact HR.out.keep (S := fun _ => False) (((Kp.refl _ w).alloc _).alloc _) (fun h => h))).mono ?_; rintro en w2 hP; obtain ⟨hK, rfl⟩ := hP.err HU.out)
      go_light
      exact ⟨rfl, QP.mkErr (c := c) (a := a) (by unfold idxS; rw [HU.out]) (old_S hK) rfl (HB.out.newer hne hK)⟩
  | ok x =>
    obtain ⟨x, q⟩ := x
    have HU : Hid _ := hu
    clear hu
    rcases ho with rfl | rfl | rfl | rfl | rfl | rfl | rfl | rfl
    all_goals
      go_enter Tryz.func180, Tryz.ntmps180
      go_wp2_with (go_at_call 113; refine (u32_calls (by exact HR.out.keep (S := fun _ => False) (((Kp.refl _ w).alloc _).alloc _) (fun h => h))).mono ?_; rintro en w2 hP; obtain ⟨hK, rfl, hR2⟩ := hP.ok HU.out; unfold encU; obtain ⟨g1, g2, g3, g4⟩ := two_new hK hbl)
      go_light
      exact rest_close (i := ⟨_, x, 0⟩) rfl rfl (by unfold idxS; rw [HU.out]) ⟨hbl, HL.out.1, HL.out.2.1, HL.out.2.2⟩ (old_S hK) hR2 (HB.out.newer hne hK) ((Kp.refl _ w2).setCell (.inl (Nat.le_succ _)) _) (fun j hj => (some_set _ _ _ _ (three_some g1 rfl j hj)))
end
end Go.Proofs.Qxb6500275aGreatDoor
