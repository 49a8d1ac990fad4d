import Derived.Test.Qxb6500275aGreatDoorWr8
import Derived.Deep.Light
set_option maxRecDepth 100000
set_option linter.unusedVariables false
set_option linter.unusedSimpArgs false
set_option linter.unusedSectionVars false
namespace Go.Proofs.Qxb6500275aGreatDoor
open Go Go.RowKit
variable [Inhabited TV]
section
variable {w : World} {b : Nat} {s : ByteArray} {p e bb ib tb : Nat} {ty : List Int} {opn : List Nat} {ins : List Ins} {tabs : List Int}
set_option maxHeartbeats 8000000 in
theorem rest_ldst (h : Rd w b s p e bb) (hB : Bn w bb ib tb ty opn ins tabs) (hne : b ≠ bb ∧ b ≠ ib ∧ b ≠ tb) (op : Nat) (ho : 40 ≤ op ∧ op ≤ 62) (at_ : Nat) :
    Calls Tryz.prog 180 #[.pointer (some ⟨b, 0, none⟩), .int .u8 op, .int .i64 at_] w (QP (ldstS s p e op tabs) b s e bb ib tb ty opn ins w) := by
  have HR : Hid _ := h
  have HB : Hid _ := hB
  have hbl : b < w.heap.size := lt_of_cell h.c0
  have hle := h.le
  have hes := h.es
  have hsz := h.sz
  have HL : Hid _ := hB.lts
  clear h hB
  cases hu : u32S s p e with
  | error f =>
    obtain ⟨c, a⟩ := f
    have HU : Hid _ := hu
    clear hu
    go_enter Tryz.func180, Tryz.ntmps180
    go_wp2_with (go_at_call 113; refine (u32_calls (by exact HR.out.keep (S := fun _ => False) (((Kp.refl _ w).alloc _).alloc _) (fun h => h))).mono ?_; rintro en w2 hP; obtain ⟨hK, rfl⟩ := hP.err HU.out)
    go_light
    exact ⟨rfl, QP.mkErr (c := c) (a := a) (by unfold ldstS; rw [HU.out]) (old_S hK) rfl (HB.out.newer hne hK)⟩
  | ok x =>
    obtain ⟨x, q⟩ := x
    have HU : Hid _ := hu
    clear hu
    go_enter Tryz.func180, Tryz.ntmps180
    go_wp2_with fail
    refine (u32_calls (by exact HR.out.keep (S := fun _ => False) (((Kp.refl _ w).alloc _).alloc _) (fun h => h))).mono ?_
    rintro en w2 hP
    obtain ⟨hK, rfl, hR2⟩ := hP.ok HU.out
    unfold encU
    obtain ⟨g1, g2, g3, g4⟩ := two_new hK hbl
    go_wp2_with fail
    have hKW := (Kp.refl (fun k => w.heap.size ≤ k) w2).setCell (p := ⟨w.heap.size + 1, 1, none⟩) (.inl (Nat.le_succ _)) (.int .u32 x)
    cases hu2 : u32S s q e with
    | error f =>
      obtain ⟨c, a⟩ := f
      have HU2 : Hid _ := hu2
      have HKW : Hid _ := hKW
      clear hu2 hKW
      refine (u32_calls (by exact hR2.keep HKW.out (by omega))).mono ?_
      rintro en w3 hP3
      obtain ⟨hK3, rfl⟩ := hP3.err HU2.out
      go_wp2
      go_light
      exact ⟨rfl, QP.mkErr (c := c) (a := a) (by unfold ldstS; rw [HU.out]; dsimp only; rw [HU2.out]) (kp_new (old_S hK) HKW.out hK3) rfl (((HB.out.newer hne hK).keep HKW.out (by have := HL.out; omega) (by have := HL.out; omega) (by have := HL.out; omega)).keep hK3 (fun h => hne.1 h.symm) (fun h => hne.2.1 h.symm) (fun h => hne.2.2 h.symm))⟩
    | ok y =>
      obtain ⟨y, r⟩ := y
      have hy := (u32S_ok hu2).1
      have HU2 : Hid _ := hu2
      have HKW : Hid _ := hKW
      clear hu2 hKW
      refine (u32_calls (by exact hR2.keep HKW.out (by omega))).mono ?_
      rintro en w3 hP3
      obtain ⟨hK3, rfl, hR3⟩ := hP3.ok HU2.out
      unfold encU
      obtain ⟨g5, g6, g7, g8, g9, g10⟩ := after_set hK hK3 g1 g2 g3 g4 hbl
      clear g1 g2 g3 g4
      go_wp2
      go_light
      exact rest_close (i := ⟨_, x, y⟩) rfl rfl (by unfold ldstS; rw [HU.out]; dsimp only; rw [HU2.out]) ⟨hbl, HL.out.1, HL.out.2.1, HL.out.2.2⟩ (kp_new (old_S hK) HKW.out hK3) hR3 (((HB.out.newer hne hK).keep HKW.out (by have := HL.out; omega) (by have := HL.out; omega) (by have := HL.out; omega)).keep hK3 (fun h => hne.1 h.symm) (fun h => hne.2.1 h.symm) (fun h => hne.2.2 h.symm)) ((Kp.refl _ w3).setCell (.inl (Nat.le_succ _)) _) (fun j hj => some_set _ _ _ _ (three_some g5 rfl j hj))
end
end Go.Proofs.Qxb6500275aGreatDoor
