import Derived.Test.Qxb6500275aGreatDoorWr4
import Derived.Deep.Light
set_option maxRecDepth 100000
set_option linter.unusedVariables false
set_option linter.unusedSimpArgs false
set_option linter.unusedSectionVars false
namespace Go.Proofs.Qxb6500275aGreatDoor
open Go Go.RowKit
variable [Inhabited TV]
section
variable {w : World} {b : Nat} {s : ByteArray} {p e bb ib tb : Nat} {ty : List Int} {opn : List Nat} {ins : List Ins} {tabs : List Int}
set_option maxHeartbeats 8000000 in
theorem rest_blk (h : Rd w b s p e bb) (hB : Bn w bb ib tb ty opn ins tabs) (hne : b ≠ bb ∧ b ≠ ib ∧ b ≠ tb) (op : Nat) (ho : isBlk op) (at_ : Nat) :
    Calls Tryz.prog 180 #[.pointer (some ⟨b, 0, none⟩), .int .u8 op, .int .i64 at_] w (QP (blkS s p e op tabs) b s e bb ib tb ty opn ins w) := by
  have HR : Hid _ := h
  have HB : Hid _ := hB
  have hbl : b < w.heap.size := lt_of_cell h.c0
  have hle := h.le
  have hes := h.es
  have hsz := h.sz
  have HL : Hid _ := hB.lts
  clear h hB
  have hbA := bAt_lt s p
  have HQ : Hid _ := ho
  clear ho
  by_cases hp : p < e
  · by_cases h64 : bAt s p = 64
    · have e64 : ((bAt s p : Int) != 64) = false := by rw [h64]; rfl
      have H64 : Hid _ := h64
      clear h64
      rcases HQ.out with rfl | rfl | rfl
      all_goals
        go_enter Tryz.func180, Tryz.ntmps180
        obtain ⟨c0, c1, c2, c3, f1, f2, _, _, _⟩ := id HR.out
        go_wp2_with (go_at_call 63; refine (next_ok (by exact HR.out.keep (S := fun _ => False) (((Kp.refl _ w).alloc _).alloc _) (fun h => h)) hp).mono ?_; rintro en w2 ⟨rfl, hR2, hK⟩; obtain ⟨g1, g2, g3, g4⟩ := two_new hK hbl)
        go_light
        exact rest_close (i := ⟨_, bAt s p, 0⟩) rfl rfl (by unfold blkS; rw [if_pos hp, if_pos (.inl H64.out)]) ⟨hbl, HL.out.1, HL.out.2.1, HL.out.2.2⟩ (old_S hK) hR2 (HB.out.newer hne hK) ((Kp.refl _ w2).setCell (.inl (Nat.le_succ _)) _) (fun j hj => (some_set _ _ _ _ (three_some g1 rfl j hj)))
    · have e64 : ((bAt s p : Int) != 64) = true := by rw [bne_iff_ne]; omega
      by_cases hc : 124 ≤ bAt s p ∧ bAt s p ≤ 127
      · rcases HQ.out with rfl | rfl | rfl
        all_goals
          go_enter Tryz.func180, Tryz.ntmps180
          obtain ⟨c0, c1, c2, c3, f1, f2, _, _, _⟩ := id HR.out
          go_wp2_with (go_at_call 63; refine (next_ok (by exact HR.out.keep (S := fun _ => False) (((Kp.refl _ w).alloc _).alloc _) (fun h => h)) hp).mono ?_; rintro en w2 ⟨rfl, hR2, hK⟩; obtain ⟨g1, g2, g3, g4⟩ := two_new hK hbl)
          go_light
          exact rest_close (i := ⟨_, bAt s p, 0⟩) rfl rfl (by unfold blkS; rw [if_pos hp, if_pos (.inr hc)]) ⟨hbl, HL.out.1, HL.out.2.1, HL.out.2.2⟩ (old_S hK) hR2 (HB.out.newer hne hK) ((Kp.refl _ w2).setCell (.inl (Nat.le_succ _)) _) (fun j hj => (some_set _ _ _ _ (three_some g1 rfl j hj)))
      · rcases HQ.out with rfl | rfl | rfl
        all_goals
          go_enter Tryz.func180, Tryz.ntmps180
          obtain ⟨c0, c1, c2, c3, f1, f2, _, _, _⟩ := id HR.out
          go_wp2_with (go_at_call 63; refine (next_ok (by exact HR.out.keep (S := fun _ => False) (((Kp.refl _ w).alloc _).alloc _) (fun h => h)) hp).mono ?_; rintro en w2 ⟨rfl, hR2, hK⟩; obtain ⟨g1, g2, g3, g4⟩ := two_new hK hbl)
          all_goals
            go_light
            exact ⟨rfl, QP.mkErr (c := 9) (a := p) (by unfold blkS; rw [if_pos hp, if_neg (by omega)]) (old_S hK) rfl (HB.out.newer hne hK)⟩
  · rcases HQ.out with rfl | rfl | rfl
    all_goals
      go_enter Tryz.func180, Tryz.ntmps180
      obtain ⟨c0, c1, c2, c3, f1, f2, _, _, _⟩ := id HR.out
      go_wp2_with (go_at_call 63; refine (next_err (by exact HR.out.keep (S := fun _ => False) (((Kp.refl _ w).alloc _).alloc _) (fun h => h)) hp).mono ?_; rintro en w2 ⟨rfl, hK⟩)
      go_light
      exact ⟨rfl, QP.mkErr (c := 3) (a := e) (by unfold blkS; rw [if_neg hp]) (old_S hK) rfl (HB.out.newer hne hK)⟩
end
end Go.Proofs.Qxb6500275aGreatDoor
