import Derived.Test.Qxb6500275aGreatDoorWr4
import Derived.Deep.Light
set_option maxRecDepth 100000
set_option linter.unusedVariables false
set_option linter.unusedSimpArgs false
set_option linter.unusedSectionVars false
namespace Go.Proofs.Qxb6500275aGreatDoor
open Go Go.RowKit
variable [Inhabited TV]
section
variable {w : World} {b : Nat} {s : ByteArray} {p e bb ib tb : Nat} {ty : List Int} {opn : List Nat} {ins : List Ins} {tabs : List Int}
/- a store into a new block, then a reader's method -/
theorem kp_new {w2 W w3 : World} (h1 : Kp (fun k => k = b ∨ k = bb ∨ k = tb) w w2) (h2 : Kp (fun k => w.heap.size ≤ k) w2 W) (h3 : Kp (· = b) W w3) : Kp (fun k => k = b ∨ k = bb ∨ k = tb) w w3 := by
  refine ⟨h3.os.trans (h2.os.trans h1.os), h3.tape.trans (h2.tape.trans h1.tape), h3.output.trans (h2.output.trans h1.output), Nat.le_trans h1.size (Nat.le_trans h2.size h3.size), fun k hk hs => ?_⟩
  rw [h3.block k (Nat.lt_of_lt_of_le hk (Nat.le_trans h1.size h2.size)) (fun e => hs (.inl e)), h2.block k (Nat.lt_of_lt_of_le hk h1.size) (by omega)]
  exact h1.block k hk hs
theorem after_set {w2 w3 : World} {A B : Array Value} {t u : TypeId} {v : Value} (hK : Kp (· = b) ((w.alloc (.cells A t)).alloc (.cells B u)) w2) (hK3 : Kp (· = b) (w2.setCell ⟨w.heap.size + 1, 1, none⟩ v) w3) (g1 : ∀ i, w2.cell? ⟨w.heap.size, i, none⟩ = A[i]?) (g2 : ∀ i, w2.frozen? ⟨w.heap.size, i, none⟩ = false)
    (g3 : ∀ i, w2.cell? ⟨w.heap.size + 1, i, none⟩ = B[i]?) (g4 : ∀ i, w2.frozen? ⟨w.heap.size + 1, i, none⟩ = false) (hb : b < w.heap.size) (hB1 : B[1]?.isSome = true := by rfl) :
    (∀ i, w3.cell? ⟨w.heap.size, i, none⟩ = A[i]?) ∧ (∀ i, w3.frozen? ⟨w.heap.size, i, none⟩ = false) ∧ w3.cell? ⟨w.heap.size + 1, 0, none⟩ = B[0]? ∧ w3.cell? ⟨w.heap.size + 1, 1, none⟩ = some v ∧ w3.cell? ⟨w.heap.size + 1, 2, none⟩ = B[2]? ∧ (∀ i, w3.frozen? ⟨w.heap.size + 1, i, none⟩ = false) := by
  have hsz : w.heap.size + 2 ≤ w2.heap.size := by have := hK.size; simp at this; omega
  have hs2 : w2.heap.size ≤ (w2.setCell ⟨w.heap.size + 1, 1, none⟩ v).heap.size := ((Kp.refl (fun _ => True) w2).setCell (p := ⟨w.heap.size + 1, 1, none⟩) (.inl trivial) v).size
  have hi : (w2.cell? ⟨w.heap.size + 1, 1, none⟩).isSome = true := by rw [g3]; exact hB1
  have e : ∀ m o, b < m → m < w2.heap.size → w3.cell? ⟨m, o, none⟩ = (w2.setCell ⟨w.heap.size + 1, 1, none⟩ v).cell? ⟨m, o, none⟩ := fun m o h1 h2 => hK3.cell (p := ⟨m, o, none⟩) (Nat.lt_of_lt_of_le h2 hs2) (by simp; omega)
  have ef : ∀ m o, b < m → m < w2.heap.size → w3.frozen? ⟨m, o, none⟩ = w2.frozen? ⟨m, o, none⟩ := fun m o h1 h2 => by rw [hK3.frozen (p := ⟨m, o, none⟩) (Nat.lt_of_lt_of_le h2 hs2) (by simp; omega), World.frozen?_setCell]
  refine ⟨fun i => ?_, fun i => ?_, ?_, ?_, ?_, fun i => ?_⟩
  · rw [e _ _ (by omega) (by omega), cell_set _ _ _ _ hi, if_neg (by simp)]; exact g1 i
  · rw [ef _ _ (by omega) (by omega)]; exact g2 i
  · rw [e _ _ (by omega) (by omega), cell_set _ _ _ _ hi, if_neg (by simp)]; exact g3 0
  · rw [e _ _ (by omega) (by omega), cell_set _ _ _ _ hi, if_pos rfl]
  · rw [e _ _ (by omega) (by omega), cell_set _ _ _ _ hi, if_neg (by simp)]; exact g3 2
  · rw [ef _ _ (by omega) (by omega)]; exact g4 i
set_option maxHeartbeats 8000000 in
theorem rest_ci (h : Rd w b s p e bb) (hB : Bn w bb ib tb ty opn ins tabs) (hne : b ≠ bb ∧ b ≠ ib ∧ b ≠ tb) (op : Nat) (ho : op = 17) (at_ : Nat) :
    Calls Tryz.prog 180 #[.pointer (some ⟨b, 0, none⟩), .int .u8 op, .int .i64 at_] w (QP (ciS s p e op tabs) b s e bb ib tb ty opn ins w) := by
  have HR : Hid _ := h
  have HB : Hid _ := hB
  have hbl : b < w.heap.size := lt_of_cell h.c0
  have hle := h.le
  have hes := h.es
  have hsz := h.sz
  have HL : Hid _ := hB.lts
  clear h hB
  subst ho
  cases hu : u32S s p e with
  | error f =>
    obtain ⟨c, a⟩ := f
    have HU : Hid _ := hu
    clear hu
    go_enter Tryz.func180, Tryz.ntmps180
    go_wp2_with (go_at_call 113; refine (u32_calls (by exact HR.out.keep (S := fun _ => False) (((Kp.refl _ w).alloc _).alloc _) (fun h => h))).mono ?_; rintro en w2 hP; obtain ⟨hK, rfl⟩ := hP.err HU.out)
    go_light
    exact ⟨rfl, QP.mkErr (c := c) (a := a) (by unfold ciS; rw [HU.out]) (old_S hK) rfl (HB.out.newer hne hK)⟩
  | ok x =>
    obtain ⟨x, q⟩ := x
    have HU : Hid _ := hu
    clear hu
    cases hf : fixedS s q e 0 with
    | error f =>
      obtain ⟨c, a⟩ := f
      have HF : Hid _ := hf
      clear hf
      go_enter Tryz.func180, Tryz.ntmps180
      go_wp2_with (first | (go_at_call 113; refine (u32_calls (by exact HR.out.keep (S := fun _ => False) (((Kp.refl _ w).alloc _).alloc _) (fun h => h))).mono ?_; rintro en w2 hP; obtain ⟨hK, rfl, hR2⟩ := hP.ok HU.out; unfold encU; obtain ⟨g1, g2, g3, g4⟩ := two_new hK hbl) | (go_at_call 110; refine (fixed_calls (by exact hR2.keep (S := fun k => w.heap.size ≤ k) ((Kp.refl _ w2).setCell (.inl (Nat.le_succ _)) _) (by omega)) 0 (by omega)).mono ?_; rintro en w3 hP3; obtain ⟨hK3, rfl⟩ := hP3.err HF.out))
      go_light
      exact ⟨rfl, QP.mkErr (c := c) (a := a) (by unfold ciS; rw [HU.out]; dsimp only; rw [HF.out]) (kp_new (old_S hK) ((Kp.refl _ w2).setCell (.inl (Nat.le_succ _)) _) hK3) rfl (((HB.out.newer hne hK).keep (S := fun k => w.heap.size ≤ k) ((Kp.refl _ w2).setCell (.inl (Nat.le_succ _)) _) (by have := HL.out; omega) (by have := HL.out; omega) (by have := HL.out; omega)).keep hK3 (fun h => hne.1 h.symm) (fun h => hne.2.1 h.symm) (fun h => hne.2.2 h.symm))⟩
    | ok y =>
      obtain ⟨y, r⟩ := y
      have HF : Hid _ := hf
      clear hf
      go_enter Tryz.func180, Tryz.ntmps180
      go_wp2_with (first | (go_at_call 113; refine (u32_calls (by exact HR.out.keep (S := fun _ => False) (((Kp.refl _ w).alloc _).alloc _) (fun h => h))).mono ?_; rintro en w2 hP; obtain ⟨hK, rfl, hR2⟩ := hP.ok HU.out; unfold encU; obtain ⟨g1, g2, g3, g4⟩ := two_new hK hbl) | (go_at_call 110; refine (fixed_calls (by exact hR2.keep (S := fun k => w.heap.size ≤ k) ((Kp.refl _ w2).setCell (.inl (Nat.le_succ _)) _) (by omega)) 0 (by omega)).mono ?_; rintro en w3 hP3; obtain ⟨hK3, rfl, hR3⟩ := hP3.ok HF.out; unfold encN; obtain ⟨g5, g6, g7, g8, g9, g10⟩ := after_set hK hK3 g1 g2 g3 g4 hbl; clear g1 g2 g3 g4))
      go_light
      exact rest_close (i := ⟨_, x, 0⟩) rfl rfl (by unfold ciS; rw [HU.out]; dsimp only; rw [HF.out]) ⟨hbl, HL.out.1, HL.out.2.1, HL.out.2.2⟩ (kp_new (old_S hK) ((Kp.refl _ w2).setCell (.inl (Nat.le_succ _)) _) hK3) hR3 (((HB.out.newer hne hK).keep (S := fun k => w.heap.size ≤ k) ((Kp.refl _ w2).setCell (.inl (Nat.le_succ _)) _) (by have := HL.out; omega) (by have := HL.out; omega) (by have := HL.out; omega)).keep hK3 (fun h => hne.1 h.symm) (fun h => hne.2.1 h.symm) (fun h => hne.2.2 h.symm)) (Kp.refl _ w3) (three_some g5 rfl)
end
end Go.Proofs.Qxb6500275aGreatDoor
