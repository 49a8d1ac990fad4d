import Derived.Test.Qxb6500275aGreatDoorWr7
import Derived.Test.Qxb6500275aGreatDoorWr8
import Derived.Deep.Light
set_option maxRecDepth 100000
set_option linter.unusedVariables false
set_option linter.unusedSimpArgs false
set_option linter.unusedSectionVars false
namespace Go.Proofs.Qxb6500275aGreatDoor
open Go Go.RowKit
variable [Inhabited TV]
def cS (s : ByteArray) (p e op : Nat) : R Int :=
  if op = 65 then slebS s p e 32 else if op = 66 then slebS s p e 64 else if op = 67 then wordS s p e 4 else wordS s p e 8
def constantS (s : ByteArray) (p e : Nat) (tabs : List Int) : RO :=
  if p < e then (if bAt s p < 65 ∨ 68 < bAt s p then .error (13, p) else match cS s (p + 1) e (bAt s p) with
    | .error f => .error f
    | .ok (y, q) => if q < e then (if bAt s q = 11 then .ok (⟨bAt s p, 0, y⟩, q + 1, tabs) else .error (13, q)) else .error (3, e)) else .error (3, e)
section
variable {w : World} {b : Nat} {s : ByteArray} {p e bb ib tb : Nat} {ty : List Int} {opn : List Nat} {ins : List Ins} {tabs : List Int}
theorem rest_const (h : Rd w b s p e bb) (hB : Bn w bb ib tb ty opn ins tabs) (hne : b ≠ bb ∧ b ≠ ib ∧ b ≠ tb) (op : Nat) (ho : 65 ≤ op ∧ op ≤ 68) (at_ : Nat) :
    Calls Tryz.prog 180 #[.pointer (some ⟨b, 0, none⟩), .int .u8 op, .int .i64 at_] w (QP (constS (cS s p e op) op tabs) b s e bb ib tb ty opn ins w) := by
  have : op = 65 ∨ op = 66 ∨ op = 67 ∨ op = 68 := by omega
  rcases this with rfl | rfl | rfl | rfl
  · exact rest_65 h hB hne 65 rfl at_
  · exact rest_66 h hB hne 66 rfl at_
  · exact rest_67 h hB hne 67 rfl at_
  · exact rest_68 h hB hne 68 rfl at_
theorem QP.ok {o : RO} {en : Ending} {w' : World} {i : Ins} {q : Nat} {t : List Int} (h : QP o b s e bb ib tb ty opn ins w en w') (ho : o = .ok (i, q, t)) : Kp (fun k => k = b ∨ k = bb ∨ k = tb) w w' ∧ en = .returned i.val ∧ Rd w' b s q e bb ∧ Bn w' bb ib tb ty opn ins t := by
  subst ho; exact h
theorem QP.err {o : RO} {en : Ending} {w' : World} {c : Int} {a : Nat} (h : QP o b s e bb ib tb ty opn ins w en w') (ho : o = .error (c, a)) : Kp (fun k => k = b ∨ k = bb ∨ k = tb) w w' ∧ en = fault c a ∧ ∃ t, Bn w' bb ib tb ty opn ins t := by
  subst ho; exact h
theorem one_new {w2 w3 : World} {A : Array Value} {t : TypeId} (hK : Kp (fun k => k = b ∨ k = bb ∨ k = tb) (w.alloc (.cells A t)) w2) (hK3 : Kp (fun k => k = b ∨ k = bb ∨ k = tb) w2 w3) (hb : b < w.heap.size) (hl : bb < w.heap.size ∧ ib < w.heap.size ∧ tb < w.heap.size) :
    (∀ i, w3.cell? ⟨w.heap.size, i, none⟩ = A[i]?) ∧ (∀ i, w3.frozen? ⟨w.heap.size, i, none⟩ = false) ∧ w.heap.size < w3.heap.size := by
  have h := hK.trans hK3
  refine ⟨fun i => ?_, fun i => ?_, ?_⟩
  · rw [h.cell (p := ⟨w.heap.size, i, none⟩) (by simp) (by show ¬ (w.heap.size = b ∨ w.heap.size = bb ∨ w.heap.size = tb); omega)]; simp [go_sem]
  · rw [h.frozen (p := ⟨w.heap.size, i, none⟩) (by simp) (by show ¬ (w.heap.size = b ∨ w.heap.size = bb ∨ w.heap.size = tb); omega)]; simp [go_sem]
  · have := h.size; simp at this; omega
theorem one_more {w3 w4 : World} {n : Nat} {A B : Array Value} {t : TypeId} (hK4 : Kp (· = b) (w3.alloc (.cells B t)) w4) (hb3 : b < w3.heap.size) (hb : b < n) (hn : n < w3.heap.size) (g1 : ∀ i, w3.cell? ⟨n, i, none⟩ = A[i]?) (g2 : ∀ i, w3.frozen? ⟨n, i, none⟩ = false) :
    (∀ i, w4.cell? ⟨n, i, none⟩ = A[i]?) ∧ (∀ i, w4.frozen? ⟨n, i, none⟩ = false) ∧ (∀ i, w4.cell? ⟨w3.heap.size, i, none⟩ = B[i]?) ∧ n < w4.heap.size := by
  refine ⟨fun i => ?_, fun i => ?_, fun i => ?_, ?_⟩
  · rw [hK4.cell (p := ⟨n, i, none⟩) (by simp; omega) (by simp; omega), World.cell?_alloc_past _ _ _ hn]; exact g1 i
  · rw [hK4.frozen (p := ⟨n, i, none⟩) (by simp; omega) (by simp; omega), World.frozen?_alloc_past _ _ _ hn]; exact g2 i
  · rw [hK4.cell (p := ⟨w3.heap.size, i, none⟩) (by simp) (by simp; omega)]; simp [go_sem]
  · have := hK4.size; simp at this; omega
theorem kp_three (w4 : World) (n : Nat) (x y z : Value) : Kp (fun k => n ≤ k) w4 (((w4.setCell ⟨n, 0, none⟩ x).setCell ⟨n, 1, none⟩ y).setCell ⟨n, 2, none⟩ z) :=
  (((Kp.refl (fun k => n ≤ k) w4).setCell (p := ⟨n, 0, none⟩) (.inl (Nat.le_refl _)) x).setCell (p := ⟨n, 1, none⟩) (.inl (Nat.le_refl _)) y).setCell (p := ⟨n, 2, none⟩) (.inl (Nat.le_refl _)) z
theorem close117 {a : Act} {W : World} {n : Nat} {i : Ins} {R : Ending → World → Prop} (hd : a.defers = []) (ht : a.tmps.getD 2 undef = .pointer (some ⟨n, 0, none⟩)) (s0 : ∀ j, j < 3 → (W.cell? ⟨n, j, none⟩).isSome = true)
    (hR : R (.returned i.val) (((W.setCell ⟨n, 0, none⟩ (.int .u8 i.op)).setCell ⟨n, 1, none⟩ (.int .u32 i.x)).setCell ⟨n, 2, none⟩ (.int .u64 i.y))) :
    bodyPost Tryz.prog Tryz.f117 R .ret a (((W.setCell ⟨n, 0, none⟩ (.int .u8 i.op)).setCell ⟨n, 1, none⟩ (.int .u32 i.x)).setCell ⟨n, 2, none⟩ (.int .u64 i.y)) := by
  refine ⟨hd, i.val, ?_, hR⟩
  have s1 := some_set W ⟨n, 0, none⟩ ⟨n, 1, none⟩ (.int .u8 i.op) (s0 1 (by decide))
  have s2 := some_set _ ⟨n, 1, none⟩ ⟨n, 2, none⟩ (.int .u32 i.x) (some_set W ⟨n, 0, none⟩ ⟨n, 2, none⟩ (.int .u8 i.op) (s0 2 (by decide)))
  have c0 : (((W.setCell ⟨n, 0, none⟩ (.int .u8 i.op)).setCell ⟨n, 1, none⟩ (.int .u32 i.x)).setCell ⟨n, 2, none⟩ (.int .u64 i.y)).cell? ⟨n, 0, none⟩ = some (.int .u8 i.op) := by
    rw [cell_set _ _ _ _ s2, if_neg (by simp), cell_set _ _ _ _ s1, if_neg (by simp), cell_set _ _ _ _ (s0 0 (by decide)), if_pos rfl]
  have c1 : (((W.setCell ⟨n, 0, none⟩ (.int .u8 i.op)).setCell ⟨n, 1, none⟩ (.int .u32 i.x)).setCell ⟨n, 2, none⟩ (.int .u64 i.y)).cell? ⟨n, 1, none⟩ = some (.int .u32 i.x) := by
    rw [cell_set _ _ _ _ s2, if_neg (by simp), cell_set _ _ _ _ s1, if_pos rfl]
  have c2 : (((W.setCell ⟨n, 0, none⟩ (.int .u8 i.op)).setCell ⟨n, 1, none⟩ (.int .u32 i.x)).setCell ⟨n, 2, none⟩ (.int .u64 i.y)).cell? ⟨n, 2, none⟩ = some (.int .u64 i.y) := by
    rw [cell_set _ _ _ _ s2, if_pos rfl]
  generalize (((W.setCell ⟨n, 0, none⟩ (.int .u8 i.op)).setCell ⟨n, 1, none⟩ (.int .u32 i.x)).setCell ⟨n, 2, none⟩ (.int .u64 i.y)) = F at *
  rw [Array.getD_eq_getD_getElem?] at ht
  simp [results, Tryz.results117, go_sem, ht, c0, c1, c2, Ins.val]
set_option maxHeartbeats 4000000 in
theorem constant_calls (h : Rd w b s p e bb) (hB : Bn w bb ib tb ty opn ins tabs) (hne : b ≠ bb ∧ b ≠ ib ∧ b ≠ tb) :
    Calls Tryz.prog 117 #[.pointer (some ⟨b, 0, none⟩)] w (QP (constantS s p e tabs) b s e bb ib tb ty opn ins w) := by
  have HR : Hid _ := h
  have HB : Hid _ := hB
  have hbl : b < w.heap.size := lt_of_cell h.c0
  have hle := h.le
  have hes := h.es
  have hsz := h.sz
  have hb := bAt_lt s p
  have HL : Hid _ := hB.lts
  obtain ⟨c0, c1, c2, c3, f1, f2, _, _, _⟩ := id h
  clear h hB
  by_cases hp : p < e
  · by_cases hc : bAt s p < 65 ∨ 68 < bAt s p
    · go_enter Tryz.func117, Tryz.ntmps117
      go_wp2_with (go_at_call 63; refine (next_ok (by exact HR.out.keep (S := fun _ => False) ((Kp.refl _ w).alloc _) (fun h => h)) hp).mono ?_; rintro en w2 ⟨rfl, hR2, hK⟩)
      all_goals first
        | (go_light
           exact ⟨rfl, QP.mkErr (c := 13) (a := p) (by unfold constantS; rw [if_pos hp, if_pos hc]) (((Kp.refl _ w).alloc _).trans (hK.one (.inl rfl))) rfl ((HB.out.keep (S := fun _ => False) ((Kp.refl _ w).alloc _) (fun h => h) (fun h => h) (fun h => h)).keep hK (fun h => hne.1 h.symm) (fun h => hne.2.1 h.symm) (fun h => hne.2.2 h.symm))⟩)
        | (exfalso; omega)
    · cases hv : cS s (p + 1) e (bAt s p) with
      | error f =>
        obtain ⟨c, a⟩ := f
        have HV : Hid _ := hv
        clear hv
        go_enter Tryz.func117, Tryz.ntmps117
        go_wp2_with (first | (go_at_call 63; refine (next_ok (by exact HR.out.keep (S := fun _ => False) ((Kp.refl _ w).alloc _) (fun h => h)) hp).mono ?_; rintro en w2 ⟨rfl, hR2, hK⟩) | (go_at_call 180; refine (rest_const hR2 ((HB.out.keep (S := fun _ => False) ((Kp.refl _ w).alloc _) (fun h => h) (fun h => h) (fun h => h)).keep hK (fun h => hne.1 h.symm) (fun h => hne.2.1 h.symm) (fun h => hne.2.2 h.symm)) hne (bAt s p) (by omega) p).mono ?_; rintro en w3 hP3; obtain ⟨hK3, rfl, t3, hB3⟩ := hP3.err (c := c) (a := a) (by rw [HV.out]; rfl)))
        go_light
        exact ⟨rfl, QP.mkErr (c := c) (a := a) (by unfold constantS; rw [if_pos hp, if_neg hc, HV.out]) ((((Kp.refl _ w).alloc _).trans (hK.one (.inl rfl))).trans hK3) rfl hB3⟩
      | ok y =>
        obtain ⟨y, q⟩ := y
        have HV : Hid _ := hv
        clear hv
        have hbq := bAt_lt s q
        go_enter Tryz.func117, Tryz.ntmps117
        go_wp2_with fail
        refine (next_ok (by exact HR.out.keep (S := fun _ => False) ((Kp.refl _ w).alloc _) (fun h => h)) hp).mono ?_
        rintro en w2 ⟨rfl, hR2, hK⟩
        go_wp2_with fail
        refine (rest_const hR2 ((HB.out.keep (S := fun _ => False) ((Kp.refl _ w).alloc _) (fun h => h) (fun h => h) (fun h => h)).keep hK (fun h => hne.1 h.symm) (fun h => hne.2.1 h.symm) (fun h => hne.2.2 h.symm)) hne (bAt s p) (by omega) p).mono ?_
        rintro en w3 hP3
        obtain ⟨hK3, rfl, hR3, hB3⟩ := hP3.ok (i := ⟨bAt s p, 0, y⟩) (q := q) (t := tabs) (by rw [HV.out]; rfl)
        unfold Ins.val
        obtain ⟨d0, d1, d2, d3, e1, e2, le3, es3, sz3⟩ := id hR3
        have hb3 : b < w3.heap.size := lt_of_cell d0
        obtain ⟨g1, g2, hn3⟩ := one_new (hK.one (S := fun k => k = b ∨ k = bb ∨ k = tb) (.inl rfl)) hK3 hbl HL.out
        have hKW : Kp (fun k => k = b ∨ k = bb ∨ k = tb) w w3 := (((Kp.refl _ w).alloc _).trans (hK.one (.inl rfl))).trans hK3
        clear hP3
        go_wp2_with fail
        by_cases hq : q < e
        · by_cases h11 : bAt s q = 11
          · have e11 : ((bAt s q : Int) != 11) = false := by rw [h11]; rfl
            have H11 : Hid _ := h11
            clear h11
            refine (next_ok (by exact hR3.keep (S := fun _ => False) ((Kp.refl _ w3).alloc _) (fun h => h)) hq).mono ?_
            rintro en w4 ⟨rfl, hR4, hK4⟩
            obtain ⟨k1, k2, k3, k4⟩ := one_more hK4 hb3 hbl hn3 g1 g2
            go_wp2
            go_light
            refine close117 (i := ⟨bAt s p, 0, y⟩) rfl rfl (three_some k1 rfl) ?_
            have hK5 : Kp (fun k => k = b ∨ k = bb ∨ k = tb) w w4 := hKW.trans (((Kp.refl _ w3).alloc _).trans (hK4.one (.inl rfl)))
            have hB5 : Bn w4 bb ib tb ty opn ins tabs := (hB3.keep (S := fun _ => False) ((Kp.refl _ w3).alloc _) (fun h => h) (fun h => h) (fun h => h)).keep hK4 (fun h => hne.1 h.symm) (fun h => hne.2.1 h.symm) (fun h => hne.2.2 h.symm)
            refine rest_fin (w2 := w4) (q := q + 1) (t := tabs) ?_ w.heap.size ⟨hbl, HL.out.1, HL.out.2.1, HL.out.2.2⟩ (Nat.le_refl _) hK5 hR4 hB5 (kp_three w4 w.heap.size _ _ _)
            unfold constantS; rw [if_pos hp, if_neg hc, HV.out]; dsimp only; rw [if_pos hq, if_pos H11.out]
          · have e11 : ((bAt s q : Int) != 11) = true := by rw [bne_iff_ne]; omega
            refine (next_ok (by exact hR3.keep (S := fun _ => False) ((Kp.refl _ w3).alloc _) (fun h => h)) hq).mono ?_
            rintro en w4 ⟨rfl, hR4, hK4⟩
            go_wp2
            go_light
            exact ⟨rfl, QP.mkErr (c := 13) (a := q) (by unfold constantS; rw [if_pos hp, if_neg hc, HV.out]; dsimp only; rw [if_pos hq, if_neg h11]) (hKW.trans (((Kp.refl _ w3).alloc _).trans (hK4.one (.inl rfl)))) rfl ((hB3.keep (S := fun _ => False) ((Kp.refl _ w3).alloc _) (fun h => h) (fun h => h) (fun h => h)).keep hK4 (fun h => hne.1 h.symm) (fun h => hne.2.1 h.symm) (fun h => hne.2.2 h.symm))⟩
        · refine (next_err (by exact hR3.keep (S := fun _ => False) ((Kp.refl _ w3).alloc _) (fun h => h)) hq).mono ?_
          rintro en w4 ⟨rfl, hK4⟩
          go_wp2
          go_light
          exact ⟨rfl, QP.mkErr (c := 3) (a := e) (by unfold constantS; rw [if_pos hp, if_neg hc, HV.out]; dsimp only; rw [if_neg hq]) (hKW.trans (((Kp.refl _ w3).alloc _).trans (hK4.one (.inl rfl)))) rfl ((hB3.keep (S := fun _ => False) ((Kp.refl _ w3).alloc _) (fun h => h) (fun h => h) (fun h => h)).keep hK4 (fun h => hne.1 h.symm) (fun h => hne.2.1 h.symm) (fun h => hne.2.2 h.symm))⟩
  · go_enter Tryz.func117, Tryz.ntmps117
    go_wp2_with (go_at_call 63; refine (next_err (by exact HR.out.keep (S := fun _ => False) ((Kp.refl _ w).alloc _) (fun h => h)) hp).mono ?_; rintro en w2 ⟨rfl, hK⟩)
    go_light
    exact ⟨rfl, QP.mkErr (c := 3) (a := e) (by unfold constantS; rw [if_neg hp]) (((Kp.refl _ w).alloc _).trans (hK.one (.inl rfl))) rfl ((HB.out.keep (S := fun _ => False) ((Kp.refl _ w).alloc _) (fun h => h) (fun h => h) (fun h => h)).keep hK (fun h => hne.1 h.symm) (fun h => hne.2.1 h.symm) (fun h => hne.2.2 h.symm))⟩
end
end Go.Proofs.Qxb6500275aGreatDoor
