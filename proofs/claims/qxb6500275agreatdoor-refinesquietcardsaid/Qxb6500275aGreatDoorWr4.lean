import Derived.Test.Qxb6500275aGreatDoorWr3
set_option maxRecDepth 100000
set_option linter.unusedVariables false
set_option linter.unusedSimpArgs false
set_option linter.unusedSectionVars false
namespace Go.Proofs.Qxb6500275aGreatDoor
open Go Go.RowKit
variable [Inhabited TV]
def tabsL (s : ByteArray) (e : Nat) : Nat → Nat → List Int → Except (Int × Nat) (Nat × List Int)
  | 0, q, t => .ok (q, t)
  | n + 1, q, t => match u32S s q e with
    | .error f => .error f
    | .ok (v, r) => tabsL s e n r (t ++ [v])
def isPlain (op : Nat) : Prop := op = 0 ∨ op = 1 ∨ op = 5 ∨ op = 11 ∨ op = 15 ∨ op = 26 ∨ op = 27
def isBlk (op : Nat) : Prop := op = 2 ∨ op = 3 ∨ op = 4
def isIdx (op : Nat) : Prop := op = 12 ∨ op = 13 ∨ op = 16 ∨ op = 32 ∨ op = 33 ∨ op = 34 ∨ op = 35 ∨ op = 36
abbrev RO := Except (Int × Nat) (Ins × Nat × List Int)
def blkS (s : ByteArray) (p e op : Nat) (tabs : List Int) : RO :=
  if p < e then (if bAt s p = 64 ∨ (124 ≤ bAt s p ∧ bAt s p ≤ 127) then .ok (⟨op, bAt s p, 0⟩, p + 1, tabs) else .error (9, p)) else .error (3, e)
def idxS (s : ByteArray) (p e op : Nat) (tabs : List Int) : RO :=
  match u32S s p e with
  | .error f => .error f
  | .ok (x, q) => .ok (⟨op, x, 0⟩, q, tabs)
def ciS (s : ByteArray) (p e op : Nat) (tabs : List Int) : RO :=
  match u32S s p e with
  | .error f => .error f
  | .ok (x, q) => match fixedS s q e 0 with
    | .error f => .error f
    | .ok (_, r) => .ok (⟨op, x, 0⟩, r, tabs)
def zeroS (s : ByteArray) (p e op : Nat) (tabs : List Int) : RO :=
  match fixedS s p e 0 with
  | .error f => .error f
  | .ok (_, r) => .ok (⟨op, 0, 0⟩, r, tabs)
def constS (o : R Int) (op : Nat) (tabs : List Int) : RO :=
  match o with
  | .error f => .error f
  | .ok (y, q) => .ok (⟨op, 0, y⟩, q, tabs)
def ldstS (s : ByteArray) (p e op : Nat) (tabs : List Int) : RO :=
  match u32S s p e with
  | .error f => .error f
  | .ok (x, q) => match u32S s q e with
    | .error f => .error f
    | .ok (y, r) => .ok (⟨op, x, y⟩, r, tabs)
def tableS (s : ByteArray) (p e op : Nat) (tabs : List Int) : RO :=
  match countS s p e (23 - (tabs.length : Int)) with
  | .error f => .error f
  | .ok (k, q) => match tabsL s e (k.toNat + 1) q tabs with
    | .error f => .error f
    | .ok (r, t) => .ok (⟨op, tabs.length, k + 1⟩, r, t)
/- what 'rest' comes to -/
def QP (o : RO) (b : Nat) (s : ByteArray) (e bb ib tb : Nat) (ty : List Int) (opn : List Nat) (ins : List Ins) (w : World) (en : Ending) (w' : World) : Prop :=
  Kp (fun k => k = b ∨ k = bb ∨ k = tb) w w' ∧ match o with
    | .ok (i, q, t) => en = .returned i.val ∧ Rd w' b s q e bb ∧ Bn w' bb ib tb ty opn ins t
    | .error (c, a) => en = fault c a ∧ ∃ t, Bn w' bb ib tb ty opn ins t
section
variable {w : World} {b : Nat} {s : ByteArray} {p e bb ib tb : Nat} {ty : List Int} {opn : List Nat} {ins : List Ins} {tabs : List Int}
theorem Kp.one {w' : World} {S : Nat → Prop} (h : Kp (· = b) w w') (hs : S b) : Kp S w w' := h.mono (fun k hk => by subst hk; exact hs)
theorem QP.mkOk {o : RO} {en : Ending} {w' : World} {i : Ins} {q : Nat} {t : List Int} (ho : o = .ok (i, q, t)) (h1 : Kp (fun k => k = b ∨ k = bb ∨ k = tb) w w') (h2 : en = .returned i.val) (h3 : Rd w' b s q e bb) (h4 : Bn w' bb ib tb ty opn ins t) : QP o b s e bb ib tb ty opn ins w en w' := by
  subst ho; exact ⟨h1, h2, h3, h4⟩
theorem QP.mkErr {o : RO} {en : Ending} {w' : World} {c : Int} {a : Nat} {t : List Int} (ho : o = .error (c, a)) (h1 : Kp (fun k => k = b ∨ k = bb ∨ k = tb) w w') (h2 : en = fault c a) (h3 : Bn w' bb ib tb ty opn ins t) : QP o b s e bb ib tb ty opn ins w en w' := by
  subst ho; exact ⟨h1, h2, t, h3⟩
set_option maxHeartbeats 4000000 in
theorem rest_plain (h : Rd w b s p e bb) (hB : Bn w bb ib tb ty opn ins tabs) (op : Nat) (ho : isPlain op) (at_ : Nat) :
    Calls Tryz.prog 180 #[.pointer (some ⟨b, 0, none⟩), .int .u8 op, .int .i64 at_] w (QP (.ok (⟨op, 0, 0⟩, p, tabs)) b s e bb ib tb ty opn ins w) := by
  have HR : Hid _ := h
  have HB : Hid _ := hB
  clear h hB
  rcases ho with rfl | rfl | rfl | rfl | rfl | rfl | rfl
  all_goals
    go_enter Tryz.func180, Tryz.ntmps180
    go_wp2
    exact bodyPost_ret (v := (Ins.mk _ 0 0).val) (by simp [results, Tryz.results180, go_sem, Ins.val]) rfl (QP.mkOk rfl (((Kp.refl _ w).alloc _).alloc _) rfl (HR.out.keep (S := fun _ => False) (((Kp.refl _ w).alloc _).alloc _) (fun h => h)) (HB.out.keep (S := fun _ => False) (((Kp.refl _ w).alloc _).alloc _) (fun h => h) (fun h => h) (fun h => h)))
set_option maxHeartbeats 4000000 in
theorem rest_num (h : Rd w b s p e bb) (hB : Bn w bb ib tb ty opn ins tabs) (op : Nat) (ho : 69 ≤ op ∧ op ≤ 191) (at_ : Nat) :
    Calls Tryz.prog 180 #[.pointer (some ⟨b, 0, none⟩), .int .u8 op, .int .i64 at_] w (QP (.ok (⟨op, 0, 0⟩, p, tabs)) b s e bb ib tb ty opn ins w) := by
  have HR : Hid _ := h
  have HB : Hid _ := hB
  clear h hB
  go_enter Tryz.func180, Tryz.ntmps180
  go_wp2
  exact bodyPost_ret (v := (Ins.mk _ 0 0).val) (by simp [results, Tryz.results180, go_sem, Ins.val]) rfl (QP.mkOk rfl (((Kp.refl _ w).alloc _).alloc _) rfl (HR.out.keep (S := fun _ => False) (((Kp.refl _ w).alloc _).alloc _) (fun h => h)) (HB.out.keep (S := fun _ => False) (((Kp.refl _ w).alloc _).alloc _) (fun h => h) (fun h => h) (fun h => h)))
/- the two structs that 'rest' makes, behind a call -/
theorem two_new {w2 : World} {A B : Array Value} {t u : TypeId} (hK : Kp (· = b) ((w.alloc (.cells A t)).alloc (.cells B u)) w2) (hb : b < w.heap.size) :
    (∀ i, w2.cell? ⟨w.heap.size, i, none⟩ = A[i]?) ∧ (∀ i, w2.frozen? ⟨w.heap.size, i, none⟩ = false) ∧ (∀ i, w2.cell? ⟨w.heap.size + 1, i, none⟩ = B[i]?) ∧ (∀ i, w2.frozen? ⟨w.heap.size + 1, i, none⟩ = false) := by
  refine ⟨fun i => ?_, fun i => ?_, fun i => ?_, fun i => ?_⟩
  · rw [hK.cell (p := ⟨w.heap.size, i, none⟩) (by simp; omega) (by simp; omega)]; simp [go_sem]
  · rw [hK.frozen (p := ⟨w.heap.size, i, none⟩) (by simp; omega) (by simp; omega)]; simp [go_sem]
  · rw [hK.cell (p := ⟨w.heap.size + 1, i, none⟩) (by simp) (by simp; omega)]; simp [go_sem]
  · rw [hK.frozen (p := ⟨w.heap.size + 1, i, none⟩) (by simp) (by simp; omega)]; simp [go_sem]
theorem old_S {A B : Obj} {w' : World} (hK : Kp (· = b) ((w.alloc A).alloc B) w') : Kp (fun k => k = b ∨ k = bb ∨ k = tb) w w' := (((Kp.refl _ w).alloc A).alloc B).trans (hK.one (.inl rfl))
theorem Bn.newer {w2 : World} {A B : Obj} (h : Bn w bb ib tb ty opn ins tabs) (hne : b ≠ bb ∧ b ≠ ib ∧ b ≠ tb) (hK : Kp (· = b) ((w.alloc A).alloc B) w2) : Bn w2 bb ib tb ty opn ins tabs :=
  (h.keep (S := fun _ => False) (((Kp.refl _ w).alloc A).alloc B) (fun h => h) (fun h => h) (fun h => h)).keep hK (fun h => hne.1 h.symm) (fun h => hne.2.1 h.symm) (fun h => hne.2.2 h.symm)
theorem Bn.lts (h : Bn w bb ib tb ty opn ins tabs) : bb < w.heap.size ∧ ib < w.heap.size ∧ tb < w.heap.size := by
  obtain ⟨⟨F, G, H, b1, b2, b3, _⟩, _⟩ := h
  exact ⟨b1.lt (by decide), b2.lt (by decide), b3.lt (by decide)⟩
/- the end of 'rest' behind stores into its own structs -/
theorem rest_fin {w2 w4 : World} {i : Ins} {q : Nat} {t : List Int} {o : RO} (ho : o = .ok (i, q, t)) (n : Nat) (hn : b < n ∧ bb < n ∧ ib < n ∧ tb < n) (hw : w.heap.size ≤ n) (h1 : Kp (fun k => k = b ∨ k = bb ∨ k = tb) w w2) (h2 : Rd w2 b s q e bb) (h3 : Bn w2 bb ib tb ty opn ins t)
    (h4 : Kp (fun k => n ≤ k) w2 w4) : QP o b s e bb ib tb ty opn ins w (.returned i.val) w4 := by
  refine QP.mkOk ho ⟨h4.os.trans h1.os, h4.tape.trans h1.tape, h4.output.trans h1.output, Nat.le_trans h1.size h4.size, fun k hk hs => ?_⟩ rfl (h2.keep h4 (by omega)) (h3.keep h4 (by omega) (by omega) (by omega))
  rw [h4.block k (Nat.lt_of_lt_of_le hk h1.size) (by omega)]
  exact h1.block k hk hs
theorem cell_set (w : World) (a p : Addr) (v : Value) (h : (w.cell? a).isSome = true) : (w.setCell a v).cell? p = if p = a then some v else w.cell? p := by
  split
  · rename_i e
    subst e
    obtain ⟨u, hu⟩ := Option.isSome_iff_exists.1 h
    exact World.cell?_setCell_same _ _ _ hu
  · rename_i e
    exact World.cell?_setCell_other _ _ _ _ (fun h => e h.symm)
theorem some_set (w : World) (a p : Addr) (v : Value) (h : (w.cell? p).isSome = true) : ((w.setCell a v).cell? p).isSome = true := by
  obtain ⟨u, hu⟩ := Option.isSome_iff_exists.1 h
  obtain ⟨v', hv⟩ := cell?_setCell_some (p := a) (x := v) hu
  rw [hv]; rfl
theorem res180 {F : World} {a : Act} {n : Nat} {v0 v1 v2 : Value} (ht : a.tmps.getD 6 undef = .pointer (some ⟨n, 0, none⟩)) (c0 : F.cell? ⟨n, 0, none⟩ = some v0) (c1 : F.cell? ⟨n, 1, none⟩ = some v1) (c2 : F.cell? ⟨n, 2, none⟩ = some v2) :
    (results Tryz.f180 a.tmps).run Tryz.prog F = .ok (.agg #[v0, v1, v2]) F := by
  rw [Array.getD_eq_getD_getElem?] at ht
  simp [results, Tryz.results180, go_sem, ht, c0, c1, c2]
theorem fin180 {W : World} {a : Act} {n : Nat} {v0 v1 v2 : Value} (ht : a.tmps.getD 6 undef = .pointer (some ⟨n, 0, none⟩)) (h0 : (W.cell? ⟨n, 0, none⟩).isSome = true) (h1 : (W.cell? ⟨n, 1, none⟩).isSome = true) (h2 : (W.cell? ⟨n, 2, none⟩).isSome = true) :
    (results Tryz.f180 a.tmps).run Tryz.prog (((W.setCell ⟨n, 0, none⟩ v0).setCell ⟨n, 1, none⟩ v1).setCell ⟨n, 2, none⟩ v2) = .ok (.agg #[v0, v1, v2]) (((W.setCell ⟨n, 0, none⟩ v0).setCell ⟨n, 1, none⟩ v1).setCell ⟨n, 2, none⟩ v2) := by
  have s1 := some_set W ⟨n, 0, none⟩ ⟨n, 1, none⟩ v0 h1
  have s2 := some_set _ ⟨n, 1, none⟩ ⟨n, 2, none⟩ v1 (some_set W ⟨n, 0, none⟩ ⟨n, 2, none⟩ v0 h2)
  refine res180 ht ?_ ?_ ?_
  · rw [cell_set _ _ _ _ s2, if_neg (by simp), cell_set _ _ _ _ s1, if_neg (by simp), cell_set _ _ _ _ h0, if_pos rfl]
  · rw [cell_set _ _ _ _ s2, if_neg (by simp), cell_set _ _ _ _ s1, if_pos rfl]
  · rw [cell_set _ _ _ _ s2, if_pos rfl]
/- the end of 'rest': its struct is copied into the result's -/
theorem rest_close {a : Act} {w2 W : World} {i : Ins} {q : Nat} {t : List Int} {o : RO} (hd : a.defers = []) (ht : a.tmps.getD 6 undef = .pointer (some ⟨w.heap.size, 0, none⟩)) (ho : o = .ok (i, q, t)) (hn : b < w.heap.size ∧ bb < w.heap.size ∧ ib < w.heap.size ∧ tb < w.heap.size)
    (h1 : Kp (fun k => k = b ∨ k = bb ∨ k = tb) w w2) (h2 : Rd w2 b s q e bb) (h3 : Bn w2 bb ib tb ty opn ins t) (h4 : Kp (fun k => w.heap.size ≤ k) w2 W) (s0 : ∀ j, j < 3 → (W.cell? ⟨w.heap.size, j, none⟩).isSome = true) :
    bodyPost Tryz.prog Tryz.f180 (QP o b s e bb ib tb ty opn ins w) .ret a (((W.setCell ⟨w.heap.size, 0, none⟩ (.int .u8 i.op)).setCell ⟨w.heap.size, 1, none⟩ (.int .u32 i.x)).setCell ⟨w.heap.size, 2, none⟩ (.int .u64 i.y)) :=
  ⟨hd, i.val, fin180 ht (s0 0 (by decide)) (s0 1 (by decide)) (s0 2 (by decide)), rest_fin ho w.heap.size hn (Nat.le_refl _) h1 h2 h3 (((h4.setCell (.inl (Nat.le_refl _)) _).setCell (.inl (Nat.le_refl _)) _).setCell (.inl (Nat.le_refl _)) _)⟩
theorem three_some {w2 : World} {n : Nat} {A : Array Value} (g1 : ∀ i, w2.cell? ⟨n, i, none⟩ = A[i]?) (hA : A.size = 3) : ∀ j, j < 3 → (w2.cell? ⟨n, j, none⟩).isSome = true := by
  intro j hj
  rw [g1, Array.getElem?_eq_getElem (by omega)]
  rfl
end
end Go.Proofs.Qxb6500275aGreatDoor
