import Derived.Test.Qxb6500275aGreatDoorEo4
import Derived.Test.Qxb6500275aGreatDoorBin1
import Derived.StillTailTactics
set_option maxRecDepth 100000
set_option linter.unusedVariables false
set_option linter.unusedSimpArgs false
namespace Go.Proofs.Qxb6500275aGreatDoor
open Go Go.RowKit
/- some bytes more -/
theorem Wr.bytesL {w : World} {wb : Nat} {v : Value} {l : List Nat} (h : Wr w wb v l) (xs : List Nat) (hsm : l.length + xs.length ≤ 99990) :
    Calls Tryz.prog 66 #[.pointer (some ⟨wb, 0, none⟩), .slice (some ⟨w.heap.size, 0, none⟩) xs.length xs.length] (w.alloc (.cells (xs.map (fun x : Nat => Value.int .u8 (x : Int))).toArray 5)) (Wq w wb v (l ++ xs)) := by
  have hk : Kp (fun _ => False) w (w.alloc (.cells (xs.map (fun x : Nat => Value.int .u8 (x : Int))).toArray 5)) := (Kp.refl _ _).alloc _
  have hb := blk_al w (xs.map (fun x : Nat => Value.int .u8 (x : Int))).toArray 5
  refine (bytes_calls (xs := xs) (h.quiet hk) ⟨w.heap.size, 0, none⟩ xs.length xs.length rfl (fun j z hz => ?_) (by omega)).mono ?_
  · have hj := (List.getElem?_eq_some_iff.1 hz)
    rw [add_none, Nat.zero_add, hb.cell (by simp; exact hj.1)]
    obtain ⟨h1, h2⟩ := hj
    simp [h1, h2]
  · rintro en w' ⟨h1, v', h2, h3⟩
    exact ⟨h1, v', h2, We.before hk h3⟩
/- the encoder's buffers at rest -/
def Bfo (w : World) (t : Option Addr × Nat) : Prop := (t.1 = none ∧ t.2 = 0) ∨ ∃ b D, t.1 = some ⟨b, 0, none⟩ ∧ b < w.heap.size ∧ Blk w b t.2 D
def tlB (t : Option Addr × Nat) : Option Nat := (tlV t).ownBlock
theorem Bfo.lt {w : World} {t : Option Addr × Nat} (h : Bfo w t) {k : Nat} (hk : tlB t = some k) : k < w.heap.size := by
  obtain ⟨a, n⟩ := t
  rcases h with ⟨h1, _⟩ | ⟨b, D, h1, h2, _⟩
  · dsimp only at h1; subst h1
    simp [tlB, tlV, Value.ownBlock] at hk
  · dsimp only at h1; subst h1
    simp [tlB, tlV, Value.ownBlock] at hk; omega
theorem Bfo.keep {w w' : World} {P : Nat → Prop} {t : Option Addr × Nat} (h : Bfo w t) (hk : Kp P w w') (hp : ∀ k, tlB t = some k → ¬ P k) : Bfo w' t := by
  rcases h with h | ⟨b, D, h1, h2, h3⟩
  · exact .inl h
  · refine .inr ⟨b, D, h1, Nat.lt_of_lt_of_le h2 hk.size, h3.keep hk (hp b ?_)⟩
    unfold tlB tlV
    rw [h1]
    rfl
/- a buffer, emptied -/
theorem Bfo.empty {w : World} {a : Option Addr} {n : Nat} (h : Bfo w (a, n)) : Bf w (.slice a 0 n) [] := by
  rcases h with ⟨h1, h2⟩ | ⟨b, D, h1, h2, h3⟩
  · dsimp only at h1 h2
    subst h1 h2
    exact .inl ⟨rfl, rfl⟩
  · dsimp only at h1
    subst h1
    exact .inr ⟨b, n, D, rfl, h2, by simp, h3, fun i x hx => by simp at hx⟩
theorem Bf.full {w : World} {a : Option Addr} {n c : Nat} {l : List Nat} (h : Bf w (.slice a n c) l) : Bfo w (a, c) := by
  rcases h with ⟨h1, _⟩ | ⟨b, cap, D, h1, h2, h3, h4, _⟩
  · simp only [Value.slice.injEq] at h1
    exact .inl ⟨h1.1, h1.2.2⟩
  · simp only [Value.slice.injEq] at h1
    obtain ⟨rfl, _, rfl⟩ := h1
    exact .inr ⟨b, D, rfl, h2, h4⟩
theorem own_sl (a : Option Addr) (n m : Nat) : (Value.slice a n m).ownBlock = tlB (a, m) := by
  unfold tlB tlV
  cases a <;> rfl
section
variable [Inhabited TV]
variable {w : World} {bb ib tb : Nat} {ty : List Int}
theorem Bt.lts (h : Bt w bb ib tb ty) : bb < w.heap.size ∧ ib < w.heap.size ∧ tb < w.heap.size := by
  obtain ⟨op, ins, tt, hb⟩ := h
  obtain ⟨F, G, H, b1, b2, b3, _⟩ := hb.is
  exact ⟨b1.lt (by decide), b2.lt (by decide), b3.lt (by decide)⟩
theorem Bt.tlq (h : Bt w bb ib tb ty) : Tl w bb := by
  obtain ⟨op, ins, tt, hb⟩ := h
  exact hb.d4
/- all but the encoder's buffers -/
def Bt0 (w : World) (bb ib tb : Nat) (ty : List Int) : Prop := ∃ op ins tt, (∃ F G H, Blk w bb 20 F ∧ Blk w ib 288 G ∧ Blk w tb 24 H ∧ BL F G H ib tb ty op ins tt) ∧ bb ≠ ib ∧ bb ≠ tb ∧ ib ≠ tb
theorem Bt.zero (h : Bt w bb ib tb ty) : Bt0 w bb ib tb ty := by
  obtain ⟨op, ins, tt, hb⟩ := h
  exact ⟨op, ins, tt, hb.is, hb.d1, hb.d2, hb.d3⟩
theorem Bt0.bt (h : Bt0 w bb ib tb ty) (ht : Tl w bb) : Bt w bb ib tb ty := by
  obtain ⟨op, ins, tt, h1, h2, h3, h4⟩ := h
  exact ⟨op, ins, tt, h1, h2, h3, h4, ht⟩
end
theorem Blk.far {w : World} {b n i : Nat} {F : Nat → Value} (h : Blk w b n F) (hi : n ≤ i) (v : Value) : Blk (w.setCell ⟨b, i, none⟩ v) b n F := fun k hk => by
  refine ⟨?_, by rw [World.frozen?_setCell]; exact h.fz hk⟩
  rw [World.cell?_setCell_other _ _ _ _ (by intro e; injection e; omega)]
  exact h.cell hk
theorem Bt0.set {w : World} {bb ib tb i : Nat} {ty : List Int} (h : Bt0 w bb ib tb ty) (hi : 20 ≤ i) (v : Value) : Bt0 (w.setCell ⟨bb, i, none⟩ v) bb ib tb ty := by
  obtain ⟨op, ins, tt, ⟨F, G, H, b1, b2, b3, hl⟩, h2, h3, h4⟩ := h
  exact ⟨op, ins, tt, ⟨F, G, H, b1.far hi _, b2.other (fun e => h2 e.symm) _, b3.other (fun e => h3 e.symm) _, hl⟩, h2, h3, h4⟩
theorem Bt0.keep {w w' : World} {bb ib tb : Nat} {ty : List Int} {P : Nat → Prop} (h : Bt0 w bb ib tb ty) (hk : Kp P w w') (h1 : ¬ P bb) (h2 : ¬ P ib) (h3 : ¬ P tb) : Bt0 w' bb ib tb ty := by
  obtain ⟨op, ins, tt, ⟨F, G, H, b1, b2, b3, hl⟩, e2, e3, e4⟩ := h
  exact ⟨op, ins, tt, ⟨F, G, H, b1.keep hk h1, b2.keep hk h2, b3.keep hk h3, hl⟩, e2, e3, e4⟩
structure Bq (w : World) (bb ib tb : Nat) (t : TV) : Prop where
  bt : ∃ ty, @Bt ⟨t⟩ w bb ib tb ty
  ow : ∀ j, 20 ≤ j → j < 23 → Bfo w (t j)
  ap : ∀ i j, 20 ≤ i → i < 23 → 20 ≤ j → j < 23 → i ≠ j → ∀ k, tlB (t i) = some k → tlB (t j) ≠ some k
  nb : ∀ j, 20 ≤ j → j < 23 → ∀ k, tlB (t j) = some k → k ≠ bb ∧ k ≠ ib ∧ k ≠ tb
def VB (bb ib tb : Nat) (t : TV) (k : Nat) : Prop := k = bb ∨ k = ib ∨ k = tb ∨ ∃ j, 20 ≤ j ∧ j < 23 ∧ tlB (t j) = some k
section
variable {w w' : World} {bb ib tb : Nat} {t : TV}
theorem Bq.lt (h : Bq w bb ib tb t) {k : Nat} (hk : VB bb ib tb t k) : k < w.heap.size := by
  obtain ⟨ty, hb⟩ := h.bt
  have hl := @Bt.lts ⟨t⟩ _ _ _ _ _ hb
  rcases hk with rfl | rfl | rfl | ⟨j, h1, h2, h3⟩
  · exact hl.1
  · exact hl.2.1
  · exact hl.2.2
  · exact (h.ow j h1 h2).lt h3
theorem Bq.keep {P : Nat → Prop} (h : Bq w bb ib tb t) (hk : Kp P w w') (hp : ∀ k, VB bb ib tb t k → ¬ P k) : Bq w' bb ib tb t := by
  obtain ⟨ty, hb⟩ := h.bt
  exact ⟨⟨ty, @Bt.keep ⟨t⟩ _ _ _ _ _ _ _ hb hk (hp _ (.inl rfl)) (hp _ (.inr (.inl rfl))) (hp _ (.inr (.inr (.inl rfl))))⟩, fun j h1 h2 => (h.ow j h1 h2).keep hk (fun k e => hp k (.inr (.inr (.inr ⟨j, h1, h2, e⟩)))), h.ap, h.nb⟩
theorem Bq.decoded (h : Bq w bb ib tb t) (hk : Kp (fun k => k = bb ∨ k = ib ∨ k = tb) w w') (hb : ∃ ty, @Bt ⟨t⟩ w' bb ib tb ty) : Bq w' bb ib tb t :=
  ⟨hb, fun j h1 h2 => (h.ow j h1 h2).keep hk (fun k e e2 => by have := h.nb j h1 h2 k e; omega), h.ap, h.nb⟩
end
theorem secTT_all (M : Mod) : encMod M = [0, 97, 115, 109, 1, 0, 0, 0] ++ headT M ++ midT M ++ tailT M := by
  unfold encMod headT midT tailT
  simp only [secTT, List.append_assoc, List.append_nil]
theorem wr_new (u : World) {v : Value} {l : List Nat} (h : Bf u v l) : Wr (u.alloc (.cells #[v] 115)) u.heap.size v l := by
  have hb := blk_al u #[v] 115
  refine ⟨hb.cell (i := 0) (by simp), hb.fz (i := 0) (by simp), h.keep ((Kp.refl (fun _ => False) u).alloc _) (fun _ _ e => e), fun e => ?_⟩
  have := h.lt e
  omega
/- the three writers, made -/
def BB (t0 t1 t2 : Option Addr × Nat) (k : Nat) : Prop := tlB t0 = some k ∨ tlB t1 = some k ∨ tlB t2 = some k
theorem e3_new {w : World} {a0 a1 a2 : Option Addr} {m0 m1 m2 : Nat} (h0 : Bfo w (a0, m0)) (h1 : Bfo w (a1, m1)) (h2 : Bfo w (a2, m2)) (p01 : ∀ k, tlB (a0, m0) = some k → tlB (a1, m1) ≠ some k) (p02 : ∀ k, tlB (a0, m0) = some k → tlB (a2, m2) ≠ some k) (p12 : ∀ k, tlB (a1, m1) = some k → tlB (a2, m2) ≠ some k) :
    E3 w (BB (a0, m0) (a1, m1) (a2, m2)) (((w.alloc (.cells #[.slice a0 0 m0] 115)).alloc (.cells #[.slice a1 0 m1] 115)).alloc (.cells #[.slice a2 0 m2] 115)) w.heap.size (.slice a0 0 m0) [] (w.heap.size + 1) (.slice a1 0 m1) [] (w.heap.size + 1 + 1) (.slice a2 0 m2) [] := by
  have s1 : (w.alloc (.cells #[.slice a0 0 m0] 115)).heap.size = w.heap.size + 1 := by simp
  have s2 : ((w.alloc (.cells #[.slice a0 0 m0] 115)).alloc (.cells #[.slice a1 0 m1] 115)).heap.size = w.heap.size + 1 + 1 := by simp
  have q : ∀ (u : World) (o : Obj), Kp (fun _ => False) u (u.alloc o) := fun u o => (Kp.refl _ _).alloc _
  have l0 : ∀ k, (Value.slice a0 0 m0).ownBlock = some k → k < w.heap.size := fun k e => h0.lt (own_sl a0 0 m0 ▸ e)
  have l1 : ∀ k, (Value.slice a1 0 m1).ownBlock = some k → k < w.heap.size := fun k e => h1.lt (own_sl a1 0 m1 ▸ e)
  have l2 : ∀ k, (Value.slice a2 0 m2).ownBlock = some k → k < w.heap.size := fun k e => h2.lt (own_sl a2 0 m2 ▸ e)
  have r1 := wr_new _ ((h1.empty).keep (q w (.cells #[.slice a0 0 m0] 115)) (fun _ _ e => e))
  have r2 := wr_new _ (((h2.empty).keep (q w (.cells #[.slice a0 0 m0] 115)) (fun _ _ e => e)).keep (q _ (.cells #[.slice a1 0 m1] 115)) (fun _ _ e => e))
  rw [s1] at r1
  rw [s2] at r2
  refine ⟨(((Kp.refl _ _).alloc _).alloc _).alloc _, ((wr_new w h0.empty).quiet (q _ _)).quiet (q _ _), r1.quiet (q _ _), r2, ⟨by omega, fun e => ?_, fun e => ?_, fun k e e' => ?_⟩, ⟨by omega, fun e => ?_, fun e => ?_, fun k e e' => ?_⟩, ⟨by omega, fun e => ?_, fun e => ?_, fun k e e' => ?_⟩, fun k e => ?_, fun k e => ?_, fun k e => ?_⟩
  · have := l0 _ e; omega
  · have := l1 _ e; omega
  · rw [own_sl] at e e'; exact p01 k e' e
  · have := l0 _ e; omega
  · have := l2 _ e; omega
  · rw [own_sl] at e e'; exact p02 k e' e
  · have := l1 _ e; omega
  · have := l2 _ e; omega
  · rw [own_sl] at e e'; exact p12 k e' e
  · rcases e with e | e
    · exact .inr (by omega)
    · rw [own_sl] at e; exact .inl (.inl e)
  · rcases e with e | e
    · exact .inr (by omega)
    · rw [own_sl] at e; exact .inl (.inr (.inl e))
  · rcases e with e | e
    · exact .inr (by omega)
    · rw [own_sl] at e; exact .inl (.inr (.inr e))
theorem flat_secT {id n : Nat} {l : List Nat} (hn : n = 0 → l = []) : l.length ≤ (secT id n l).length := by
  unfold secT
  split
  · rename_i h
    rw [hn h]
    simp
  · simp only [List.length_cons, List.length_append]
    omega
theorem wr_string {u : World} {b : Nat} {v : Value} {l : List Nat} (h : Wr u b v l) (hne : l ≠ []) (hb : ∀ x ∈ l, x < 256) : (convert 104 9 v).run Tryz.prog u = .ok (.string (bytesOf l)) u := by
  rcases h.f with ⟨_, h2⟩ | ⟨b2, cap, D, h1, h2, h3, h4, h5⟩
  · exact absurd h2 hne
  · subst h1
    have hc := run_convert_bytes_back (P := Tryz.prog) u 104 9 5 ⟨b2, 0, none⟩ cap (l.map UInt8.ofNat) (by kernel_rfl) (by kernel_rfl) (by kernel_rfl) (by
      intro j hj
      have hj2 : j < l.length := by simpa using hj
      rw [add_none, Nat.zero_add, h4.cell (by omega), h5 j l[j] (List.getElem?_eq_getElem hj2)]
      have e3 : ((l.map UInt8.ofNat)[j]'hj).toNat = l[j] := by rw [List.getElem_map, UInt8.toNat_ofNat']; exact Nat.mod_eq_of_lt (hb _ (List.getElem_mem hj2))
      rw [e3])
    rw [List.length_map] at hc
    exact hc
/- the buffers, laid back -/
def tvOf (p q r : Option Addr × Nat) : TV := fun j => if j = 20 then p else if j = 21 then q else r
theorem bq_done {w u4 U : World} {bb ib tb ob sb fb : Nat} {t : TV} {B : Nat → Prop} {aO aS aF : Option Addr} {nO nS nF cO cS cF : Nat} {lo ls lf : List Nat} {ty : List Int}
    (hE : E3 w B u4 ob (.slice aO nO cO) lo sb (.slice aS nS cS) ls fb (.slice aF nF cF) lf) (hq : Bq w bb ib tb t) (hBV : ∀ k, B k → VB bb ib tb t k) (hnB : ∀ k, B k → k ≠ bb ∧ k ≠ ib ∧ k ≠ tb) (K : Kp (fun k => k = bb) u4 U) (hB0 : Bt0 U bb ib tb ty)
    (c20 : U.cell? ⟨bb, 20, none⟩ = some (.slice aO cO cO) ∧ U.frozen? ⟨bb, 20, none⟩ = false) (c21 : U.cell? ⟨bb, 21, none⟩ = some (.slice aS cS cS) ∧ U.frozen? ⟨bb, 21, none⟩ = false) (c22 : U.cell? ⟨bb, 22, none⟩ = some (.slice aF cF cF) ∧ U.frozen? ⟨bb, 22, none⟩ = false) :
    ∃ t', Bq U bb ib tb t' ∧ (∀ k, VB bb ib tb t' k → VB bb ib tb t k ∨ w.heap.size ≤ k) ∧ Kp (fun k => VB bb ib tb t k) w U := by
  have b1 := hq.lt (k := bb) (.inl rfl)
  have b2 := hq.lt (k := ib) (.inr (.inl rfl))
  have b3 := hq.lt (k := tb) (.inr (.inr (.inl rfl)))
  have e20 : tvOf (aO, cO) (aS, cS) (aF, cF) 20 = (aO, cO) := rfl
  have e21 : tvOf (aO, cO) (aS, cS) (aF, cF) 21 = (aS, cS) := rfl
  have e22 : tvOf (aO, cO) (aS, cS) (aF, cF) 22 = (aF, cF) := rfl
  have g : ∀ {P : Nat → Prop}, P 20 → P 21 → P 22 → ∀ j, 20 ≤ j → j < 23 → P j := fun h0 h1 h2 j q1 q2 => by
    rcases (by omega : j = 20 ∨ j = 21 ∨ j = 22) with rfl | rfl | rfl
    · exact h0
    · exact h1
    · exact h2
  have oO : ∀ k, tlB (aO, cO) = some k → B k ∨ w.heap.size ≤ k := fun k e => hE.no k (.inr (by rw [own_sl]; exact e))
  have oS : ∀ k, tlB (aS, cS) = some k → B k ∨ w.heap.size ≤ k := fun k e => hE.ns k (.inr (by rw [own_sl]; exact e))
  have oF : ∀ k, tlB (aF, cF) = some k → B k ∨ w.heap.size ≤ k := fun k e => hE.nf k (.inr (by rw [own_sl]; exact e))
  have nn : ∀ k, B k ∨ w.heap.size ≤ k → k ≠ bb ∧ k ≠ ib ∧ k ≠ tb := fun k e => by
    rcases e with e | e
    · exact hnB k e
    · omega
  have pOS : ∀ k, tlB (aO, cO) = some k → tlB (aS, cS) ≠ some k := fun k e e' => hE.os.d k (by rw [own_sl]; exact e') (by rw [own_sl]; exact e)
  have pOF : ∀ k, tlB (aO, cO) = some k → tlB (aF, cF) ≠ some k := fun k e e' => hE.of.d k (by rw [own_sl]; exact e') (by rw [own_sl]; exact e)
  have pSF : ∀ k, tlB (aS, cS) = some k → tlB (aF, cF) ≠ some k := fun k e e' => hE.sf.d k (by rw [own_sl]; exact e') (by rw [own_sl]; exact e)
  refine ⟨tvOf (aO, cO) (aS, cS) (aF, cF), ⟨⟨ty, @Bt0.bt ⟨tvOf (aO, cO) (aS, cS) (aF, cF)⟩ _ _ _ _ _ hB0 (g c20 c21 c22)⟩, ?_, ?_, ?_⟩, ?_, ?_⟩
  · exact g ((hE.o.f.full).keep K (fun k e e2 => (nn k (oO k e)).1 e2)) ((hE.s.f.full).keep K (fun k e e2 => (nn k (oS k e)).1 e2)) ((hE.f.f.full).keep K (fun k e e2 => (nn k (oF k e)).1 e2))
  · intro i j q1 q2 q3 q4 hij k e e'
    rcases (by omega : i = 20 ∨ i = 21 ∨ i = 22) with rfl | rfl | rfl <;> rcases (by omega : j = 20 ∨ j = 21 ∨ j = 22) with rfl | rfl | rfl
    · exact hij rfl
    · exact pOS k e e'
    · exact pOF k e e'
    · exact pOS k e' e
    · exact hij rfl
    · exact pSF k e e'
    · exact pOF k e' e
    · exact pSF k e' e
    · exact hij rfl
  · exact g (P := fun j => ∀ k, tlB (tvOf (aO, cO) (aS, cS) (aF, cF) j) = some k → k ≠ bb ∧ k ≠ ib ∧ k ≠ tb) (fun k e => nn k (oO k e)) (fun k e => nn k (oS k e)) (fun k e => nn k (oF k e))
  · intro k e
    rcases e with e | e | e | ⟨j, q1, q2, e⟩
    · exact .inl (.inl e)
    · exact .inl (.inr (.inl e))
    · exact .inl (.inr (.inr (.inl e)))
    · have h := g (P := fun j => ∀ k, tlB (tvOf (aO, cO) (aS, cS) (aF, cF) j) = some k → B k ∨ w.heap.size ≤ k) oO oS oF j q1 q2 k e
      rcases h with h | h
      · exact .inl (hBV k h)
      · exact .inr h
  · exact (hE.kp.mono hBV).trans (K.mono (fun k e => .inl e))
structure Bnd (M : Mod) : Prop where
  a1 : (M.types.flatMap encTy).length ≤ 1024
  a2 : (M.imports.flatMap encImp).length ≤ 1024
  a3 : ((M.funcs.map Fn.ty).flatMap encI32).length ≤ 1024
  a6 : (M.globals.flatMap encGlob).length ≤ 1024
  a7 : (M.exports.flatMap encExp).length ≤ 1024
  a9 : (M.elems.flatMap encElm).length ≤ 1024
  a10 : (M.funcs.flatMap encFn).length ≤ 1024
  a11 : (M.datas.flatMap encDat).length ≤ 1024
  l : 8 + (headT M).length + (midT M).length + (tailT M).length ≤ 1024
theorem flat_nil {α : Type} {enc : α → List Nat} {l : List α} (h : l.length = 0) : l.flatMap enc = [] := by
  rw [List.length_eq_zero_iff.1 h]; rfl
theorem enc_bounds {M : Mod} (h : (encMod M).length ≤ 1024) : Bnd M := by
  rw [secTT_all] at h
  simp only [List.length_append, List.length_cons, List.length_nil] at h
  have h1 : (M.types.flatMap encTy).length ≤ (secTx 1 M (M.funcs.map Fn.ty)).length := flat_secT (fun e => flat_nil e)
  have h2 : (M.imports.flatMap encImp).length ≤ (secTx 2 M (M.funcs.map Fn.ty)).length := flat_secT (fun e => flat_nil e)
  have h3 : ((M.funcs.map Fn.ty).flatMap encI32).length ≤ (secTx 3 M (M.funcs.map Fn.ty)).length := flat_secT (fun e => flat_nil e)
  have h6 : (M.globals.flatMap encGlob).length ≤ (secTx 6 M (M.funcs.map Fn.ty)).length := flat_secT (fun e => flat_nil e)
  have h7 : (M.exports.flatMap encExp).length ≤ (secTx 7 M (M.funcs.map Fn.ty)).length := flat_secT (fun e => flat_nil e)
  have h9 : (M.elems.flatMap encElm).length ≤ (secTx 9 M (M.funcs.map Fn.ty)).length := flat_secT (fun e => flat_nil e)
  have h10 : (M.funcs.flatMap encFn).length ≤ (secTx 10 M (M.funcs.map Fn.ty)).length := flat_secT (fun e => flat_nil e)
  have h11 : (M.datas.flatMap encDat).length ≤ (secTx 11 M (M.funcs.map Fn.ty)).length := flat_secT (fun e => flat_nil e)
  have e1 : (headT M).length = (secTx 1 M (M.funcs.map Fn.ty)).length + (secTx 2 M (M.funcs.map Fn.ty)).length + (secTx 3 M (M.funcs.map Fn.ty)).length + (secTx 4 M (M.funcs.map Fn.ty)).length + (secTx 5 M (M.funcs.map Fn.ty)).length := by
    unfold headT; simp only [List.length_append]
  have e2 : (midT M).length = (secTx 6 M (M.funcs.map Fn.ty)).length + (secTx 7 M (M.funcs.map Fn.ty)).length + (secTx 8 M (M.funcs.map Fn.ty)).length + (secTx 9 M (M.funcs.map Fn.ty)).length := by
    unfold midT; simp only [List.length_append]
  have e3 : (tailT M).length = (secTx 10 M (M.funcs.map Fn.ty)).length + (secTx 11 M (M.funcs.map Fn.ty)).length := by
    unfold tailT; simp only [List.length_append]
  exact ⟨by omega, by omega, by omega, by omega, by omega, by omega, by omega, by omega, by omega⟩
section
variable {w : World} {bb ib tb mb : Nat} {t : TV} {M : Mod}
set_option maxHeartbeats 8000000 in
theorem encode_calls (hM : ModOk M) (hR : ∀ f, f ∈ M.funcs → FnRoom f) (hm : Md w mb M) (hE : (encMod M).length ≤ 1024) (hby : ∀ b ∈ encMod M, b < 256) (hq : Bq w bb ib tb t) (hlt : ∀ k, VB bb ib tb t k → k < mb) :
    Calls Tryz.prog 23 #[.pointer (some ⟨bb, 0, none⟩), .pointer (some ⟨mb, 0, none⟩)] w (fun en w' => en = .returned (.string (bytesOf (encMod M))) ∧ ∃ t', Bq w' bb ib tb t' ∧ (∀ k, VB bb ib tb t' k → VB bb ib tb t k ∨ w.heap.size ≤ k) ∧ Kp (fun k => VB bb ib tb t k) w w') := by
  obtain ⟨TX, hTX⟩ : ∃ x, bytesOf (encMod M) = x := ⟨_, rfl⟩
  have HTX : Hid (bytesOf (encMod M) = TX) := hTX
  rw [hTX]
  clear hTX
  obtain ⟨ty, hbt⟩ := hq.bt
  have d4 := @Bt.tlq ⟨t⟩ _ _ _ _ _ hbt
  have HBT : Hid (Bt0 w bb ib tb ty) := @Bt.zero ⟨t⟩ _ _ _ _ _ hbt
  obtain ⟨⟨a0, m0⟩, h20⟩ : ∃ p, t 20 = p := ⟨_, rfl⟩
  obtain ⟨⟨a1, m1⟩, h21⟩ : ∃ p, t 21 = p := ⟨_, rfl⟩
  obtain ⟨⟨a2, m2⟩, h22⟩ : ∃ p, t 22 = p := ⟨_, rfl⟩
  have c20 : w.cell? ⟨bb, 20, none⟩ = some (.slice a0 m0 m0) := by have h := (d4 20 (by decide) (by decide)).1; rw [show (@default TV ⟨t⟩) 20 = t 20 from rfl, h20] at h; exact h
  have c21 : w.cell? ⟨bb, 21, none⟩ = some (.slice a1 m1 m1) := by have h := (d4 21 (by decide) (by decide)).1; rw [show (@default TV ⟨t⟩) 21 = t 21 from rfl, h21] at h; exact h
  have c22 : w.cell? ⟨bb, 22, none⟩ = some (.slice a2 m2 m2) := by have h := (d4 22 (by decide) (by decide)).1; rw [show (@default TV ⟨t⟩) 22 = t 22 from rfl, h22] at h; exact h
  have f20 := (d4 20 (by decide) (by decide)).2
  have f21 := (d4 21 (by decide) (by decide)).2
  have f22 := (d4 22 (by decide) (by decide)).2
  have o0 := hq.ow 20 (by decide) (by decide)
  have o1 := hq.ow 21 (by decide) (by decide)
  have o2 := hq.ow 22 (by decide) (by decide)
  have p01 := hq.ap 20 21 (by decide) (by decide) (by decide) (by decide) (by decide)
  have p02 := hq.ap 20 22 (by decide) (by decide) (by decide) (by decide) (by decide)
  have p12 := hq.ap 21 22 (by decide) (by decide) (by decide) (by decide) (by decide)
  rw [h20] at o0 p01 p02
  rw [h21] at o1 p01 p12
  rw [h22] at o2 p02 p12
  have HE0 : Hid _ := e3_new o0 o1 o2 p01 p02 p12
  have hBv : ∀ k, BB (a0, m0) (a1, m1) (a2, m2) k → VB bb ib tb t k := fun k e => by
    rcases e with e | e | e
    · exact .inr (.inr (.inr ⟨20, by decide, by decide, by rw [h20]; exact e⟩))
    · exact .inr (.inr (.inr ⟨21, by decide, by decide, by rw [h21]; exact e⟩))
    · exact .inr (.inr (.inr ⟨22, by decide, by decide, by rw [h22]; exact e⟩))
  obtain ⟨ta, ia, fa, ga, xa, ea, da, hl⟩ := hm.later (B := BB (a0, m0) (a1, m1) (a2, m2)) (fun k e => hlt k (hBv k e))
  have HL : Hid _ := hl
  have HM : Hid (ModOk M) := hM
  have HR : Hid (∀ f, f ∈ M.funcs → FnRoom f) := hR
  have HE : Hid ((encMod M).length ≤ 1024) := hE
  have HBY : Hid (∀ b ∈ encMod M, b < 256) := hby
  have HBV : Hid _ := hBv
  have HQ : Hid (Bq w bb ib tb t) := hq
  have hnB : ∀ k, BB (a0, m0) (a1, m1) (a2, m2) k → k ≠ bb ∧ k ≠ ib ∧ k ≠ tb := fun k e => by
    rcases e with e | e | e
    · exact hq.nb 20 (by decide) (by decide) k (by rw [h20]; exact e)
    · exact hq.nb 21 (by decide) (by decide) k (by rw [h21]; exact e)
    · exact hq.nb 22 (by decide) (by decide) k (by rw [h22]; exact e)
  have HNB : Hid (∀ k, BB (a0, m0) (a1, m1) (a2, m2) k → k ≠ bb ∧ k ≠ ib ∧ k ≠ tb) := hnB
  have hbl := lt_of_cell c20
  have HF : Hid (w.frozen? ⟨bb, 20, none⟩ = false ∧ w.frozen? ⟨bb, 21, none⟩ = false ∧ w.frozen? ⟨bb, 22, none⟩ = false) := ⟨f20, f21, f22⟩
  have HC20 : Hid (∃ v, w.cell? ⟨bb, 20, none⟩ = some v) := ⟨_, c20⟩
  have HC21 : Hid (∃ v, w.cell? ⟨bb, 21, none⟩ = some v) := ⟨_, c21⟩
  have HC22 : Hid (∃ v, w.cell? ⟨bb, 22, none⟩ = some v) := ⟨_, c22⟩
  have c21b : (w.alloc (.cells #[.slice a0 0 m0] 115)).cell? ⟨bb, 21, none⟩ = some (.slice a1 m1 m1) := by rw [((Kp.refl (fun _ => False) w).alloc _).cell (p := ⟨bb, 21, none⟩) hbl (fun e => e)]; exact c21
  have c22b : ((w.alloc (.cells #[.slice a0 0 m0] 115)).alloc (.cells #[.slice a1 0 m1] 115)).cell? ⟨bb, 22, none⟩ = some (.slice a2 m2 m2) := by rw [(((Kp.refl (fun _ => False) w).alloc _).alloc _).cell (p := ⟨bb, 22, none⟩) hbl (fun e => e)]; exact c22
  have hb8 := HE0.out.o.bytesL [0, 97, 115, 109, 1, 0, 0, 0] (by simp)
  simp only [World.size_alloc] at hb8
  have HBD : Hid (Bnd M) := enc_bounds hE
  clear hM hR hm hE hby hq hlt hBv hl hbt d4 o0 o1 o2 p01 p02 p12 hnB f20 f21 f22
  go_enter Tryz.func23, Tryz.ntmps23
  go_wp2_with fail
  refine Calls.mono (show Calls Tryz.prog 66 #[.pointer (some ⟨w.heap.size, 0, none⟩), .slice (some ⟨w.heap.size + 1 + 1 + 1, 0, none⟩) 8 8] ((((w.alloc (.cells #[.slice a0 0 m0] 115)).alloc (.cells #[.slice a1 0 m1] 115)).alloc (.cells #[.slice a2 0 m2] 115)).alloc (.cells #[.int .u8 0, .int .u8 97, .int .u8 115, .int .u8 109, .int .u8 1, .int .u8 0, .int .u8 0, .int .u8 0] 5)) _ from hb8) ?_
  rintro en u1 ⟨rfl, v1, r1, e1⟩
  have HE1 : Hid _ := HE0.out.stepO r1 e1
  clear r1 e1 hb8 HE0 c20 c21b c22b c21 c22
  have hc := encodeHead_calls HM.out HL.out HE1.out HBD.out.a1 HBD.out.a2 HBD.out.a3 (by have := HBD.out.l; simp only [List.length_append, List.length_cons, List.length_nil]; omega)
  go_wp2_with fail
  refine hc.mono ?_
  rintro en u2 ⟨rfl, vo2, vs2, e2⟩
  have HE2 : Hid _ := e2
  clear hc e2 HE1
  have hc := encodeMid_calls HM.out HL.out HE2.out HBD.out.a6 HBD.out.a7 HBD.out.a9 (by have := HBD.out.l; simp only [List.length_append, List.length_cons, List.length_nil]; omega)
  go_wp2_with fail
  refine hc.mono ?_
  rintro en u3 ⟨rfl, vo3, vs3, e3⟩
  have HE3 : Hid _ := e3
  clear hc e3 HE2
  have hc := encodeTail_calls HM.out HR.out HL.out HE3.out HBD.out.a10 HBD.out.a11 (by have := HBD.out.l; simp only [List.length_append, List.length_cons, List.length_nil]; omega)
  go_wp2_with fail
  refine hc.mono ?_
  rintro en u4 ⟨rfl, vo4, vs4, vf4, lf4, e4⟩
  have eM := secTT_all M
  rw [List.nil_append, ← eM] at e4
  have hne : encMod M ≠ [] := by rw [eM]; simp
  have hcv := wr_string e4.o hne HBY.out
  obtain ⟨aO, nO, cO, hvO, hlO⟩ : ∃ a n c, vo4 = .slice a n c ∧ n ≤ c := by
    rcases e4.o.f with ⟨h1, _⟩ | ⟨b2, cap, D, h1, _, h3, _⟩
    · exact ⟨none, 0, 0, h1, Nat.le_refl _⟩
    · exact ⟨_, _, _, h1, h3⟩
  obtain ⟨aS, nS, cS, hvS, hlS⟩ : ∃ a n c, vs4 = .slice a n c ∧ n ≤ c := by
    rcases e4.s.f with ⟨h1, _⟩ | ⟨b2, cap, D, h1, _, h3, _⟩
    · exact ⟨none, 0, 0, h1, Nat.le_refl _⟩
    · exact ⟨_, _, _, h1, h3⟩
  obtain ⟨aF, nF, cF, hvF, hlF⟩ : ∃ a n c, vf4 = .slice a n c ∧ n ≤ c := by
    rcases e4.f.f with ⟨h1, _⟩ | ⟨b2, cap, D, h1, _, h3, _⟩
    · exact ⟨none, 0, 0, h1, Nat.le_refl _⟩
    · exact ⟨_, _, _, h1, h3⟩
  subst hvO hvS hvF
  have HE4 : Hid _ := e4
  rw [HTX.out] at hcv
  clear hc e4 HE3 eM hne
  have cO4 := HE4.out.o.c
  have nbb : ¬ BB (a0, m0) (a1, m1) (a2, m2) bb := fun e => (HNB.out bb e).1 rfl
  have z20 : u4.frozen? ⟨bb, 20, none⟩ = false := by rw [HE4.out.kp.frozen (p := ⟨bb, 20, none⟩) hbl nbb]; exact HF.out.1
  have hcells : ∃ v, u4.cell? ⟨bb, 20, none⟩ = some v := by rw [HE4.out.kp.cell (p := ⟨bb, 20, none⟩) hbl nbb]; exact HC20.out
  obtain ⟨ov20, o20⟩ := hcells
  go_wp2_with fail
  go_still_tail 13, (by kernel_rfl)
  go_wp2_with fail
  have k5 : Kp (fun k => k = bb) u4 (u4.setCell ⟨bb, 20, none⟩ (.slice aO cO cO)).drew := ((Kp.refl (fun k => k = bb) u4).setCell (p := ⟨bb, 20, none⟩) (.inl rfl) _).drew
  have x20 : (u4.setCell ⟨bb, 20, none⟩ (.slice aO cO cO)).drew.cell? ⟨bb, 20, none⟩ = some (.slice aO cO cO) := World.cell?_setCell_same _ _ _ o20
  have y20 : (u4.setCell ⟨bb, 20, none⟩ (.slice aO cO cO)).drew.frozen? ⟨bb, 20, none⟩ = false := (World.frozen?_setCell _ _ _ _).trans z20
  have z21 : (u4.setCell ⟨bb, 20, none⟩ (.slice aO cO cO)).drew.frozen? ⟨bb, 21, none⟩ = false := by
    refine (World.frozen?_setCell _ _ _ _).trans ?_
    rw [HE4.out.kp.frozen (p := ⟨bb, 21, none⟩) hbl nbb]; exact HF.out.2.1
  have z22 : (u4.setCell ⟨bb, 20, none⟩ (.slice aO cO cO)).drew.frozen? ⟨bb, 22, none⟩ = false := by
    refine (World.frozen?_setCell _ _ _ _).trans ?_
    rw [HE4.out.kp.frozen (p := ⟨bb, 22, none⟩) hbl nbb]; exact HF.out.2.2
  obtain ⟨ov21, o21⟩ : ∃ v, (u4.setCell ⟨bb, 20, none⟩ (.slice aO cO cO)).drew.cell? ⟨bb, 21, none⟩ = some v := by
    have h : u4.cell? ⟨bb, 21, none⟩ = w.cell? ⟨bb, 21, none⟩ := HE4.out.kp.cell (p := ⟨bb, 21, none⟩) hbl nbb
    obtain ⟨v, hv⟩ := HC21.out
    exact ⟨v, (World.cell?_setCell_other _ _ _ _ (by intro e; injection e; omega)).trans (h.trans hv)⟩
  obtain ⟨ov22, o22⟩ : ∃ v, (u4.setCell ⟨bb, 20, none⟩ (.slice aO cO cO)).drew.cell? ⟨bb, 22, none⟩ = some v := by
    have h : u4.cell? ⟨bb, 22, none⟩ = w.cell? ⟨bb, 22, none⟩ := HE4.out.kp.cell (p := ⟨bb, 22, none⟩) hbl nbb
    obtain ⟨v, hv⟩ := HC22.out
    exact ⟨v, (World.cell?_setCell_other _ _ _ _ (by intro e; injection e; omega)).trans (h.trans hv)⟩
  have HB5 : Hid (Bt0 (u4.setCell ⟨bb, 20, none⟩ (.slice aO cO cO)).drew bb ib tb ty) := ((HBT.out.keep HE4.out.kp nbb (fun e => (HNB.out ib e).2.1 rfl) (fun e => (HNB.out tb e).2.2 rfl)).set (by decide) _).keep ((Kp.refl (fun _ => False) _).drew) (fun e => e) (fun e => e) (fun e => e)
  have cS5 : (u4.setCell ⟨bb, 20, none⟩ (.slice aO cO cO)).drew.cell? ⟨w.heap.size + 1, 0, none⟩ = some (.slice aS nS cS) := by
    rw [k5.cell (p := ⟨w.heap.size + 1, 0, none⟩) HE4.out.s.lt (by show ¬ w.heap.size + 1 = bb; omega)]; exact HE4.out.s.c
  have cF5 : (u4.setCell ⟨bb, 20, none⟩ (.slice aO cO cO)).drew.cell? ⟨w.heap.size + 1 + 1, 0, none⟩ = some (.slice aF nF cF) := by
    rw [k5.cell (p := ⟨w.heap.size + 1 + 1, 0, none⟩) HE4.out.f.lt (by show ¬ w.heap.size + 1 + 1 = bb; omega)]; exact HE4.out.f.c
  generalize (u4.setCell ⟨bb, 20, none⟩ (.slice aO cO cO)).drew = u5 at k5 x20 y20 z21 z22 o21 o22 HB5 cS5 cF5 ⊢
  have hsl5 := lt_of_cell cS5
  have hfl5 := lt_of_cell cF5
  have HK5 : Hid (Kp (fun k => k = bb) u4 u5) := k5
  have HX20 : Hid (u5.cell? ⟨bb, 20, none⟩ = some (.slice aO cO cO) ∧ u5.frozen? ⟨bb, 20, none⟩ = false) := ⟨x20, y20⟩
  have HZ22 : Hid (u5.frozen? ⟨bb, 22, none⟩ = false ∧ ∃ v, u5.cell? ⟨bb, 22, none⟩ = some v) := ⟨z22, _, o22⟩
  have HCF : Hid (u5.cell? ⟨w.heap.size + 1 + 1, 0, none⟩ = some (.slice aF nF cF)) := cF5
  clear cO4 o20 z20 k5 x20 y20 z22 o22 cF5 hcv
  go_still_tail 13, (by kernel_rfl)
  go_wp2_with fail
  have k6 : Kp (fun k => k = bb) u5 (u5.setCell ⟨bb, 21, none⟩ (.slice aS cS cS)).drew := ((Kp.refl (fun k => k = bb) u5).setCell (p := ⟨bb, 21, none⟩) (.inl rfl) _).drew
  have x21 : (u5.setCell ⟨bb, 21, none⟩ (.slice aS cS cS)).drew.cell? ⟨bb, 21, none⟩ = some (.slice aS cS cS) := World.cell?_setCell_same _ _ _ o21
  have y21 : (u5.setCell ⟨bb, 21, none⟩ (.slice aS cS cS)).drew.frozen? ⟨bb, 21, none⟩ = false := (World.frozen?_setCell _ _ _ _).trans z21
  have HX6 : Hid ((u5.setCell ⟨bb, 21, none⟩ (.slice aS cS cS)).drew.cell? ⟨bb, 20, none⟩ = some (.slice aO cO cO) ∧ (u5.setCell ⟨bb, 21, none⟩ (.slice aS cS cS)).drew.frozen? ⟨bb, 20, none⟩ = false) :=
    ⟨(World.cell?_setCell_other _ _ _ _ (by intro e; injection e; omega)).trans HX20.out.1, (World.frozen?_setCell _ _ _ _).trans HX20.out.2⟩
  have z22 : (u5.setCell ⟨bb, 21, none⟩ (.slice aS cS cS)).drew.frozen? ⟨bb, 22, none⟩ = false := (World.frozen?_setCell _ _ _ _).trans HZ22.out.1
  obtain ⟨ov22, o22⟩ : ∃ v, (u5.setCell ⟨bb, 21, none⟩ (.slice aS cS cS)).drew.cell? ⟨bb, 22, none⟩ = some v := by
    obtain ⟨v, hv⟩ := HZ22.out.2
    exact ⟨v, (World.cell?_setCell_other _ _ _ _ (by intro e; injection e; omega)).trans hv⟩
  have HB6 : Hid (Bt0 (u5.setCell ⟨bb, 21, none⟩ (.slice aS cS cS)).drew bb ib tb ty) := (HB5.out.set (by decide) _).keep ((Kp.refl (fun _ => False) _).drew) (fun e => e) (fun e => e) (fun e => e)
  have cF6 : (u5.setCell ⟨bb, 21, none⟩ (.slice aS cS cS)).drew.cell? ⟨w.heap.size + 1 + 1, 0, none⟩ = some (.slice aF nF cF) := by
    rw [k6.cell (p := ⟨w.heap.size + 1 + 1, 0, none⟩) hfl5 (by show ¬ w.heap.size + 1 + 1 = bb; omega)]; exact HCF.out
  generalize (u5.setCell ⟨bb, 21, none⟩ (.slice aS cS cS)).drew = u6 at k6 x21 y21 z22 o22 HB6 cF6 HX6 ⊢
  have HK6 : Hid (Kp (fun k => k = bb) u4 u6) := HK5.out.trans k6
  have HX21 : Hid (u6.cell? ⟨bb, 21, none⟩ = some (.slice aS cS cS) ∧ u6.frozen? ⟨bb, 21, none⟩ = false) := ⟨x21, y21⟩
  clear cS5 o21 z21 k6 x21 y21 HB5 HZ22 HCF HX20 hsl5 hfl5 HK5
  go_still_tail 13, (by kernel_rfl)
  go_wp2_with fail
  have k7 : Kp (fun k => k = bb) u6 (u6.setCell ⟨bb, 22, none⟩ (.slice aF cF cF)).drew := ((Kp.refl (fun k => k = bb) u6).setCell (p := ⟨bb, 22, none⟩) (.inl rfl) _).drew
  refine bodyPost_ret (v := .string TX) (by simp [results, Tryz.results23, go_sem]) rfl ?_
  refine ⟨rfl, bq_done (ty := ty) HE4.out HQ.out HBV.out HNB.out (HK6.out.trans k7) ((HB6.out.set (by decide) _).keep ((Kp.refl (fun _ => False) _).drew) (fun e => e) (fun e => e) (fun e => e)) ?_ ?_ ?_⟩
  · exact ⟨(World.cell?_setCell_other _ _ _ _ (by intro e; injection e; omega)).trans HX6.out.1, (World.frozen?_setCell _ _ _ _).trans HX6.out.2⟩
  · exact ⟨(World.cell?_setCell_other _ _ _ _ (by intro e; injection e; omega)).trans HX21.out.1, (World.frozen?_setCell _ _ _ _).trans HX21.out.2⟩
  · exact ⟨World.cell?_setCell_same _ _ _ o22, (World.frozen?_setCell _ _ _ _).trans z22⟩
end
end Go.Proofs.Qxb6500275aGreatDoor
