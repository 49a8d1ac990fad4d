import Derived.Test.Qxb6500275aGreatDoorWr8
import Derived.Deep.Light
import Derived.Deep.RegionHeld3
set_option maxRecDepth 100000
set_option linter.unusedVariables false
set_option linter.unusedSimpArgs false
set_option linter.unusedSectionVars false
namespace Go.Proofs.Qxb6500275aGreatDoor
open Go Go.RowKit
variable [Inhabited TV]
section
variable {w : World} {b : Nat} {s : ByteArray} {p e bb ib tb : Nat} {ty : List Int} {opn : List Nat} {ins : List Ins} {tabs : List Int}
theorem Bn.cells (h : Bn w bb ib tb ty opn ins tabs) : w.cell? ⟨bb, 18, none⟩ = some (.slice (some ⟨tb, 0, none⟩) 24 24) ∧ w.cell? ⟨bb, 19, none⟩ = some (.int .i64 tabs.length) ∧ w.frozen? ⟨bb, 19, none⟩ = false ∧ tabs.length ≤ 24 ∧ (∀ i, i < 24 → (∃ v, w.cell? ⟨tb, i, none⟩ = some v) ∧ w.frozen? ⟨tb, i, none⟩ = false) := by
  obtain ⟨⟨F, G, H, b1, b2, b3, hl⟩, _⟩ := h
  exact ⟨by rw [b1.cell (by decide), hl.sT], by rw [b1.cell (by decide), hl.nL], b1.fz (by decide), hl.lL, fun i hi => ⟨⟨_, b3.cell hi⟩, b3.fz hi⟩⟩
def tableS2 (s : ByteArray) (p e op : Nat) (tabs : List Int) : RO :=
  match countS s p e (24 - (tabs.length : Int) - 1) with
  | .error f => .error f
  | .ok (k, q) => match tabsL s e (k.toNat + 1) q tabs with
    | .error f => .error f
    | .ok (r, t) => .ok (⟨op, tabs.length, k + 1⟩, r, t)
structure Own (w1 : World) (n : Nat) (v0 v1 v2 : Value) : Prop where
  a : ∀ i, i < 3 → (w1.cell? ⟨n, i, none⟩).isSome = true ∧ w1.frozen? ⟨n, i, none⟩ = false
  c0 : w1.cell? ⟨n + 1, 0, none⟩ = some v0
  c1 : w1.cell? ⟨n + 1, 1, none⟩ = some v1
  c2 : w1.cell? ⟨n + 1, 2, none⟩ = some v2
theorem Own.keep {w1 w2 : World} {n : Nat} {v0 v1 v2 : Value} {S : Nat → Prop} (h : Own w1 n v0 v1 v2) (hk : Kp S w1 w2) (h1 : ¬ S n) (h2 : ¬ S (n + 1)) : Own w2 n v0 v1 v2 := by
  have ln : n + 1 < w1.heap.size := lt_of_cell h.c0
  have e : ∀ o, w2.cell? ⟨n + 1, o, none⟩ = w1.cell? ⟨n + 1, o, none⟩ := fun o => hk.cell (p := ⟨n + 1, o, none⟩) ln h2
  refine ⟨fun i hi => ?_, (e 0).trans h.c0, (e 1).trans h.c1, (e 2).trans h.c2⟩
  rw [hk.cell (p := ⟨n, i, none⟩) (by show n < _; omega) h1, hk.frozen (p := ⟨n, i, none⟩) (by show n < _; omega) h1]
  exact h.a i hi
theorem own_first {w2 : World} {n : Nat} {v0 v1 v2 x y : Value} (g1 : ∀ i, w2.cell? ⟨n, i, none⟩ = (#[v0, v1, v2] : Array Value)[i]?) (g2 : ∀ i, w2.frozen? ⟨n, i, none⟩ = false) {u0 u1 u2 : Value} (g3 : ∀ i, w2.cell? ⟨n + 1, i, none⟩ = (#[u0, u1, u2] : Array Value)[i]?) :
    Own ((w2.setCell ⟨n + 1, 1, none⟩ x).setCell ⟨n + 1, 2, none⟩ y) n u0 x y := by
  have i1 : (w2.cell? ⟨n + 1, 1, none⟩).isSome = true := by rw [g3]; rfl
  have i2 : ((w2.setCell ⟨n + 1, 1, none⟩ x).cell? ⟨n + 1, 2, none⟩).isSome = true := some_set _ _ _ _ (by rw [g3]; rfl)
  refine ⟨fun i hi => ⟨some_set _ _ _ _ (some_set _ _ _ _ (three_some g1 rfl i hi)), by simp [g2]⟩, ?_, ?_, ?_⟩
  · rw [cell_set _ _ _ _ i2, if_neg (by simp), cell_set _ _ _ _ i1, if_neg (by simp), g3]; rfl
  · rw [cell_set _ _ _ _ i2, if_neg (by simp), cell_set _ _ _ _ i1, if_pos rfl]
  · rw [cell_set _ _ _ _ i2, if_pos rfl]
theorem RP.both {α : Type} {enc : α → Value} {o : R α} {en : Ending} {w' : World} (h : RP enc o b s e bb w en w') : (∃ c a, o = .error (c, a) ∧ Kp (· = b) w w' ∧ en = fault c a) ∨ (∃ v q, o = .ok (v, q) ∧ Kp (· = b) w w' ∧ en = .returned (enc v) ∧ Rd w' b s q e bb) := by
  match o, h with
  | .error (c, a), h => exact .inl ⟨c, a, rfl, h⟩
  | .ok (v, q), h => exact .inr ⟨v, q, rfl, h⟩
theorem calls_two {α : Type} {enc : α → Value} {o : R α} {f : Nat} {args : Array Value} {Post : Ending → World → Prop} (h : Calls Tryz.prog f args w (RP enc o b s e bb w)) (h1 : ∀ c a w4, o = .error (c, a) → Kp (· = b) w w4 → Post (fault c a) w4)
    (h2 : ∀ v q w4, o = .ok (v, q) → Kp (· = b) w w4 → Rd w4 b s q e bb → Post (.returned (enc v)) w4) : Calls Tryz.prog f args w Post := by
  refine h.mono ?_
  intro en w4 hP
  rcases hP.both with ⟨c, a, hv, hK4, rfl⟩ | ⟨v, q, hv, hK4, rfl, hR4⟩
  · exact h1 c a w4 hv hK4
  · exact h2 v q w4 hv hK4 hR4
theorem tab_step {w4 : World} {t : List Int} {n r : Nat} {y : Int} {v0 v1 v2 : Value} (hn : t.length = n) (hl : n < 24) (hB : Bn w4 bb ib tb ty opn ins t) (hR : Rd w4 b s r e bb) (hO : Own w4 w.heap.size v0 v1 v2) (hK : Kp (fun m => m = b ∨ m = bb ∨ m = tb) w w4) (hne : b ≠ bb ∧ b ≠ ib ∧ b ≠ tb) (hbl : b < w.heap.size) (hL : bb < w.heap.size ∧ ib < w.heap.size ∧ tb < w.heap.size) :
    Rd ((w4.setCell ⟨tb, n, none⟩ (.int .u32 y)).setCell ⟨bb, 19, none⟩ (.int .i64 ((n : Int) + 1))) b s r e bb ∧ Bn ((w4.setCell ⟨tb, n, none⟩ (.int .u32 y)).setCell ⟨bb, 19, none⟩ (.int .i64 ((n : Int) + 1))) bb ib tb ty opn ins (t ++ [y]) ∧
    Own ((w4.setCell ⟨tb, n, none⟩ (.int .u32 y)).setCell ⟨bb, 19, none⟩ (.int .i64 ((n : Int) + 1))) w.heap.size v0 v1 v2 ∧ Kp (fun m => m = b ∨ m = bb ∨ m = tb) w ((w4.setCell ⟨tb, n, none⟩ (.int .u32 y)).setCell ⟨bb, 19, none⟩ (.int .i64 ((n : Int) + 1))) := by
  subst hn
  have hk : Kp (fun m => m = bb ∨ m = tb) w4 ((w4.setCell ⟨tb, t.length, none⟩ (.int .u32 y)).setCell ⟨bb, 19, none⟩ (.int .i64 ((t.length : Int) + 1))) := ((Kp.refl _ w4).setCell (p := ⟨tb, t.length, none⟩) (.inl (.inr rfl)) _).setCell (p := ⟨bb, 19, none⟩) (.inl (.inl rfl)) _
  refine ⟨hR.keep hk (by omega), hB.pushTab y hl, hO.keep hk (by omega) (by omega), hK.trans (hk.mono (fun m h => .inr h))⟩
theorem tab_ok {s : ByteArray} {e q q' j k r : Nat} {tabs t : List Int} {y : Int} (hT : tabsL s e (k + 1) q tabs = tabsL s e (k + 1 - j) q' t) (hv : u32S s q' e = .ok (y, r)) (hj : j ≤ k) : Hid (tabsL s e (k + 1) q tabs = tabsL s e (k + 1 - (j + 1)) r (t ++ [y])) := by
  show _ = _
  rw [hT, show k + 1 - j = k - j + 1 by omega, tabsL, hv]
  dsimp only
  rw [show k - j = k + 1 - (j + 1) by omega]
theorem tab_end {s : ByteArray} {p e q q' k : Nat} {tabs t : List Int} (hu : countS s p e (24 - (tabs.length : Int) - 1) = .ok ((k : Int), q)) (hT : tabsL s e (k + 1) q tabs = tabsL s e (k + 1 - (k + 1)) q' t) : tableS2 s p e 14 tabs = .ok (⟨14, tabs.length, (k : Int) + 1⟩, q', t) := by
  unfold tableS2
  rw [hu]
  dsimp only
  rw [Int.toNat_natCast, hT, Nat.sub_self]
  rfl
theorem tab_err {s : ByteArray} {p e q q' j k : Nat} {tabs t : List Int} {c : Int} {a : Nat} (hu : countS s p e (24 - (tabs.length : Int) - 1) = .ok ((k : Int), q)) (hT : tabsL s e (k + 1) q tabs = tabsL s e (k + 1 - j) q' t) (hv : u32S s q' e = .error (c, a)) (hj : j ≤ k) : tableS2 s p e 14 tabs = .error (c, a) := by
  unfold tableS2
  rw [hu]
  dsimp only
  rw [Int.toNat_natCast, hT, show k + 1 - j = k - j + 1 by omega, tabsL, hv]
set_option maxHeartbeats 8000000 in
theorem rest_tab (h : Rd w b s p e bb) (hB : Bn w bb ib tb ty opn ins tabs) (hne : b ≠ bb ∧ b ≠ ib ∧ b ≠ tb) (op : Nat) (ho : op = 14) (at_ : Nat) :
    Calls Tryz.prog 180 #[.pointer (some ⟨b, 0, none⟩), .int .u8 op, .int .i64 at_] w (QP (tableS2 s p e op tabs) b s e bb ib tb ty opn ins w) := by
  have HR : Hid _ := h
  have HB : Hid _ := hB
  have hbl : b < w.heap.size := lt_of_cell h.c0
  have hle := h.le
  have hes := h.es
  have hsz := h.sz
  obtain ⟨c0, c1, c2, c3, f1, f2, _, _, _⟩ := id h
  obtain ⟨t18, t19, tf, tl, tA⟩ := hB.cells
  have hbbl : bb < w.heap.size := hB.lts.1
  have HL : Hid _ := hB.lts
  clear h hB tA
  subst ho
  cases hu : countS s p e (24 - (tabs.length : Int) - 1) with
  | error f =>
    obtain ⟨c, a⟩ := f
    have HU : Hid _ := hu
    clear hu
    go_enter Tryz.func180, Tryz.ntmps180
    go_wp2_with fail
    refine (count_calls (by exact HR.out.keep (S := fun _ => False) (((Kp.refl _ w).alloc _).alloc _) (fun h => h)) (24 - (tabs.length : Int) - 1) (by omega)).mono ?_
    rintro en w2 hP
    obtain ⟨hK, rfl⟩ := hP.err HU.out
    go_wp2
    go_light
    exact ⟨rfl, QP.mkErr (c := c) (a := a) (by unfold tableS2; rw [HU.out]) (old_S hK) rfl (HB.out.newer hne hK)⟩
  | ok x =>
    obtain ⟨k, q⟩ := x
    have hk := (countS_ok hu).1
    obtain ⟨k, rfl⟩ := Int.eq_ofNat_of_zero_le hk.1
    have HU : Hid _ := hu
    clear hu
    go_enter Tryz.func180, Tryz.ntmps180
    go_wp2_with fail
    refine (count_calls (by exact HR.out.keep (S := fun _ => False) (((Kp.refl _ w).alloc _).alloc _) (fun h => h)) (24 - (tabs.length : Int) - 1) (by omega)).mono ?_
    rintro en w2 hP
    obtain ⟨hK, rfl, hR2⟩ := hP.ok HU.out
    unfold encI
    obtain ⟨g1, g2, g3, g4⟩ := two_new hK hbl
    have hB2 := HB.out.newer hne hK
    obtain ⟨u18, u19, uf, _, _⟩ := hB2.cells
    have HB2 : Hid _ := hB2
    clear hB2 c0 c1 c2 c3 f1 f2 t18 t19 tf
    go_wp2
    have hown : Own ((w2.setCell ⟨w.heap.size + 1, 1, none⟩ (.int .u32 (tabs.length : Int))).setCell ⟨w.heap.size + 1, 2, none⟩ (.int .u64 ((k : Int) + 1))) w.heap.size (.int .u8 14) (.int .u32 (tabs.length : Int)) (.int .u64 ((k : Int) + 1)) := own_first g1 g2 g3
    have hkw : Kp (fun m => w.heap.size ≤ m) w2 ((w2.setCell ⟨w.heap.size + 1, 1, none⟩ (.int .u32 (tabs.length : Int))).setCell ⟨w.heap.size + 1, 2, none⟩ (.int .u64 ((k : Int) + 1))) := ((Kp.refl _ w2).setCell (.inl (Nat.le_succ _)) _).setCell (.inl (Nat.le_succ _)) _
    generalize hw3 : (w2.setCell ⟨w.heap.size + 1, 1, none⟩ (.int .u32 (tabs.length : Int))).setCell ⟨w.heap.size + 1, 2, none⟩ (.int .u64 ((k : Int) + 1)) = w3 at *
    clear hw3 g1 g2 g3 g4 u18 u19 uf
    have HO : Hid _ := hown
    have HR3 : Hid _ := hR2.keep hkw (by omega)
    have HB3 : Hid _ := HB2.out.keep hkw (by have := HL.out; omega) (by have := HL.out; omega) (by have := HL.out; omega)
    have HK3 : Hid _ := kp_new (old_S (bb := bb) (tb := tb) hK) hkw (Kp.refl _ _)
    clear hown hkw hK hR2 hP
    go_loopw [12] (fun i w1 => ∃ (j q' : Nat) (t : List Int), j ≤ k + 1 ∧ i = .int .i64 j ∧ t.length = tabs.length + j ∧ Rd w1 b s q' e bb ∧ Bn w1 bb ib tb ty opn ins t ∧ Own w1 w.heap.size (.int .u8 14) (.int .u32 (tabs.length : Int)) (.int .u64 ((k : Int) + 1)) ∧ Kp (fun m => m = b ∨ m = bb ∨ m = tb) w w1 ∧ Hid (tabsL s e (k + 1) q tabs = tabsL s e (k + 1 - j) q' t)) (fun i _ => k + 1 - (intOf i).toNat)
    case atStart => exact ⟨0, q, tabs, by omega, rfl, rfl, HR3.out, HB3.out, HO.out, HK3.out, rfl⟩
    case round =>
      obtain ⟨j, q', t, hj, rfl, ht, hRj, hBj, hOj, hKj, HT⟩ := hrel
      have hlj := hBj.lts
      have hol := hOj.c0
      obtain ⟨v18, v19, vf, vl, vA⟩ := hBj.cells
      have HRj : Hid _ := hRj
      have HBj : Hid _ := hBj
      have HOj : Hid _ := hOj
      have HKj : Hid _ := hKj
      clear hRj hBj hOj hKj hol
      have HT2 : Hid _ := ht
      by_cases hlt : j ≤ k
      · obtain ⟨⟨v0, hv0⟩, hvf⟩ := vA t.length (by omega)
        obtain ⟨n, hn⟩ : ∃ n, t.length = n := ⟨_, rfl⟩
        have hn24 : n < 24 := by omega
        have hn24' : (n : Int) < 24 := by omega
        have h024 : (0 : Int) ≤ (n : Int) := by omega
        rw [hn] at v19 hv0 hvf
        have HN : Hid _ := hn
        have hd2 : ¬ bb = tb := HBj.out.d2
        have hd2' : ¬ tb = bb := fun h => HBj.out.d2 h.symm
        clear hn ht vA vl
        go_wp2
        go_region_with (first | (go_at_call 113; refine calls_two (u32_calls (by exact HRj.out.drew)) (fun c a w4 hv hK4 => (show bodyPost Tryz.prog Tryz.f180 (QP (tableS2 s p e 14 tabs) b s e bb ib tb ty opn ins w) (Exit.panic [{ v := .iface 96 (.agg #[.int .i64 c, .int .i64 a]), recovered := false }]) _ w4 from ⟨rfl, QP.mkErr (c := c) (a := a) (tab_err HU.out HT.out hv hlt) (HKj.out.drew.trans (Kp.one hK4 (.inl rfl))) rfl (HBj.out.drew.keep (S := (· = b)) hK4 (fun h => hne.1 h.symm) (fun h => hne.2.1 h.symm) (fun h => hne.2.2 h.symm))⟩)) ?_; rintro y r w4 hv hK4 hR4; have HV : Hid _ := hv; have hy := (u32S_ok hv).1; clear hv; unfold encU; have k18 : w4.cell? ⟨bb, 18, none⟩ = some (.slice (some ⟨tb, 0, none⟩) 24 24) := (hK4.cell (p := ⟨bb, 18, none⟩) hlj.1 (fun h => hne.1 h.symm)).trans v18; have k19 : w4.cell? ⟨bb, 19, none⟩ = some (.int .i64 n) := (hK4.cell (p := ⟨bb, 19, none⟩) hlj.1 (fun h => hne.1 h.symm)).trans v19; have kt : w4.cell? ⟨tb, n, none⟩ = some v0 := (hK4.cell (p := ⟨tb, n, none⟩) hlj.2.2 (fun h => hne.2.2 h.symm)).trans hv0; have kf : w4.frozen? ⟨tb, n, none⟩ = false := (hK4.frozen (p := ⟨tb, n, none⟩) hlj.2.2 (fun h => hne.2.2 h.symm)).trans hvf; have kf9 : w4.frozen? ⟨bb, 19, none⟩ = false := (hK4.frozen (p := ⟨bb, 19, none⟩) hlj.1 (fun h => hne.1 h.symm)).trans vf))
        all_goals go_wp2
        all_goals go_light
        all_goals
          have hB4 := HBj.out.drew.keep hK4 (fun h => hne.1 h.symm) (fun h => hne.2.1 h.symm) (fun h => hne.2.2 h.symm)
          have hO4 := (HOj.out.keep (Kp.refl (fun _ => False) _).drew (fun h => h) (fun h => h)).keep hK4 (by show ¬ w.heap.size = b; omega) (by show ¬ w.heap.size + 1 = b; omega)
          have hK5 : Kp (fun m => m = b ∨ m = bb ∨ m = tb) w w4 := HKj.out.drew.trans (Kp.one hK4 (.inl rfl))
          obtain ⟨z1, z2, z3, z4⟩ := tab_step HN.out hn24 hB4 hR4 hO4 hK5 hne hbl HL.out (y := y)
          exact ⟨⟨j + 1, r, t ++ [y], by omega, by go_num, by rw [List.length_append, HT2.out]; simp; omega, z1, z2, z3, z4, tab_ok HT.out HV.out hlt⟩, by simp [intOf]; omega⟩
      · have hjk : j = k + 1 := by omega
        subst hjk
        obtain ⟨o1, o2, o3, o4⟩ := id HOj.out
        obtain ⟨i0, i0f⟩ := o1 0 (by decide)
        obtain ⟨i1, i1f⟩ := o1 1 (by decide)
        obtain ⟨i2, i2f⟩ := o1 2 (by decide)
        obtain ⟨x0, hx0⟩ := Option.isSome_iff_exists.1 i0
        obtain ⟨x1, hx1⟩ := Option.isSome_iff_exists.1 i1
        obtain ⟨x2, hx2⟩ := Option.isSome_iff_exists.1 i2
        clear o1 i0 i1 i2 vA v18 v19 vf ht
        go_wp2
        go_light
        exact rest_close (i := ⟨14, tabs.length, (k : Int) + 1⟩) rfl rfl (tab_end HU.out HT.out) ⟨hbl, HL.out.1, HL.out.2.1, HL.out.2.2⟩ HKj.out HRj.out HBj.out (Kp.refl _ _) (fun j hj => (HOj.out.a j hj).1)
end
end Go.Proofs.Qxb6500275aGreatDoor
