import Derived.Test.Qxb6500275aGreatDoorHo9
set_option maxRecDepth 100000
set_option linter.unusedVariables false
set_option linter.unusedSimpArgs false
namespace Go.Proofs.Qxb6500275aGreatDoor
open Go Go.RowKit
/- a row's arguments -/
def hexN (v : Nat) : List Nat := (hexL v 16).map (fun c => c.toNat)
def rowN : List Nat → List Nat
  | [] => []
  | v :: vs => hexN v ++ [44] ++ rowN vs
def byV (l : List Nat) : List Value := l.map (fun (c : Nat) => Value.int .u8 (c : Int))
theorem hexN_len (v : Nat) : (hexN v).length = 16 := by unfold hexN; rw [List.length_map, hexL_length]
theorem byV_hexN (v : Nat) : byV (hexN v) = hexC v 16 := by unfold byV hexN hexC; rw [List.map_map, Int.toNat_natCast]; rfl
theorem rowN_len : ∀ l : List Nat, (rowN l).length = 17 * l.length
  | [] => rfl
  | v :: vs => by rw [rowN, List.length_append, List.length_append, hexN_len, rowN_len vs]; simp; omega
theorem rowN_snoc (v : Nat) : ∀ l : List Nat, rowN (l ++ [v]) = rowN l ++ (hexN v ++ [44])
  | [] => by simp [rowN]
  | u :: us => by rw [List.cons_append, rowN, rowN_snoc v us, rowN]; simp
/- bytes laid behind others in the trace's block -/
structure Tb (w : World) (tb len : Nat) (C : Nat → Value) (l : List Nat) : Prop where
  is : ∃ D, Blk w tb 864 D ∧ (∀ j, j < len → D j = C j) ∧ ∀ j x, (byV l)[j]? = some x → D (len + j) = x
theorem Tb.keep {S : Nat → Prop} {w w' : World} {tb len : Nat} {C : Nat → Value} {l : List Nat} (h : Tb w tb len C l) (hk : Kp S w w') (hs : ¬ S tb) : Tb w' tb len C l := by
  obtain ⟨D, h1, h2⟩ := h.is
  exact ⟨D, h1.keep hk hs, h2⟩
/- an append in the trace's room -/
theorem Tb.app {W : World} {tb len : Nat} {C : Nat → Value} {l : List Nat} (h : Tb W tb len C l) (ty : TypeId) (a : Addr) (c n : Nat) (news : List Nat) (hn : news.length = n) (hc : ∀ j x, (byV news)[j]? = some x → W.cell? (a.add j) = some x) (hr : len + l.length + n ≤ 864) :
    ∃ w', (Builtin.append_ #[104, 104] ty #[.slice (some ⟨tb, 0, none⟩) (len + l.length) 864, .slice (some a) n c]).run Tryz.prog W = .ok (.slice (some ⟨tb, 0, none⟩) (len + l.length + n) 864) w' ∧ Kp (fun k => k = tb) W w' ∧ Tb w' tb len C (l ++ news) := by
  obtain ⟨D, h1, h2, h3⟩ := h.is
  have hbl : (byV news).length = n := by unfold byV; rw [List.length_map]; exact hn
  obtain ⟨b', cap', w', hr', hA⟩ := app_u8 W ty h1 (len := len + l.length) (by omega) a c (byV news) hc (fun u hu => by
    unfold byV at hu
    obtain ⟨x, _, rfl⟩ := List.mem_map.1 hu
    rfl) (by omega)
  rw [hbl] at hr'
  obtain ⟨rfl, rfl⟩ := hA.room (by omega)
  refine ⟨w', hr', hA.kp, ?_⟩
  obtain ⟨D', d1, d2, d3⟩ := hA.blk
  have hll : (byV l).length = l.length := by unfold byV; rw [List.length_map]
  refine ⟨D', d1, fun j hj => (d2 j (by omega)).trans (h2 j hj), fun j x hx => ?_⟩
  unfold byV at hx
  rw [List.map_append] at hx
  by_cases e : j < l.length
  · rw [List.getElem?_append_left (by simpa using e)] at hx
    rw [d2 _ (by omega)]
    exact h3 j x hx
  · rw [List.getElem?_append_right (by simp; omega), List.length_map] at hx
    have := d3 (j - l.length) x hx
    rw [show len + l.length + (j - l.length) = len + j by omega] at this
    exact this
section
variable {w w' : World} {ab xb tb len : Nat} {C : Nat → Value}
structure Rw1 (w u : World) (xb tb len : Nat) (C : Nat → Value) (vs : List Nat) (i : Nat) : Prop where
  kp : Kp (fun k => k = tb ∨ k = xb) w u
  tr : Tb u tb len C (rowN (vs.take i))
  cx : u.cell? ⟨xb, 0, none⟩ = some (.slice (some ⟨tb, 0, none⟩) (len + 17 * i) 864)
  gx : u.frozen? ⟨xb, 0, none⟩ = false
theorem Rw1.step {w1 w6 : World} {vs : List Nat} {i v : Nat} {D : Nat → Value} (h : Rw1 w w1 xb tb len C vs i) (hA : Ap w1 w6 tb (len + 17 * i) 864 D (hexC v 16) tb 864) (hB : Blk w1 tb 864 D) (hB2 : ∀ j, j < len → D j = C j) (hB3 : ∀ j x, (byV (rowN (vs.take i)))[j]? = some x → D (len + j) = x) (hv : vs[i]? = some v) (hlen : (rowN (vs.take i)).length = 17 * i)
    (cx : w6.cell? ⟨xb, 0, none⟩ = some (.slice (some ⟨tb, 0, none⟩) (len + 17 * i) 864)) (gx : w6.frozen? ⟨xb, 0, none⟩ = false) (hr : len + 17 * i + 17 ≤ 864) (d1 : tb ≠ xb) :
    ∃ w8, (Builtin.append_ #[104, 104] 104 #[.slice (some ⟨tb, 0, none⟩) (len + 17 * i + 16) 864, .slice (some ⟨w6.heap.size, 0, none⟩) 1 1]).run Tryz.prog ((w6.setCell ⟨xb, 0, none⟩ (.slice (some ⟨tb, 0, none⟩) (len + 17 * i + 16) 864)).alloc (.cells #[.int .u8 44] 5)) = .ok (.slice (some ⟨tb, 0, none⟩) (len + 17 * i + 16 + 1) 864) w8 ∧ w8.cell? ⟨xb, 0, none⟩ = some (.slice (some ⟨tb, 0, none⟩) (len + 17 * i + 16) 864) ∧ w8.frozen? ⟨xb, 0, none⟩ = false ∧ Rw1 w (w8.setCell ⟨xb, 0, none⟩ (.slice (some ⟨tb, 0, none⟩) (len + 17 * i + 16 + 1) 864)) xb tb len C vs (i + 1) := by
  have hxl : xb < w6.heap.size := lt_of_cell cx
  obtain ⟨D', d2, d3, d4⟩ := hA.blk
  have hT6 : Tb w6 tb len C (rowN (vs.take i) ++ hexN v) := by
    refine ⟨D', d2, fun j hj => (d3 j (by omega)).trans (hB2 j hj), fun j x hx => ?_⟩
    unfold byV at hx
    rw [List.map_append] at hx
    by_cases e : j < 17 * i
    · rw [List.getElem?_append_left (by rw [List.length_map]; omega)] at hx
      rw [d3 _ (by omega)]
      exact hB3 j x hx
    · rw [List.getElem?_append_right (by rw [List.length_map]; omega), List.length_map, hlen] at hx
      have := d4 (j - 17 * i) x (by rw [← byV_hexN]; exact hx)
      rw [show len + 17 * i + (j - 17 * i) = len + j by omega] at this
      exact this
  have kS : Kp (fun k => k = xb) w6 ((w6.setCell ⟨xb, 0, none⟩ (.slice (some ⟨tb, 0, none⟩) (len + 17 * i + 16) 864)).alloc (.cells #[.int .u8 44] 5)) := ((Kp.refl (fun k => k = xb) w6).setCell (p := ⟨xb, 0, none⟩) (.inl rfl) _).alloc _
  have hT7 := hT6.keep kS d1
  have hsz : (w6.setCell ⟨xb, 0, none⟩ (.slice (some ⟨tb, 0, none⟩) (len + 17 * i + 16) 864)).heap.size = w6.heap.size := by simp
  have hl2 : (rowN (vs.take i) ++ hexN v).length = 17 * i + 16 := by rw [List.length_append, hlen, hexN_len]
  obtain ⟨w8, h1, h2, h3⟩ := hT7.app 104 ⟨w6.heap.size, 0, none⟩ 1 1 [44] rfl (fun j x hx => by
    cases j with
    | zero =>
      simp [byV] at hx
      subst hx
      rw [add_non, World.cell?_alloc_at _ _ _ _ hsz.symm]; rfl
    | succ j => simp [byV] at hx) (by omega)
  rw [hl2] at h1
  have hb8 : Kp (fun k => k = tb) ((w6.setCell ⟨xb, 0, none⟩ (.slice (some ⟨tb, 0, none⟩) (len + 17 * i + 16) 864)).alloc (.cells #[.int .u8 44] 5)) w8 := h2
  have hx7 : xb < ((w6.setCell ⟨xb, 0, none⟩ (.slice (some ⟨tb, 0, none⟩) (len + 17 * i + 16) 864)).alloc (.cells #[.int .u8 44] 5)).heap.size := by simp; omega
  have c8 : w8.cell? ⟨xb, 0, none⟩ = some (.slice (some ⟨tb, 0, none⟩) (len + 17 * i + 16) 864) := by
    rw [hb8.cell (p := ⟨xb, 0, none⟩) hx7 (fun e => d1 e.symm), World.cell?_alloc_past _ _ _ (by show xb < _; rw [hsz]; exact hxl)]
    exact World.cell?_setCell_same _ _ _ cx
  have g8 : w8.frozen? ⟨xb, 0, none⟩ = false := by
    rw [hb8.frozen (p := ⟨xb, 0, none⟩) hx7 (fun e => d1 e.symm)]
    have k7 : Kp (fun _ => False) (w6.setCell ⟨xb, 0, none⟩ (.slice (some ⟨tb, 0, none⟩) (len + 17 * i + 16) 864)) ((w6.setCell ⟨xb, 0, none⟩ (.slice (some ⟨tb, 0, none⟩) (len + 17 * i + 16) 864)).alloc (.cells #[.int .u8 44] 5)) := (Kp.refl _ _).alloc _
    rw [k7.frozen (p := ⟨xb, 0, none⟩) (by simp; omega) (fun h => h), World.frozen?_setCell]
    exact gx
  refine ⟨w8, h1, c8, g8, ?_, ?_, ?_, ?_⟩
  · exact ((h.kp.trans (hA.kp.mono (fun _ e => .inl e))).trans ((kS.mono (fun _ e => .inr e)).trans (hb8.mono (fun _ e => .inl e)))).setCell (p := ⟨xb, 0, none⟩) (.inl (.inr rfl)) _
  · have e : vs.take (i + 1) = vs.take i ++ [v] := by rw [List.take_add_one, hv]; rfl
    rw [e, rowN_snoc, ← List.append_assoc]
    exact h3.keep ((Kp.refl (fun k => k = xb) w8).setCell (p := ⟨xb, 0, none⟩) (.inl rfl) _) d1
  · rw [show len + 17 * (i + 1) = len + 17 * i + 16 + 1 by omega]
    exact World.cell?_setCell_same _ _ _ c8
  · rw [World.frozen?_setCell]; exact g8
set_option maxHeartbeats 4000000 in
theorem row_calls {ao : Option Addr} {n cc : Nat} {vs : List Nat} (hv : vs.length = n) (hvr : ∀ v, v ∈ vs → v < 18446744073709551616) (ca : w.cell? ⟨ab, 0, none⟩ = some (.slice ao n cc)) (cs : 0 < n → ∃ sk o, ao = some ⟨sk, o, none⟩ ∧ sk ≠ tb ∧ sk ≠ xb ∧ ∀ (i v : Nat), vs[i]? = some v → w.cell? ⟨sk, o + i, none⟩ = some (.int .u64 (v : Int)))
    (h : Rw1 w w xb tb len C vs 0) (hr : len + 17 * n ≤ 864) (hn4 : n ≤ 4) (d1 : tb ≠ xb) : Calls Tryz.prog 179 #[.pointer (some ⟨ab, 0, none⟩), .pointer (some ⟨xb, 0, none⟩)] w (fun en w' => en = .returned (.tuple #[]) ∧ Rw1 w w' xb tb len C vs n) := by
  have HR : Hid _ := h
  have HC : Hid _ := cs
  have HV : Hid _ := hv
  have HVR : Hid _ := hvr
  clear h cs hv hvr
  go_enter Tryz.func179, Tryz.ntmps179
  go_wp2
  go_loopw [3, 6] (fun _ ii w1 => ∃ (i : Nat) (u : World), u = w1 ∧ i ≤ n ∧ ii = .int .i64 i ∧ Hid (Rw1 w u xb tb len C vs i)) (fun _ ii _ => n + 1 - (intOf ii).toNat)
  case atStart => exact ⟨0, _, rfl, by omega, rfl, HR.out⟩
  case round =>
    clear HR
    obtain ⟨i, w1, e, hi, rfl, HR⟩ := hrel
    subst e
    by_cases hlt : i < n
    · obtain ⟨sk, o, rfl, k1, k2, hcs⟩ := HC.out (by omega)
      obtain ⟨v, hvi⟩ : ∃ v, vs[i]? = some v := ⟨_, List.getElem?_eq_getElem (by rw [HV.out]; exact hlt)⟩
      have hvr := HVR.out v (List.mem_of_getElem? hvi)
      have hlt' : (i : Int) < (n : Int) := by omega
      have c0 := hcs i v hvi
      have hsl : sk < w.heap.size := lt_of_cell c0
      have cv : w1.cell? ⟨sk, o + i, none⟩ = some (.int .u64 (v : Int)) := by
        rw [HR.out.kp.cell (p := ⟨sk, o + i, none⟩) hsl (fun h => by rcases h with h | h; exact k1 h; exact k2 h)]; exact c0
      have cx := HR.out.cx
      have gx := HR.out.gx
      obtain ⟨D, b1, b2, b3⟩ := HR.out.tr.is
      have hlen : (rowN (vs.take i)).length = 17 * i := by rw [rowN_len, List.length_take, HV.out]; congr 1; omega
      have hx := hex16_calls (len := len + 17 * i) b1 (by omega) (b1.lt (by decide)) v hvr (by omega)
      have HB : Hid _ := b1
      have HB2 : Hid _ := b2
      have HB3 : Hid _ := b3
      have HVI : Hid _ := hvi
      clear b1 b2 b3 hcs c0 hvi
      go_wp2_with fail
      refine hx.mono ?_
      rintro en w6 ⟨b', cap', rfl, hA⟩
      obtain ⟨rfl, rfl⟩ := hA.room (by rw [hexC_len]; omega)
      have HA : Hid _ := hA
      have cx6 : w6.cell? ⟨xb, 0, none⟩ = some (.slice (some ⟨b', 0, none⟩) (len + 17 * i) 864) := by
        rw [hA.kp.cell (p := ⟨xb, 0, none⟩) (lt_of_cell cx) (fun e => d1 e.symm)]; exact cx
      have gx6 : w6.frozen? ⟨xb, 0, none⟩ = false := by
        rw [hA.kp.frozen (p := ⟨xb, 0, none⟩) (lt_of_cell cx) (fun e => d1 e.symm)]; exact gx
      clear hA hx
      have hstep : ∃ w8, (Builtin.append_ #[104, 104] 104 #[.slice (some ⟨b', 0, none⟩) (len + 17 * i + 16) 864, .slice (some ⟨w6.heap.size, 0, none⟩) 1 1]).run Tryz.prog ((w6.setCell ⟨xb, 0, none⟩ (.slice (some ⟨b', 0, none⟩) (len + 17 * i + 16) 864)).alloc (.cells #[.int .u8 44] 5)) = .ok (.slice (some ⟨b', 0, none⟩) (len + 17 * i + 16 + 1) 864) w8 ∧ w8.cell? ⟨xb, 0, none⟩ = some (.slice (some ⟨b', 0, none⟩) (len + 17 * i + 16) 864) ∧ w8.frozen? ⟨xb, 0, none⟩ = false ∧ Rw1 w (w8.setCell ⟨xb, 0, none⟩ (.slice (some ⟨b', 0, none⟩) (len + 17 * i + 16 + 1) 864)) xb b' len C vs (i + 1) := by
        exact HR.out.step HA.out HB.out HB2.out HB3.out HVI.out hlen cx6 gx6 (by omega) d1
      obtain ⟨w8, hr8, c8, g8, h8⟩ := hstep
      have H8 : Hid _ := h8
      clear h8
      go_wp2_with (at_builtin; refine wpList_app rfl _ _ 104 rfl hr8 ?_)
      go_roundw
      case rel => exact ⟨i + 1, _, rfl, by omega, rfl, H8.out⟩
      case measure => simp [intOf]; omega
    · have hin : i = n := by omega
      subst hin
      go_wp2
      go_end0
      go_light
      exact ⟨rfl, HR.out⟩
end
end Go.Proofs.Qxb6500275aGreatDoor
