import Derived.Test.Qxb6500275aGreatDoorSec0
import Derived.Deep.Light
set_option maxRecDepth 100000
set_option linter.unusedVariables false
set_option linter.unusedSimpArgs false
set_option linter.unusedSectionVars false
namespace Go.Proofs.Qxb6500275aGreatDoor
open Go Go.RowKit
variable [Inhabited TV]
def Z103 : Array Value := #[.int .u32 0]
theorem mk103 (w : World) (n : Nat) (hn : n ≤ 24) : (Instr.makeSlice 103 (.int .i64 (n : Int)) (.int .i64 (n : Int))).run Tryz.prog w = .ok (.slice (some ⟨w.heap.size, 0, none⟩) n n) (w.alloc (.cells (madeCells Z103 (n * 1)) 127)) :=
  make_n2 w 103 127 n 1 4 Z103 (by kernel_rfl) (by kernel_rfl) (by kernel_rfl) (by omega) (by omega)
section
variable {α β : Type} {RR : Rel α} {RI : Rel β} {w w1 w2 w3 : World} {b : Nat} {s : ByteArray} {p q q2 e bb ib tb mb : Nat} {ty : List Int} {k n sz k2 m sz2 : Nat} {z cur z2 cur2 : Nat → Value} {l : List α} {l2 : List β} {M : Mod}
theorem Lp.klt (h : Lp RR w w1 b s q e bb ib tb ty k n 4 z l cur) (hl : l.length < n) : k < w1.heap.size := lt_of_cell (h.rw.cell hl (c := 0) (by decide)).1
/- rows within a row -/
theorem Lp.inner (h : Lp RR w w1 b s q e bb ib tb ty k n sz z l cur) (Z : Array Value) (hZ : Z.size = sz2) (h0 : 0 < sz2) (el : Nat) : Lp RI w1 (w1.alloc (.cells (madeCells Z (m * sz2)) el)) b s q e bb ib tb ty w1.heap.size m sz2 (fun c => Z[c]!) [] (fun c => Z[c]!) := by
  have hk : Kp (fun _ => False) w1 (w1.alloc (.cells (madeCells Z (m * sz2)) el)) := (Kp.refl _ _).alloc _
  obtain ⟨op, ins, t, hB⟩ := h.bt
  have hl := hB.lts
  exact ⟨h.rd.keep hk (fun h => h), h.bt.keep hk (fun h => h) (fun h => h) (fun h => h), rw_made RI w1 _ m sz2 el Z hZ h0, (Kp.refl _ _).alloc _, ⟨lt_of_cell h.rd.c0, hl.1, hl.2.1, hl.2.2, Nat.le_refl _⟩, h.ne⟩
theorem Lp.outer (hR : RowOk RR) (h : Lp RR w w1 b s q e bb ib tb ty k n sz z l cur) (hI : Lp RI w1 w2 b s q2 e bb ib tb ty k2 m sz2 z2 l2 cur2) : Lp RR w w2 b s q2 e bb ib tb ty k n sz z l cur := by
  have hlt := h.lt
  exact ⟨hI.rd, hI.bt, h.rw.keep hR hI.kp (by unfold S4; omega) (fun j hj => by unfold S4 at hj; omega), h.kp.trans hI.kp, hlt, h.ne⟩
theorem Lp.errIn {X : RM} (h : Lp RR w w1 b s q e bb ib tb ty k n sz z l cur) (hI : Lp RI w1 w2 b s q2 e bb ib tb ty k2 m sz2 z2 l2 cur2) {c : Int} {a : Nat} (hk : Kp (· = b) w2 w3) (hX : X = .error (c, a)) : SecP X b s e bb ib tb mb w (fault c a) w3 := by
  have hne := h.ne
  exact SecP.mkErr hX ((h.kp.trans hI.kp).trans (hk.mono fun j hj => .inl hj)).s4 rfl (hI.bt.keep hk (fun e => hne.1 e.symm) (fun e => hne.2.1 e.symm) (fun e => hne.2.2 e.symm))
end
def Z82 : Array Value := #[.int .u8 0, .int .u32 0, .int .u64 0, .slice none 0 0]
theorem mk82 (w : World) (n : Nat) (hn : n ≤ 3) : (Instr.makeSlice 82 (.int .i64 (n : Int)) (.int .i64 (n : Int))).run Tryz.prog w = .ok (.slice (some ⟨w.heap.size, 0, none⟩) n n) (w.alloc (.cells (madeCells Z82 (n * 4)) 136)) :=
  make_n2 w 82 136 n 4 40 Z82 (by kernel_rfl) (by kernel_rfl) (by kernel_rfl) (by omega) (by omega)
section
variable {w : World} {b : Nat} {s : ByteArray} {p e bb ib tb mb : Nat} {ty : List Int} {M : Mod}
set_option maxHeartbeats 4000000 in
theorem elems_calls (h : Dc w b s p e bb ib tb mb ty M) : Calls Tryz.prog 60 #[.pointer (some ⟨b, 0, none⟩), .pointer (some ⟨mb, 0, none⟩)] w (SecP (sec9 s p e M ty) b s e bb ib tb mb w) := by
  have HD : Hid _ := h
  have hbl : b < w.heap.size := lt_of_cell h.rd.c0
  have hml : mb < w.heap.size := h.md.lt
  have hbm : b < mb := h.lt.1
  obtain ⟨X, hX⟩ : ∃ X, sec9 s p e M ty = X := ⟨_, rfl⟩
  have HS : Hid (X = bindR (countS s p e 3) fun x => bindR (rowsL (elmRow s e) x.1.toNat x.2 []) fun x => .ok ({ M with elems := pick x.1 M.elems }, ty, x.2)) := by
    show _ = _
    rw [← hX]
    exact bindR_assoc _ _ _
  rw [hX]
  clear h hX
  go_enter Tryz.func60, Tryz.ntmps60
  go_wp2_with fail
  refine RP.step HS (count_calls HD.out.rd 3 (by omega)) (fun c a w4 hX hK => ⟨rfl, HD.out.err hK hX⟩) ?_
  clear HS
  intro n q w2 hn HS hK2 hR2
  have hn6 := (countS_ok hn.out).1
  obtain ⟨n, rfl⟩ := Int.eq_ofNat_of_zero_le hn6.1
  unfold encI
  dsimp only [Int.toNat_natCast] at HS
  clear hn
  by_cases h0 : n = 0
  · subst h0
    go_wp2
    go_end0
    exact SecP.mkOk HS.out hK2.sd rfl hR2 (HD.out.btOf hK2) (HD.out.mdOf hK2 (fun k h => .inl h))
  · go_wp2
    rw [mk82 w2 n (by omega)]
    have hL0 := Lp.first (R := elmR) (n := n) (sz := 4) HD.out hK2 hR2 Z82 rfl (by decide) 136
    obtain ⟨k, hk⟩ : ∃ k, w2.heap.size = k := ⟨_, rfl⟩
    have hkm : mb < k := by have := hK2.size; omega
    rw [hk] at hL0 ⊢
    generalize w2.alloc (.cells (madeCells Z82 (n * 4)) 136) = w3 at *
    clear hk hK2 hR2
    go_wp2
    go_loopw [6] (fun ii w1 => ∃ (i q' : Nat) (l : List Elm), i ≤ n ∧ ii = .int .i64 i ∧ l.length = i ∧ Lp (elmR) w w1 b s q' e bb ib tb ty k n 4 (fun c => Z82[c]!) l (fun c => Z82[c]!) ∧ Hid (X = bindR (rowsL (elmRow s e) (n - i) q' l) fun x => .ok ({ M with elems := pick x.1 M.elems }, ty, x.2))) (fun ii _ => n - (intOf ii).toNat)
    case atStart => exact ⟨0, q, [], by omega, rfl, rfl, hL0, HS⟩
    case round =>
      clear hL0 HS
      obtain ⟨i, q', l, hi, rfl, hl, hLi, HS⟩ := hrel
      have HL : Hid _ := hLi
      have HN : Hid _ := hl
      by_cases hlt : i < n
      · have hln : l.length < n := by omega
        clear hl hLi
        rw [show n - i = n - (i + 1) + 1 by omega] at HS
        dsimp only [rowsL, elmRow, vecS] at HS
        simp only [bindR_assoc] at HS
        go_wp2_with fail
        refine HL.out.step (mb := mb) elmR_ok HS (fixed_calls HL.out.rd 0 (by decide)) (fun c a w4 h => ⟨rfl, h⟩) ?_
        clear HS HL
        intro v1 qv1 w4 hv1 HS HL
        unfold encN
        dsimp only at HS
        go_wp2_with fail
        refine HL.out.conStep (mb := mb) elmR_ok HS (fun c a w4 h => ⟨rfl, h⟩) ?_
        clear HS HL
        intro v2 qv2 w5 hv2 HS HL
        unfold Ins.val
        dsimp only at HS
        have hc0 := HL.out.rw.cell hln (c := 0) (by decide)
        have hc1 := HL.out.rw.cell hln (c := 1) (by decide)
        have hc2 := HL.out.rw.cell hln (c := 2) (by decide)
        have hL5 := (((HL.out.set elmR_ok elm_pure hln (c := 0) (by decide) (.int .u8 (v2.op : Int))).set elmR_ok elm_pure hln (c := 1) (by decide) (.int .u32 v2.x)).set elmR_ok elm_pure hln (c := 2) (by decide) (.int .u64 v2.y))
        rw [HN.out] at hc0 hc1 hc2 hL5
        rw [Nat.add_zero] at hc0 hL5
        obtain ⟨hc0, hf0⟩ := hc0
        obtain ⟨hc1, hf1⟩ := hc1
        obtain ⟨hc2, hf2⟩ := hc2
        clear HL
        have HL : Hid _ := hL5
        clear hL5
        go_wp2_with fail
        generalize ((w5.setCell ⟨k, i * 4, none⟩ (.int .u8 (v2.op : Int))).setCell ⟨k, i * 4 + 1, none⟩ (.int .u32 v2.x)).setCell ⟨k, i * 4 + 2, none⟩ (.int .u64 v2.y) = w6 at HL ⊢
        clear hc0 hf0 hc1 hf1 hc2 hf2
        refine HL.out.step (mb := mb) elmR_ok HS (count_calls HL.out.rd 6 (by decide)) (fun c a w4 h => ⟨rfl, h⟩) ?_
        clear HS HL
        intro v3 qv3 w7 hv3 HS HL
        unfold encI
        dsimp only at HS
        have hb3 := (countS_ok hv3.out).1
        obtain ⟨m, rfl⟩ := Int.eq_ofNat_of_zero_le hb3.1
        rw [Int.toNat_natCast] at HS
        clear hv3
        by_cases hm0 : m = 0
        · subst hm0
          go_wp2
          go_light
          refine ⟨⟨i + 1, qv3, l ++ [(⟨v2, []⟩ : Elm)], by omega, by go_num, by rw [List.length_append, HN.out]; rfl, HL.out.push (x := (⟨v2, []⟩ : Elm)) elm_pure hln ⟨⟨rfl, rfl, rfl⟩, Ls.nil _ _ _ _⟩, HS⟩, by simp [intOf]; omega⟩
        · go_wp2
          rw [mk103 w7 m (by omega)]
          have hI0 := HL.out.inner (RI := pureRel u32P) (m := m) (sz2 := 1) Z103 rfl (by decide) 127
          obtain ⟨k2, hk2⟩ : ∃ k2, w7.heap.size = k2 := ⟨_, rfl⟩
          rw [hk2] at hI0 ⊢
          generalize w7.alloc (.cells (madeCells Z103 (m * 1)) 127) = w8 at *
          have hkk : k < k2 := by rw [← hk2]; exact HL.out.klt hln
          have hc3 := HL.out.rw.cell hln (c := 3) (by decide)
          clear hk2
          go_wp2
          go_loopw [9] (fun jj w1 => ∃ (j q' : Nat) (l2 : List Int), j ≤ m ∧ jj = .int .i64 j ∧ l2.length = j ∧ Lp (pureRel u32P) w7 w1 b s q' e bb ib tb ty k2 m 1 (fun c => Z103[c]!) l2 (fun c => Z103[c]!) ∧ Hid (X = bindR (rowsL (tiRow s e) (m - j) q' l2) fun c => bindR (.ok ((⟨v2, c.1⟩ : Elm), c.2)) fun x => bindR (rowsL (elmRow s e) (n - (i + 1)) x.2 (l ++ [x.1])) fun x => .ok ({ M with elems := pick x.1 M.elems }, ty, x.2))) (fun jj _ => m - (intOf jj).toNat)
          case atStart => exact ⟨0, qv3, [], by omega, rfl, rfl, hI0, HS⟩
          case round =>
            clear hI0 HS
            obtain ⟨j, q', l2, hj, rfl, hl2, hLj, HS⟩ := hrel
            have HI : Hid _ := hLj
            have HN2 : Hid _ := hl2
            by_cases hjm : j < m
            · have hln2 : l2.length < m := by omega
              clear hl2 hLj
              rw [show m - j = m - (j + 1) + 1 by omega] at HS
              dsimp only [rowsL, tiRow] at HS
              simp only [bindR_assoc] at HS
              go_wp2_with fail
              refine RP.step HS (u32_calls HI.out.rd) (fun c a w4 hX hK => ⟨rfl, HL.out.errIn HI.out hK hX⟩) ?_
              clear HS
              intro v q1 w9 hv HS hK9 hR9
              have hL9 := HI.out.read (pureRel_ok _) hK9 hR9
              unfold encU
              dsimp only at HS
              have hc0 := hL9.rw.cell hln2 (c := 0) (by decide)
              have hL5 := hL9.set (pureRel_ok _) u32_pure hln2 (c := 0) (by decide) (.int .u32 v)
              rw [HN2.out] at hc0 hL5
              rw [Nat.add_zero, Nat.mul_one] at hc0 hL5
              obtain ⟨hc0, hf0⟩ := hc0
              have HI2 : Hid _ := hL5
              clear hL5 hL9 hK9 hR9 hv HI
              go_wp2
              go_light
              exact ⟨⟨j + 1, q1, l2 ++ [v], by omega, by go_num, by rw [List.length_append, HN2.out]; rfl, HI2.out.push (x := v) u32_pure hln2 rfl, HS⟩, by simp [intOf]; omega⟩
            · have hjm2 : j = m := by omega
              subst hjm2
              rw [Nat.sub_self] at HS
              clear hLj hl2
              have hLo := HL.out.outer elmR_ok HI.out
              have hc3 := hLo.rw.cell hln (c := 3) (by decide)
              have hT : TabAt wr (k + 1) (.slice (some ⟨k2, 0, none⟩) j j) l2 := HI.out.rw.done (pureRel_ok _) HN2.out (by omega) (by omega) (by omega)
              have hL5 := hLo.set elmR_ok elm_pure hln (c := 3) (by decide) (.slice (some ⟨k2, 0, none⟩) j j)
              rw [HN.out] at hc3 hL5
              obtain ⟨hc3, hf3⟩ := hc3
              have HL5 : Hid _ := hL5
              have HT : Hid (TabAt wr (k + 1) (.slice (some ⟨k2, 0, none⟩) j j) l2) := hT
              clear hL5 hLo hT
              go_wp2
              go_light
              exact ⟨⟨i + 1, q', l ++ [(⟨v2, l2⟩ : Elm)], by omega, by go_num, by rw [List.length_append, HN.out]; rfl, HL5.out.push (x := (⟨v2, l2⟩ : Elm)) elm_pure hln ⟨⟨rfl, rfl, rfl⟩, HT.out.keep ((Kp.refl (fun j => j = k) _).setCell (p := ⟨k, i * 4 + 3, none⟩) (.inl rfl) _) (fun j hj => by omega)⟩, HS⟩, by simp [intOf]; omega⟩
      · have hin : i = n := by omega
        subst hin
        rw [Nat.sub_self] at HS
        clear hLi hl
        obtain ⟨⟨v0, hv0⟩, hf0⟩ := (HL.out.mdOf HD.out).cell (i := 10) (by decide)
        go_wp2
        go_end0
        go_light
        exact Lp.fin HD.out HL.out HS.out (by rw [pick_ne HN.out h0]; exact (HL.out.mdOf HD.out).setElems (HL.out.rw.done elmR_ok HN.out (by omega) (by omega) (by omega)))
end
end Go.Proofs.Qxb6500275aGreatDoor
