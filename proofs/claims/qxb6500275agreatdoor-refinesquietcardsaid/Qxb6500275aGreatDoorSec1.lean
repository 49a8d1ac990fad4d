import Derived.Test.Qxb6500275aGreatDoorSec0
import Derived.Deep.Light
set_option maxRecDepth 100000
set_option linter.unusedVariables false
set_option linter.unusedSimpArgs false
set_option linter.unusedSectionVars false
namespace Go.Proofs.Qxb6500275aGreatDoor
open Go Go.RowKit
variable [Inhabited TV]
def Z77 : Array Value := #[.string ⟨#[]⟩]
theorem mk77 (w : World) (n : Nat) (hn : n ≤ 8) : (Instr.makeSlice 77 (.int .i64 (n : Int)) (.int .i64 (n : Int))).run Tryz.prog w = .ok (.slice (some ⟨w.heap.size, 0, none⟩) n n) (w.alloc (.cells (madeCells Z77 (n * 1)) 9)) :=
  make_n2 w 77 9 n 1 16 Z77 (by kernel_rfl) (by kernel_rfl) (by kernel_rfl) (by omega) (by omega)
section
variable {w : World} {b : Nat} {s : ByteArray} {p e bb ib tb mb : Nat} {ty : List Int} {M : Mod}
set_option maxHeartbeats 4000000 in
theorem types_calls (h : Dc w b s p e bb ib tb mb ty M) : Calls Tryz.prog 52 #[.pointer (some ⟨b, 0, none⟩), .pointer (some ⟨mb, 0, none⟩)] w (SecP (sec1 s p e M ty) b s e bb ib tb mb w) := by
  have HD : Hid _ := h
  have hbl : b < w.heap.size := lt_of_cell h.rd.c0
  have hml : mb < w.heap.size := h.md.lt
  have hbm : b < mb := h.lt.1
  obtain ⟨X, hX⟩ : ∃ X, sec1 s p e M ty = X := ⟨_, rfl⟩
  have HS : Hid (X = bindR (countS s p e 8) fun x => bindR (rowsL (tyRow s e) x.1.toNat x.2 []) fun x => .ok ({ M with types := pick x.1 M.types }, ty, x.2)) := by
    show _ = _
    rw [← hX]
    exact bindR_assoc _ _ _
  rw [hX]
  clear h hX
  go_enter Tryz.func52, Tryz.ntmps52
  go_wp2_with fail
  refine RP.step HS (count_calls HD.out.rd 8 (by omega)) (fun c a w4 hX hK => ⟨rfl, HD.out.err hK hX⟩) ?_
  clear HS
  intro n q w2 hn HS hK2 hR2
  have hn6 := (countS_ok hn.out).1
  obtain ⟨n, rfl⟩ := Int.eq_ofNat_of_zero_le hn6.1
  unfold encI
  dsimp only [Int.toNat_natCast] at HS
  clear hn
  by_cases h0 : n = 0
  · subst h0
    go_wp2
    go_end0
    exact SecP.mkOk HS.out hK2.sd rfl hR2 (HD.out.btOf hK2) (HD.out.mdOf hK2 (fun k h => .inl h))
  · go_wp2
    rw [mk77 w2 n (by omega)]
    have hL0 := Lp.first (R := pureRel tyP) (n := n) (sz := 1) HD.out hK2 hR2 Z77 rfl (by decide) 9
    obtain ⟨k, hk⟩ : ∃ k, w2.heap.size = k := ⟨_, rfl⟩
    have hkm : mb < k := by have := hK2.size; omega
    rw [hk] at hL0 ⊢
    generalize w2.alloc (.cells (madeCells Z77 (n * 1)) 9) = w3 at *
    clear hk hK2 hR2
    go_wp2
    go_loopw [6] (fun ii w1 => ∃ (i q' : Nat) (l : List Ty), i ≤ n ∧ ii = .int .i64 i ∧ l.length = i ∧ Lp (pureRel tyP) w w1 b s q' e bb ib tb ty k n 1 (fun c => Z77[c]!) l (fun c => Z77[c]!) ∧ Hid (X = bindR (rowsL (tyRow s e) (n - i) q' l) fun x => .ok ({ M with types := pick x.1 M.types }, ty, x.2))) (fun ii _ => n - (intOf ii).toNat)
    case atStart => exact ⟨0, q, [], by omega, rfl, rfl, hL0, HS⟩
    case round =>
      clear hL0 HS
      obtain ⟨i, q', l, hi, rfl, hl, hLi, HS⟩ := hrel
      have HL : Hid _ := hLi
      have HN : Hid _ := hl
      by_cases hlt : i < n
      · have hln : l.length < n := by omega
        clear hl hLi
        rw [show n - i = n - (i + 1) + 1 by omega] at HS
        dsimp only [rowsL, tyRow] at HS
        simp only [bindR_assoc] at HS
        go_wp2_with fail
        refine HL.out.step (mb := mb) (pureRel_ok _) HS (fixed_calls HL.out.rd 96 (by decide)) (fun c a w4 h => ⟨rfl, h⟩) ?_
        clear HS HL
        intro v1 qv1 w4 hv1 HS HL
        unfold encN
        dsimp only at HS
        go_wp2_with fail
        refine HL.out.step (mb := mb) (pureRel_ok _) HS (valtypes_calls HL.out.rd 4 (by decide)) (fun c a w4 h => ⟨rfl, h⟩) ?_
        clear HS HL
        intro v2 qv2 w5 hv2 HS HL
        unfold encS
        dsimp only at HS
        have hb2 : v2.size ≤ 4096 := by have := valtypesS_size hv2.out; omega
        go_wp2_with fail
        refine HL.out.step (mb := mb) (pureRel_ok _) HS (valtypes_calls HL.out.rd 1 (by decide)) (fun c a w4 h => ⟨rfl, h⟩) ?_
        clear HS HL
        intro v3 qv3 w6 hv3 HS HL
        unfold encS
        dsimp only at HS
        have hb3 : v3.size ≤ 4096 := by have := valtypesS_size hv3.out; omega
        have hc0 := HL.out.rw.cell hln (c := 0) (by decide)
        have hL5 := (HL.out.set (pureRel_ok _) ty_pure hln (c := 0) (by decide) (.string (v2 ++ ⟨#[58]⟩ ++ v3)))
        rw [HN.out] at hc0 hL5
        rw [Nat.add_zero, Nat.mul_one] at hc0 hL5
        obtain ⟨hc0, hf0⟩ := hc0
        clear HL
        have HL : Hid _ := hL5
        clear hL5
        go_wp2
        go_light
        exact ⟨⟨i + 1, qv3, l ++ [(⟨v2, v3⟩ : Ty)], by omega, by go_num, by rw [List.length_append, HN.out]; rfl, HL.out.push (x := (⟨v2, v3⟩ : Ty)) ty_pure hln rfl, HS⟩, by simp [intOf]; omega⟩
      · have hin : i = n := by omega
        subst hin
        rw [Nat.sub_self] at HS
        clear hLi hl
        obtain ⟨⟨v0, hv0⟩, hf0⟩ := (HL.out.mdOf HD.out).cell (i := 0) (by decide)
        go_wp2
        go_end0
        go_light
        exact Lp.fin HD.out HL.out HS.out (by rw [pick_ne HN.out h0]; exact (HL.out.mdOf HD.out).setTypes (HL.out.rw.done (pureRel_ok _) HN.out (by omega) (by omega) (by omega)))
end
end Go.Proofs.Qxb6500275aGreatDoor
