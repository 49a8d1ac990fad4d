import Derived.Test.Qxb6500275aGreatDoorEx6
set_option maxRecDepth 100000
set_option linter.unusedVariables false
set_option linter.unusedSimpArgs false
namespace Go.Proofs.Qxb6500275aGreatDoor
open Go Go.RowKit
def findX (s : ByteArray) : List Exp → Int
  | [] => -1
  | x :: xs => if x.kind = 0 ∧ x.name = s then x.idx else findX s xs
section
variable {w w' : World} {xb mb : Nat} {M : Mod}
set_option maxHeartbeats 4000000 in
theorem find_calls (hM : ModOk M) (h : Md w mb M) (c5 : w.cell? ⟨xb, 5, none⟩ = some (.pointer (some ⟨mb, 0, none⟩))) (s : ByteArray) : Calls Tryz.prog 43 #[.pointer (some ⟨xb, 0, none⟩), .string s] w (Qm w (.int .i64 (findX s M.exports))) := by
  obtain ⟨Y, hY⟩ : ∃ Y, findX s M.exports = Y := ⟨_, rfl⟩
  have HS : Hid (Y = findX s (M.exports.drop 0)) := hY.symm
  rw [hY]
  have HO : Hid _ := hM
  have hlx : M.exports.length ≤ 6 := hM.ne
  obtain ⟨ga, xa, ea, da, c3, c4, c5', c6, c7, c8, c9, c10, c11, gat, xat, eat, dat⟩ := h.rest
  obtain ⟨nx, hnx⟩ : ∃ nx, M.exports.length = nx := ⟨_, rfl⟩
  rw [hnx] at c8 hlx
  have HNX : Hid _ := hnx
  have HXA : Hid _ := xat
  clear hY h hM c3 c4 c5' c6 c7 c9 c10 c11 gat xat eat dat hnx
  go_enter Tryz.func43, Tryz.ntmps43
  go_wp2
  go_loopw [5] (fun ii w1 => ∃ (i : Nat) (u : World), u = w1 ∧ i ≤ nx ∧ ii = .int .i64 i ∧ Hid (u = w) ∧ Hid (Y = findX s (M.exports.drop i))) (fun ii _ => nx + 1 - (intOf ii).toNat)
  case atStart => exact ⟨0, _, rfl, by omega, rfl, rfl, HS⟩
  case round =>
    clear HS
    obtain ⟨i, w1, e, hi, rfl, HW, HS⟩ := hrel
    subst e
    have hw : w1 = w := HW.out
    subst hw
    clear HW
    by_cases hlt : i < nx
    · obtain ⟨x, hx⟩ : ∃ e, M.exports[i]? = some e := ⟨_, List.getElem?_eq_getElem (by rw [HNX.out]; exact hlt)⟩
      have heo := HO.out.exports x (List.mem_of_getElem? hx)
      obtain ⟨k, rfl, d0, d1, d2⟩ := HXA.out i x hx
      have hidx := heo.idx
      unfold u32R at hidx
      obtain ⟨nm, kd, ix⟩ := x
      dsimp only at d0 d1 d2 hidx
      have hib : (i : Int) < (nx : Int) := by omega
      rw [drop_cons hx, findX] at HS
      dsimp only at HS
      clear hx heo
      have hwi : IntKind.i64.wrap ix = ix := by simp [IntKind.wrap, IntKind.bits, IntKind.signed]; omega
      by_cases hk : kd = 0
      · subst hk
        by_cases hnm : nm = s
        · subst hnm
          rw [if_pos ⟨rfl, rfl⟩] at HS
          go_wp2
          refine bodyPost_ret (v := .int .i64 ix) (by simp [results, Tryz.results43, go_sem, hwi]) rfl ?_
          rw [HS.out]
          exact ⟨rfl, rfl⟩
        · rw [if_neg (fun e => hnm e.2)] at HS
          have hnb : (nm.toList == s.toList) = false := by rw [beq_eq_false_iff_ne]; intro h; exact hnm (bytes_ext h)
          go_wp2
          go_roundw
          case rel => exact ⟨i + 1, _, rfl, by omega, rfl, rfl, HS.out⟩
          case measure => simp [intOf]; omega
      · rw [if_neg (fun e => hk e.1)] at HS
        have hk' : ((kd : Int) == 0) = false := by simp [hk]
        go_wp2
        go_roundw
        case rel => exact ⟨i + 1, _, rfl, by omega, rfl, rfl, HS.out⟩
        case measure => simp [intOf]; omega
    · have hie : i = nx := by omega
      subst hie
      rw [List.drop_eq_nil_of_le (by rw [HNX.out]; exact Nat.le_refl _)] at HS
      go_wp2
      refine bodyPost_ret (v := .int .i64 (-1)) (by simp [results, Tryz.results43, go_sem]) rfl ?_
      rw [HS.out]
      exact ⟨rfl, rfl⟩
end
end Go.Proofs.Qxb6500275aGreatDoor
