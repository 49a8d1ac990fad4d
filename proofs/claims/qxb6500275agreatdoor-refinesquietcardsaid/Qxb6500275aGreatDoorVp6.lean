import Derived.Test.Qxb6500275aGreatDoorVp1
set_option maxRecDepth 1000000
set_option linter.unusedVariables false
set_option linter.unusedSimpArgs false
namespace Go.Proofs.Qxb6500275aGreatDoor
open Go Go.RowKit
set_option maxHeartbeats 8000000 in
theorem parts_l6 {w0 w1 : World} {mb : Nat} {m : MT} {nf : Nat} {X : Option (Nat × Int)} {tmps : Array Value} {Q : Exit → Act → World → Prop} (hM : ModOk m.mod) (hm : Mw w0 mb m) (hk : Kp (fun _ => False) w0 w1) 
    (ht : tmps = fr188 (.pointer (some ⟨mb, 0, none⟩)) (.int .i64 (nf : Int)) (fun j => tmps.getD j undef)) (h0 : tmps.getD 16 undef = .int .i64 0) (hX : datsV m.mod m.datas 0 = X) (hE : On188 w0 mb nf 15 (X = none) Q) (hR : Ho188 w0 X Q) :
    Code.wp Tryz.prog (.loop ((((Tryz.f188.body.map lpsOf).getD [])[5]?).getD .skip)) Q ⟨tmps, []⟩ w1 := by
  have HM : Hid (ModOk m.mod) := hM
  have HW : Hid (Mw w0 mb m) := hm
  have HK0 : Hid (Kp (fun _ => False) w0 w1) := hk
  have HE : Hid (On188 w0 mb nf 15 (X = none) Q) := hE
  have HR : Hid (Ho188 w0 X Q) := hR
  have HX : Hid (datsV m.mod m.datas 0 = X) := hX
  clear hM hm hk hE hR hX
  generalize (fun j => tmps.getD j undef) = u at ht
  have h0' : u 16 = .int .i64 0 := by rw [ht] at h0; exact h0
  clear h0
  subst ht
  unfold fr188
  dsimp only
  rw [h0']
  conv => arg 2; arg 1; whnf
  obtain ⟨n, hn⟩ : ∃ n, m.datas.length = n := ⟨_, rfl⟩
  have HN : Hid (m.datas.length = n) := hn
  have k1 : n ≤ 8 := by
    have := HM.out.nd; rw [show m.mod.datas.length = m.datas.length from rfl] at this
    omega
  have hmm : -1 ≤ m.memMin ∧ m.memMin < 4294967296 := HM.out.memMin
  clear hn
  go_loopw [16] (fun ii u1 => ∃ (i : Nat), i ≤ n ∧ ii = .int .i64 i ∧ Hid (Kp (fun _ => False) w0 u1) ∧ Hid (datsV m.mod (m.datas.drop i) i = X)) (fun ii _ => n + 1 - (intOf ii).toNat)
  case atStart => exact ⟨0, by omega, rfl, HK0.out, HX.out⟩
  case round =>
    clear HK0 HX
    obtain ⟨i, hi, rfl, HK, HT⟩ := hrel
    have HWu : Hid (Mw _ mb m) := HW.out.keep HK.out (fun _ _ h => h)
    obtain ⟨la, lc, hlv⟩ := HWu.out.slDa
    have cL := HWu.out.c11
    rw [hlv, HN.out] at cL
    have c5 := HWu.out.c5
    by_cases hlt : i < n
    · obtain ⟨x, hx⟩ : ∃ x, m.datas[i]? = some x := ⟨_, List.getElem?_eq_getElem (by rw [HN.out]; exact hlt)⟩
      obtain ⟨g, cap, gv, g1, g2, g3, gc⟩ := HWu.out.atDa hx
      rw [hlv] at gv
      simp at gv
      obtain ⟨rfl, rfl⟩ := gv
      have hib : (i : Int) < (n : Int) := by omega
      have z0 := gc 0 (.int .u8 (x.off.op : Int)) rfl
      rw [Nat.add_zero] at z0
      have hok := (HM.out.datas x (List.mem_of_getElem? hx)).off.op
      have hT := HT.out
      rw [dropC hx, datsV] at hT
      obtain ⟨⟨xo, xx, xy⟩, xb⟩ := x
      dsimp only at z0 hok hT
      clear HT hx gc hlv
      by_cases hm0 : m.memMin < 0
      · rw [if_pos (show m.mod.memMin < 0 from hm0)] at hT
        have HT2 : Hid _ := hT
        clear hT
        go_wp2_with fail
        exact HR.out _ _ i 20 HT2.out.symm rfl rfl HK.out
      · rw [if_neg (show ¬ m.mod.memMin < 0 from hm0)] at hT
        by_cases h65 : xo = 65
        · rw [if_neg (by omega)] at hT
          subst h65
          have HT2 : Hid _ := hT
          clear hT
          go_wp2_with fail
          go_roundw
          case rel => exact ⟨i + 1, by omega, by go_num, HK.out, HT2.out⟩
          case measure => simp [intOf]; omega
        · rw [if_pos h65] at hT
          have HT2 : Hid _ := hT
          have hq0 : ((xo : Int) == 65) = false := by rw [beq_eq_false_iff_ne]; omega
          have hq1 : ((xo : Int) != 65) = true := by simp [bne, hq0]
          clear hT h65
          go_wp2_with fail
          exact HR.out _ _ i 27 HT2.out.symm rfl rfl HK.out
    · have hin : i = n := by omega
      subst hin
      have hib : decide ((i : Int) < (i : Int)) = false := decide_eq_false (by omega)
      have hT := HT.out
      rw [List.drop_of_length_le (by rw [HN.out]; exact Nat.le_refl _), datsV] at hT
      have HT2 : Hid (X = none) := hT.symm
      clear hT HT hlv
      go_wp2_with fail
      exact HE.out _ _ (by kernel_rfl) HK.out HT2.out
end Go.Proofs.Qxb6500275aGreatDoor
