import Derived.Test.Qxb6500275aGreatDoorVp4i
import Derived.Test.Qxb6500275aGreatDoorBm7
set_option maxRecDepth 1000000
set_option linter.unusedVariables false
set_option linter.unusedSimpArgs false
namespace Go.Proofs.Qxb6500275aGreatDoor
open Go Go.RowKit
set_option maxHeartbeats 8000000 in
theorem parts_l4 {w0 w1 : World} {mb : Nat} {m : MT} {nf : Nat} {X : Option (Nat × Int)} {tmps : Array Value} {Q : Exit → Act → World → Prop} (hM : ModOk m.mod) (hm : Mw w0 mb m) (hk : Kp (fun _ => False) w0 w1) (hnf : m.mod.imports.length + m.mod.funcs.length = nf)
    (ht : tmps = fr188 (.pointer (some ⟨mb, 0, none⟩)) (.int .i64 (nf : Int)) (fun j => tmps.getD j undef)) (h0 : tmps.getD 8 undef = .int .i64 0) (hX : expsV m.mod [] m.exports 0 = X) (hE : On188 w0 mb nf 6 (X = none) Q) (hR : Ho188 w0 X Q) :
    Code.wp Tryz.prog (.loop ((((Tryz.f188.body.map lpsOf).getD [])[3]?).getD .skip)) Q ⟨tmps, []⟩ w1 := by
  have HM : Hid (ModOk m.mod) := hM
  have HW : Hid (Mw w0 mb m) := hm
  have HK0 : Hid (Kp (fun _ => False) w0 w1) := hk
  have HE : Hid (On188 w0 mb nf 6 (X = none) Q) := hE
  have HR : Hid (Ho188 w0 X Q) := hR
  have HX : Hid (expsV m.mod [] m.exports 0 = X) := hX
  clear hM hm hk hE hR hX
  generalize (fun j => tmps.getD j undef) = u at ht
  have h0' : u 8 = .int .i64 0 := by rw [ht] at h0; exact h0
  clear h0
  subst ht
  unfold fr188
  dsimp only
  rw [h0']
  conv => arg 2; arg 1; whnf
  obtain ⟨n, hn⟩ : ∃ n, m.exports.length = n := ⟨_, rfl⟩
  have HN : Hid (m.exports.length = n) := hn
  have k1 : n ≤ 8 := by
    have := HM.out.ne; rw [show m.mod.exports.length = m.exports.length from rfl] at this
    omega
  have hm1 : -1 ≤ m.tabMin ∧ m.tabMin < 4294967296 := HM.out.tabMin
  have hm2 : -1 ≤ m.memMin ∧ m.memMin < 4294967296 := HM.out.memMin
  have HNF : Hid _ := hnf
  have hnf12 : nf ≤ 12 := by
    have := HM.out.nf
    have := HM.out.ni
    omega
  obtain ⟨ng, hng⟩ : ∃ n, m.globals.length = n := ⟨_, rfl⟩
  have HNG : Hid _ := hng
  have hng4 : ng ≤ 4 := hng ▸ HM.out.ng
  clear hn hnf hng
  go_loopw [8] (fun ii u1 => ∃ (i : Nat), i ≤ n ∧ ii = .int .i64 i ∧ Hid (Kp (fun _ => False) w0 u1) ∧ Hid (expsV m.mod (m.exports.take i) (m.exports.drop i) i = X)) (fun ii _ => n + 1 - (intOf ii).toNat)
  case atStart => exact ⟨0, by omega, rfl, HK0.out, HX.out⟩
  case round =>
    clear HK0 HX
    obtain ⟨i, hi, rfl, HK, HT⟩ := hrel
    have HWu : Hid (Mw _ mb m) := HW.out.keep HK.out (fun _ _ h => h)
    obtain ⟨la, lc, hlv⟩ := HWu.out.slEx
    have cL := HWu.out.c8
    rw [hlv, HN.out] at cL
    have c3 := HWu.out.c3
    have hmbl : mb < wr.heap.size := lt_of_cell c3
    have c5 := HWu.out.c5
    obtain ⟨ga, gcp, hgv⟩ := HWu.out.slGl
    have c7 := HWu.out.c7
    rw [hgv, HNG.out] at c7
    by_cases hlt : i < n
    · obtain ⟨x, hx⟩ : ∃ x, m.exports[i]? = some x := ⟨_, List.getElem?_eq_getElem (by rw [HN.out]; exact hlt)⟩
      obtain ⟨g, cap, gv, g1, g2, g3, gc⟩ := HWu.out.atEx hx
      rw [hlv] at gv
      simp at gv
      obtain ⟨rfl, rfl⟩ := gv
      have hib : (i : Int) < (n : Int) := by omega
      have z0 := gc 0 (.string x.name) rfl
      rw [Nat.add_zero] at z0
      have z1 := gc 1 (.int .u8 (x.kind : Int)) rfl
      have z2 := gc 2 (.int .u32 x.idx) rfl
      have hok := HM.out.exports x (List.mem_of_getElem? hx)
      have hkd := hok.kind
      have hix := hok.idx
      unfold u32R at hix
      have hT := HT.out
      rw [dropC hx, expsV, ← takeC hx] at hT
      obtain ⟨nm, kd, ix⟩ := x
      dsimp only at z0 z1 z2 hkd hix hT
      obtain ⟨ix, rfl⟩ := Int.eq_ofNat_of_zero_le hix.1
      clear HT hx gc hlv hok hgv
      rcases (by omega : kd = 0 ∨ kd = 1 ∨ kd = 2 ∨ kd = 3) with rfl | rfl | rfl | rfl
      · have hTn : (if (nf : Int) ≤ (ix : Int) then some (i, 17) else if (m.exports.take i).any (fun y => decide (y.name = nm)) = true then some (i, 18) else expsV m.mod (m.exports.take (i + 1)) (m.exports.drop (i + 1)) (i + 1)) = X := by
          rw [← hT]
          rw [if_neg (show ¬ (0 : Nat) = 1 by decide), if_neg (show ¬ (0 : Nat) = 2 by decide), if_neg (show ¬ (0 : Nat) = 3 by decide), HNF.out]
        have HT2 : Hid _ := hTn
        clear hT hTn
        by_cases hge : (nf : Int) ≤ (ix : Int)
        · have hT3 := HT2.out
          rw [if_pos hge] at hT3
          have HT3 : Hid _ := hT3
          clear hT3
          go_wp2_with fail
          exact HR.out _ _ i 17 HT3.out.symm rfl rfl (HK.out.trans ((Kp.refl _ _).alloc _))
        · have hT3 := HT2.out
          rw [if_neg hge] at hT3
          have HT3 : Hid _ := hT3
          have hge2 : decide ((nf : Int) ≤ (ix : Int)) = false := decide_eq_false (by omega)
          clear hT3
          go_wp2_with fail
          refine parts_l4i (c := u) (nf := nf) (nm := nm) (kd := .int .u8 0) (ix := .int .u32 0) HW.out (HK.out.trans ((Kp.refl _ _).alloc _)) HN.out hlt k1 (by first | exact (C3.new _ _ _ _ _).c0) (by kernel_rfl) rfl ?_ ?_
          · intro tmps' w' ht hk hany
            generalize (fun j => tmps'.getD j undef) = u' at ht
            subst ht
            have HK3 : Hid _ := hk
            have hT4 := HT3.out
            rw [if_neg (by rw [hany]; decide)] at hT4
            have HT4 : Hid _ := hT4
            clear hT4 hk hany
            unfold fr188x
            go_wp2_with fail
            go_roundw
            case rel => exact ⟨i + 1, by omega, by go_num, HK3.out, HT4.out⟩
            case measure => simp [intOf]; omega
          · intro tmps' w' hany h2 h3 hk
            have hT4 := HT3.out
            rw [if_pos hany] at hT4
            simp only [Exit.inBlock, Exit.then]
            exact HR.out _ _ i 18 hT4.symm h2 h3 hk
      · by_cases hm0 : m.tabMin < 0
        · have hTn : (if (0 : Int) ≤ (ix : Int) then some (i, 17) else if (m.exports.take i).any (fun y => decide (y.name = nm)) = true then some (i, 18) else expsV m.mod (m.exports.take (i + 1)) (m.exports.drop (i + 1)) (i + 1)) = X := by
            rw [← hT]
            rw [if_pos rfl, show thereV m.mod.tabMin = 0 from by unfold thereV; exact if_pos hm0]
            rfl
          rw [if_pos (by omega)] at hTn
          have HT3 : Hid _ := hTn
          have hge0 : decide ((0 : Int) ≤ (ix : Int)) = true := decide_eq_true (by omega)
          clear hT hTn
          go_wp2_with fail
          exact HR.out _ _ i 17 HT3.out.symm rfl rfl (HK.out.trans ((Kp.refl _ _).alloc _))
        · have hm0b : 0 ≤ m.tabMin := by omega
          have hTn : (if (1 : Int) ≤ (ix : Int) then some (i, 17) else if (m.exports.take i).any (fun y => decide (y.name = nm)) = true then some (i, 18) else expsV m.mod (m.exports.take (i + 1)) (m.exports.drop (i + 1)) (i + 1)) = X := by
            rw [← hT]
            rw [if_pos rfl, show thereV m.mod.tabMin = 1 from by unfold thereV; exact if_neg hm0]
            rfl
          have HT2 : Hid _ := hTn
          clear hT hTn
          by_cases hge : (1 : Int) ≤ (ix : Int)
          · have hT3 := HT2.out
            rw [if_pos hge] at hT3
            have HT3 : Hid _ := hT3
            clear hT3
            go_wp2_with fail
            exact HR.out _ _ i 17 HT3.out.symm rfl rfl (HK.out.trans ((Kp.refl _ _).alloc _))
          · have hT3 := HT2.out
            rw [if_neg hge] at hT3
            have HT3 : Hid _ := hT3
            have hge2 : decide ((1 : Int) ≤ (ix : Int)) = false := decide_eq_false (by omega)
            clear hT3
            go_wp2_with fail
            refine parts_l4i (c := u) (nf := nf) (nm := nm) (kd := .int .u8 0) (ix := .int .u32 0) HW.out (HK.out.trans ((Kp.refl _ _).alloc _)) HN.out hlt k1 (by first | exact (C3.new _ _ _ _ _).c0) (by kernel_rfl) rfl ?_ ?_
            · intro tmps' w' ht hk hany
              generalize (fun j => tmps'.getD j undef) = u' at ht
              subst ht
              have HK3 : Hid _ := hk
              have hT4 := HT3.out
              rw [if_neg (by rw [hany]; decide)] at hT4
              have HT4 : Hid _ := hT4
              clear hT4 hk hany
              unfold fr188x
              go_wp2_with fail
              go_roundw
              case rel => exact ⟨i + 1, by omega, by go_num, HK3.out, HT4.out⟩
              case measure => simp [intOf]; omega
            · intro tmps' w' hany h2 h3 hk
              have hT4 := HT3.out
              rw [if_pos hany] at hT4
              simp only [Exit.inBlock, Exit.then]
              exact HR.out _ _ i 18 hT4.symm h2 h3 hk
      · by_cases hm0 : m.memMin < 0
        · have hTn : (if (0 : Int) ≤ (ix : Int) then some (i, 17) else if (m.exports.take i).any (fun y => decide (y.name = nm)) = true then some (i, 18) else expsV m.mod (m.exports.take (i + 1)) (m.exports.drop (i + 1)) (i + 1)) = X := by
            rw [← hT]
            rw [if_neg (show ¬ (2 : Nat) = 1 by decide), if_pos rfl, show thereV m.mod.memMin = 0 from by unfold thereV; exact if_pos hm0]
            rfl
          rw [if_pos (by omega)] at hTn
          have HT3 : Hid _ := hTn
          have hge0 : decide ((0 : Int) ≤ (ix : Int)) = true := decide_eq_true (by omega)
          clear hT hTn
          go_wp2_with fail
          exact HR.out _ _ i 17 HT3.out.symm rfl rfl (HK.out.trans ((Kp.refl _ _).alloc _))
        · have hm0b : 0 ≤ m.memMin := by omega
          have hTn : (if (1 : Int) ≤ (ix : Int) then some (i, 17) else if (m.exports.take i).any (fun y => decide (y.name = nm)) = true then some (i, 18) else expsV m.mod (m.exports.take (i + 1)) (m.exports.drop (i + 1)) (i + 1)) = X := by
            rw [← hT]
            rw [if_neg (show ¬ (2 : Nat) = 1 by decide), if_pos rfl, show thereV m.mod.memMin = 1 from by unfold thereV; exact if_neg hm0]
            rfl
          have HT2 : Hid _ := hTn
          clear hT hTn
          by_cases hge : (1 : Int) ≤ (ix : Int)
          · have hT3 := HT2.out
            rw [if_pos hge] at hT3
            have HT3 : Hid _ := hT3
            clear hT3
            go_wp2_with fail
            exact HR.out _ _ i 17 HT3.out.symm rfl rfl (HK.out.trans ((Kp.refl _ _).alloc _))
          · have hT3 := HT2.out
            rw [if_neg hge] at hT3
            have HT3 : Hid _ := hT3
            have hge2 : decide ((1 : Int) ≤ (ix : Int)) = false := decide_eq_false (by omega)
            clear hT3
            go_wp2_with fail
            refine parts_l4i (c := u) (nf := nf) (nm := nm) (kd := .int .u8 0) (ix := .int .u32 0) HW.out (HK.out.trans ((Kp.refl _ _).alloc _)) HN.out hlt k1 (by first | exact (C3.new _ _ _ _ _).c0) (by kernel_rfl) rfl ?_ ?_
            · intro tmps' w' ht hk hany
              generalize (fun j => tmps'.getD j undef) = u' at ht
              subst ht
              have HK3 : Hid _ := hk
              have hT4 := HT3.out
              rw [if_neg (by rw [hany]; decide)] at hT4
              have HT4 : Hid _ := hT4
              clear hT4 hk hany
              unfold fr188x
              go_wp2_with fail
              go_roundw
              case rel => exact ⟨i + 1, by omega, by go_num, HK3.out, HT4.out⟩
              case measure => simp [intOf]; omega
            · intro tmps' w' hany h2 h3 hk
              have hT4 := HT3.out
              rw [if_pos hany] at hT4
              simp only [Exit.inBlock, Exit.then]
              exact HR.out _ _ i 18 hT4.symm h2 h3 hk
      · have hTn : (if (ng : Int) ≤ (ix : Int) then some (i, 17) else if (m.exports.take i).any (fun y => decide (y.name = nm)) = true then some (i, 18) else expsV m.mod (m.exports.take (i + 1)) (m.exports.drop (i + 1)) (i + 1)) = X := by
          rw [← hT]
          rw [if_neg (show ¬ (3 : Nat) = 1 by decide), if_neg (show ¬ (3 : Nat) = 2 by decide), if_pos rfl, show m.mod.globals.length = ng from HNG.out]
        have HT2 : Hid _ := hTn
        clear hT hTn
        by_cases hge : (ng : Int) ≤ (ix : Int)
        · have hT3 := HT2.out
          rw [if_pos hge] at hT3
          have HT3 : Hid _ := hT3
          clear hT3
          go_wp2_with fail
          exact HR.out _ _ i 17 HT3.out.symm rfl rfl (HK.out.trans ((Kp.refl _ _).alloc _))
        · have hT3 := HT2.out
          rw [if_neg hge] at hT3
          have HT3 : Hid _ := hT3
          have hge2 : decide ((ng : Int) ≤ (ix : Int)) = false := decide_eq_false (by omega)
          clear hT3
          go_wp2_with fail
          refine parts_l4i (c := u) (nf := nf) (nm := nm) (kd := .int .u8 0) (ix := .int .u32 0) HW.out (HK.out.trans ((Kp.refl _ _).alloc _)) HN.out hlt k1 (by first | exact (C3.new _ _ _ _ _).c0) (by kernel_rfl) rfl ?_ ?_
          · intro tmps' w' ht hk hany
            generalize (fun j => tmps'.getD j undef) = u' at ht
            subst ht
            have HK3 : Hid _ := hk
            have hT4 := HT3.out
            rw [if_neg (by rw [hany]; decide)] at hT4
            have HT4 : Hid _ := hT4
            clear hT4 hk hany
            unfold fr188x
            go_wp2_with fail
            go_roundw
            case rel => exact ⟨i + 1, by omega, by go_num, HK3.out, HT4.out⟩
            case measure => simp [intOf]; omega
          · intro tmps' w' hany h2 h3 hk
            have hT4 := HT3.out
            rw [if_pos hany] at hT4
            simp only [Exit.inBlock, Exit.then]
            exact HR.out _ _ i 18 hT4.symm h2 h3 hk
    · have hin : i = n := by omega
      subst hin
      have hib : decide ((i : Int) < (i : Int)) = false := decide_eq_false (by omega)
      have hT := HT.out
      rw [List.drop_of_length_le (by rw [HN.out]; exact Nat.le_refl _), expsV] at hT
      have HT2 : Hid (X = none) := hT.symm
      clear hT HT hlv hgv
      go_wp2_with fail
      exact HE.out _ _ (by kernel_rfl) HK.out HT2.out
end Go.Proofs.Qxb6500275aGreatDoor
