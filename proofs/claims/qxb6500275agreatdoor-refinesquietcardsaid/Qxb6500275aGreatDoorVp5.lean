import Derived.Test.Qxb6500275aGreatDoorVp1
import Derived.Test.Qxb6500275aGreatDoorVm4
set_option maxRecDepth 1000000
set_option linter.unusedVariables false
set_option linter.unusedSimpArgs false
namespace Go.Proofs.Qxb6500275aGreatDoor
open Go Go.RowKit
set_option maxHeartbeats 8000000 in
theorem parts_l5 {w0 w1 : World} {mb : Nat} {m : MT} {nf : Nat} {X : Option (Nat × Int)} {tmps : Array Value} {Q : Exit → Act → World → Prop} (hM : ModOk m.mod) (hm : Mw w0 mb m) (hk : Kp (fun _ => False) w0 w1) (hnf : m.mod.imports.length + m.mod.funcs.length = nf)
    (ht : tmps = fr188 (.pointer (some ⟨mb, 0, none⟩)) (.int .i64 (nf : Int)) (fun j => tmps.getD j undef)) (h0 : tmps.getD 14 undef = .int .i64 0) (hX : elmsV m.mod m.mod.elems 0 = X) (hE : On188 w0 mb nf 11 (X = none) Q) (hR : Ho188 w0 X Q) :
    Code.wp Tryz.prog (.loop ((((Tryz.f188.body.map lpsOf).getD [])[4]?).getD .skip)) Q ⟨tmps, []⟩ w1 := by
  have HM : Hid (ModOk m.mod) := hM
  have HW : Hid (Mw w0 mb m) := hm
  have HK0 : Hid (Kp (fun _ => False) w0 w1) := hk
  have HE : Hid (On188 w0 mb nf 11 (X = none) Q) := hE
  have HR : Hid (Ho188 w0 X Q) := hR
  have HX : Hid (elmsV m.mod m.mod.elems 0 = X) := hX
  clear hM hm hk hE hR hX
  generalize (fun j => tmps.getD j undef) = u at ht
  have h0' : u 14 = .int .i64 0 := by rw [ht] at h0; exact h0
  clear h0
  subst ht
  unfold fr188
  dsimp only
  rw [h0']
  conv => arg 2; arg 1; whnf
  obtain ⟨n, hn⟩ : ∃ n, m.es.length = n := ⟨_, rfl⟩
  have HN : Hid (m.es.length = n) := hn
  have k1 : n ≤ 8 := by
    have := HM.out.nel; rw [show m.mod.elems.length = m.es.length by unfold MT.mod; simp] at this
    omega
  have hmm : -1 ≤ m.tabMin ∧ m.tabMin < 4294967296 := HM.out.tabMin
  have HNF : Hid _ := hnf
  have hnf12 : nf ≤ 12 := by
    have := HM.out.nf
    have := HM.out.ni
    omega
  clear hn hnf
  go_loopw [14] (fun ii u1 => ∃ (i : Nat), i ≤ n ∧ ii = .int .i64 i ∧ Hid (Kp (fun _ => False) w0 u1) ∧ Hid (elmsV m.mod (m.mod.elems.drop i) i = X)) (fun ii _ => n + 1 - (intOf ii).toNat)
  case atStart => exact ⟨0, by omega, rfl, HK0.out, HX.out⟩
  case round =>
    clear HK0 HX
    obtain ⟨i, hi, rfl, HK, HT⟩ := hrel
    have HWu : Hid (Mw _ mb m) := HW.out.keep HK.out (fun _ _ h => h)
    obtain ⟨la, lc, hlv⟩ := HWu.out.slEl
    have cL := HWu.out.c10
    rw [hlv, HN.out] at cL
    have c3 := HWu.out.c3
    by_cases hlt : i < n
    · obtain ⟨x, hx⟩ : ∃ x, m.es[i]? = some x := ⟨_, List.getElem?_eq_getElem (by rw [HN.out]; exact hlt)⟩
      obtain ⟨g, cap, gv, g1, g2, g3, gc⟩ := HWu.out.atEl hx
      rw [hlv] at gv
      simp at gv
      obtain ⟨rfl, rfl⟩ := gv
      have hib : (i : Int) < (n : Int) := by omega
      have z0 := gc 0 (.int .u8 (x.1.off.op : Int)) rfl
      rw [Nat.add_zero] at z0
      have z3 := gc 3 x.2 rfl
      have hxm : m.mod.elems[i]? = some x.1 := by unfold MT.mod; dsimp only; rw [List.getElem?_map, hx]; rfl
      have hok := HM.out.elems x.1 (List.mem_of_getElem? hxm)
      have hop := hok.off.op
      have hor := HWu.out.fns (List.mem_of_getElem? hx)
      obtain ⟨fa, fc, hfv⟩ := hor.slice
      obtain ⟨k, hk⟩ : ∃ k, x.1.fns.length = k := ⟨_, rfl⟩
      have hk6 : k ≤ 6 := by have := hok.n; omega
      rw [hk] at hfv
      rw [hfv] at z3
      have hT := HT.out
      rw [dropC hxm, elmsV] at hT
      have HFN : Hid _ := hor
      have HFV : Hid _ := hfv
      have HOK : Hid _ := hok
      have HKK : Hid _ := hk
      obtain ⟨xo, hxo⟩ : ∃ o, x.1.off.op = o := ⟨_, rfl⟩
      rw [hxo] at z0 hop hT
      clear HT hx gc hlv hxm hok hor hfv hk hxo
      by_cases hm0 : m.tabMin < 0
      · rw [if_pos (show m.mod.tabMin < 0 from hm0)] at hT
        have HT2 : Hid _ := hT
        clear hT
        go_wp2_with fail
        exact HR.out _ _ i 21 HT2.out.symm rfl rfl HK.out
      · rw [if_neg (show ¬ m.mod.tabMin < 0 from hm0)] at hT
        by_cases h65 : xo = 65
        · rw [if_neg (by omega)] at hT
          subst h65
          have HT2 : Hid _ := hT
          clear hT
          go_wp2_with fail
          go_loopw [15] (fun jj u2 => ∃ (j : Nat), j ≤ k ∧ jj = .int .i64 j ∧ u2 = wr ∧ Hid (∀ (k2 : Nat) (f : Int), k2 < j → x.1.fns[k2]? = some f → ¬ (nf : Int) ≤ f)) (fun jj _ => k + 1 - (intOf jj).toNat)
          case atStart => exact ⟨0, by omega, rfl, rfl, fun k2 f h => by omega⟩
          case round =>
            obtain ⟨j, hj, rfl, rfl, HJ⟩ := hrel
            by_cases hjk : j < k
            · obtain ⟨f, hf⟩ : ∃ f, x.1.fns[j]? = some f := ⟨_, List.getElem?_eq_getElem (by rw [HKK.out]; exact hjk)⟩
              obtain ⟨fg, fcp, hfv2, f1, f2⟩ := tabCell HFN.out hf
              rw [HFV.out] at hfv2
              simp at hfv2
              obtain ⟨rfl, _, rfl⟩ := hfv2
              have hfr := HOK.out.fns f (List.mem_of_getElem? hf)
              unfold u32R at hfr
              have HFF : Hid (x.1.fns[j]? = some f) := hf
              have hji : (j : Int) < (k : Int) := by omega
              clear hf
              by_cases hge : (nf : Int) ≤ f
              · have HH2 : Hid (X = some (i, 15)) := by
                  show X = _
                  rw [← HT2.out, if_pos]
                  rw [List.any_eq_true]
                  exact ⟨f, List.mem_of_getElem? HFF.out, by rw [HNF.out]; simpa using hge⟩
                go_wp2_with fail
                exact HR.out _ _ i 15 HH2.out rfl rfl HK.out
              · have hge2 : f < (nf : Int) := by omega
                have hge3 : decide ((nf : Int) ≤ f) = false := decide_eq_false (by omega)
                go_wp2_with fail
                go_roundw
                case rel =>
                  refine ⟨j + 1, by omega, by go_num, by trivial, fun k2 f2 hk2 hf2 => ?_⟩
                  by_cases e : k2 = j
                  · subst e
                    rw [HFF.out] at hf2
                    simp at hf2
                    subst hf2
                    exact hge
                  · exact HJ.out k2 f2 (by omega) hf2
                case measure => simp [intOf]; omega
            · have hjn : j = k := by omega
              subst hjn
              have hji : decide ((j : Int) < (j : Int)) = false := decide_eq_false (by omega)
              have HT3 : Hid (elmsV m.mod (m.mod.elems.drop (i + 1)) (i + 1) = X) := by
                show _ = X
                rw [← HT2.out, if_neg]
                rw [List.any_eq_true]
                rintro ⟨f, hf, hd⟩
                obtain ⟨k2, hk2, e⟩ := List.getElem_of_mem hf
                rw [HNF.out] at hd
                exact HJ.out k2 f (by rw [← HKK.out]; exact hk2) (by rw [List.getElem?_eq_getElem hk2, e]) (by simpa using hd)
              go_wp2_with fail
              go_roundw
              case rel => exact ⟨i + 1, by omega, by go_num, HK.out, HT3.out⟩
              case measure => simp [intOf]; omega
        · rw [if_pos h65] at hT
          have HT2 : Hid _ := hT
          have hq0 : ((xo : Int) == 65) = false := by rw [beq_eq_false_iff_ne]; omega
          have hq1 : ((xo : Int) != 65) = true := by simp [bne, hq0]
          clear hT h65
          go_wp2_with fail
          exact HR.out _ _ i 27 HT2.out.symm rfl rfl HK.out
    · have hin : i = n := by omega
      subst hin
      have hib : decide ((i : Int) < (i : Int)) = false := decide_eq_false (by omega)
      have hT := HT.out
      rw [List.drop_of_length_le (by rw [show m.mod.elems.length = m.es.length by unfold MT.mod; simp, HN.out]; exact Nat.le_refl _), elmsV] at hT
      have HT2 : Hid (X = none) := hT.symm
      clear hT HT hlv
      go_wp2_with fail
      exact HE.out _ _ (by kernel_rfl) HK.out HT2.out
end Go.Proofs.Qxb6500275aGreatDoor
