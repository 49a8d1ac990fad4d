import Derived.Test.Qxb6500275aGreatDoorVq1
import Derived.Test.Qxb6500275aGreatDoorVc3
set_option maxRecDepth 1000000
set_option linter.unusedVariables false
set_option linter.unusedSimpArgs false
namespace Go.Proofs.Qxb6500275aGreatDoor
open Go Go.RowKit
def encVm (X : Int × Nat × Int) : Value := .tuple #[.int .i64 X.1, .int .i64 (X.2.1 : Int), .int .i64 X.2.2]
theorem wp_genV {P : Program} {c : Code} {Q : Exit → Act → World → Prop} {ac : Act} {W : World} {k : Nat} (h : ∀ U, Kp (fun _ => False) W U → Code.wp P c Q ac U) : Code.wp P c Q ac (W.drewN k) := h _ ((Kp.refl _ _).drewM k)
section
variable {w : World} {mb : Nat} {m : MT}
set_option maxHeartbeats 16000000 in
theorem validate_m (h : Mw w mb m) (hM : ModOk m.mod) (vp : Value) : Calls Tryz.prog 134 #[vp, .pointer (some ⟨mb, 0, none⟩)] w (fun en w' => en = .returned (encVm (validV m.mod)) ∧ Kp (fun _ => False) w w') := by
  obtain ⟨X, hX⟩ : ∃ X, validV m.mod = X := ⟨_, rfl⟩
  rw [hX]
  unfold validV at hX
  have HS : Hid _ := hX.symm
  have HW : Hid (Mw w mb m) := h
  have HM : Hid (ModOk m.mod) := hM
  have hpc := parts_m h hM
  have hpe := fun a e => partsV_err (M := m.mod) (a := a) (e := e)
  have HBT : Hid (partsV m.mod = none → ∀ (k : Nat) (x : Fn × Value × Value), m.fs[k]? = some x → ∃ t, m.mod.typeAt x.1.ty = some t ∧ TyOk t) := fun hn k x hk => by
    have hl := (List.getElem?_eq_some_iff.1 hk).1
    have hfl : m.mod.funcs.length = m.fs.length := by unfold MT.mod; simp
    obtain ⟨t, ht⟩ := partsV_types hn (m.mod.imports.length + k) (by omega)
    have e : m.mod.typeOf ((m.imports.length + k : Nat) : Int) = some t := ht
    rw [typeOf_fn hk] at e
    refine ⟨t, e, ?_⟩
    unfold Mod.typeAt at e
    split at e
    · simp at e
    · exact hM.types t (List.mem_of_getElem? e)
  clear hX h hM
  cases hox : partsV m.mod with
  | some r =>
    rw [hox] at HS hpc
    obtain ⟨a, e⟩ := r
    have he := hpe a e hox
    have heb : (e == 0) = false := by rw [beq_eq_false_iff_ne]; omega
    have heb2 : (e != 0) = true := by simp [bne, heb]
    unfold encPm at hpc
    dsimp only at HS hpc
    clear hpe HBT he
    go_enter Tryz.func134, Tryz.ntmps134
    go_wp2_with fail
    refine hpc.mono ?_
    rintro en w2 ⟨rfl, hk2⟩
    have HK2 : Hid _ := hk2
    clear hk2
    go_wp2
    refine bodyPost_ret (v := encVm X) (by rw [HS.out]; simp [results, Tryz.results134, go_sem, encVm]) rfl ⟨rfl, HK2.out⟩
  | none =>
    have HBT2 : Hid (∀ (k : Nat) (x : Fn × Value × Value), m.fs[k]? = some x → ∃ t, m.mod.typeAt x.1.ty = some t ∧ TyOk t) := HBT.out hox
    rw [hox] at HS hpc
    unfold encPm at hpc
    dsimp only at HS hpc
    have HS2 : Hid (X = bodiesV m.mod (m.mod.funcs.drop 0) 0) := HS.out
    have HFL : Hid (m.mod.funcs.length = m.fs.length) := by show _ = _; unfold MT.mod; simp
    obtain ⟨nf, hnf⟩ : ∃ n, m.fs.length = n := ⟨_, rfl⟩
    have hnf8 : nf ≤ 8 := by rw [← hnf, ← HFL.out]; exact HM.out.nf
    have HNF : Hid (m.fs.length = nf) := hnf
    obtain ⟨nt, hnt⟩ : ∃ n, m.types.length = n := ⟨_, rfl⟩
    have hnt8 : nt ≤ 8 := hnt ▸ HM.out.nt
    have HNT : Hid (m.types.length = nt) := hnt
    clear HS hpe hnf hnt HBT
    go_enter Tryz.func134, Tryz.ntmps134
    go_wp2_with fail
    refine hpc.mono ?_
    rintro en w2 ⟨rfl, hk2⟩
    have HK2 : Hid _ := hk2
    clear hk2 hpc
    go_wp2_with fail
    go_loopw [9] (fun kk w1 => ∃ (k : Nat), k ≤ nf ∧ kk = .int .i64 k ∧ Hid (Kp (fun _ => False) w w1) ∧ Hid (X = bodiesV m.mod (m.mod.funcs.drop k) k)) (fun kk _ => nf + 1 - (intOf kk).toNat)
    case atStart => exact ⟨0, by omega, rfl, HK2.out, HS2.out⟩
    case round =>
      clear HS2 HK2
      obtain ⟨k, hk, rfl, HK, HS⟩ := hrel
      have HWu : Hid (Mw wr mb m) := HW.out.keep HK.out (fun _ _ h => h)
      obtain ⟨fa, fc, hfv⟩ := HWu.out.slFn
      have c2 := HWu.out.c2
      rw [hfv, HNF.out] at c2
      by_cases hlt : k < nf
      · obtain ⟨x, hx⟩ : ∃ x, m.fs[k]? = some x := ⟨_, List.getElem?_eq_getElem (by rw [HNF.out]; exact hlt)⟩
        have hxm : m.mod.funcs[k]? = some x.1 := by unfold MT.mod; dsimp only; rw [List.getElem?_map, hx]; rfl
        obtain ⟨t, ht, hT⟩ := HBT2.out k x hx
        obtain ⟨g, cap, gv, g1, g2, g3, gc⟩ := HWu.out.atFn hx
        have HG : Hid (∃ cap, m.vf = .slice (some ⟨g, 0, none⟩) m.fs.length cap) := ⟨_, gv⟩
        rw [hfv] at gv
        simp at gv
        obtain ⟨rfl, rfl⟩ := gv
        have z0 := gc 0 (.int .i64 x.1.ty) rfl
        rw [Nat.add_zero] at z0
        have z1 := gc 1 (.string x.1.locals) rfl
        -- its type
        have hty0 : ∃ n : Nat, x.1.ty = (n : Int) ∧ m.types[n]? = some t := by
          unfold Mod.typeAt at ht
          split at ht
          · simp at ht
          · rename_i hn
            exact ⟨x.1.ty.toNat, by omega, ht⟩
        obtain ⟨n, hn, htn⟩ := hty0
        have hnl := (List.getElem?_eq_some_iff.1 htn).1
        obtain ⟨tg, tcap, tv, t1, t2, t3, tc⟩ := HWu.out.atTy htn
        have c0 := HWu.out.c0
        rw [tv, HNT.out] at c0
        have y0 := tc 0 (.string t.text) rfl
        rw [Nat.mul_one, Nat.add_zero] at y0
        rw [hn] at z0
        have hni : (n : Int) < (nt : Int) := by rw [HNT.out] at hnl; omega
        have hki : (k : Int) < (nf : Int) := by omega
        have hlo := (HM.out.funcs x.1 (List.mem_of_getElem? hxm)).nl
        have hnp := hT.np
        have hsl : ¬ 9223372036854775807 < t.p.size + x.1.locals.size := by omega
        have HSp := fun u => split_quiet (w := u) t hT.p hT.np hT.nq
        have hS := HS.out
        rw [dropC hxm, bodiesV] at hS
        have HS3 : Hid _ := hS
        have HFM : Hid (∀ (u u2 : World), Mw u mb m → ((u.alloc (.cells #[.pointer (some ⟨mb, 0, none⟩), .pointer (some ⟨g, k * 4, none⟩), .string (t.p ++ x.1.locals), .string t.q, .int .i64 0, .int .i64 0] 295)).alloc (.cells #[.string t.q] 9)).drew = u2 → _) := fun u u2 hu h2 => fn_m hu HM.out hx hT ht HG.out h2
        have HBo : Hid _ := HWu.out.body (List.mem_of_getElem? hx)
        clear hS HS hx hxm ht hT hn htn hfv gc tc tv HG
        go_wp2_with fail
        go_quiet (fail)
        go_wp2_with fail
        refine (HSp _).mono ?_
        rintro en w3 ⟨rfl, k3, rfl⟩
        go_wp2_with fail
        refine wp_genV ?_
        intro U hKU
        have hKU2 : Kp (fun _ => False) wr U := by first | exact hKU | exact ((Kp.refl _ _).drewM _).trans hKU
        have HKU : Hid (Kp (fun _ => False) w U) := HK.out.trans hKU2
        have HWU : Hid (Mw U mb m) := HWu.out.keep hKU2 (fun _ _ h => h)
        have d2 : U.cell? ⟨mb, 2, none⟩ = _ := (hKU2.cell (p := ⟨mb, 2, none⟩) (lt_of_cell c2) (fun h => h)).trans c2
        have d1 : U.cell? ⟨g, k * 4 + 1, none⟩ = _ := (hKU2.cell (p := ⟨g, k * 4 + 1, none⟩) (lt_of_cell z1) (fun h => h)).trans z1
        have s1 : mb < U.heap.size := lt_of_cell d2
        have s2 : g < U.heap.size := lt_of_cell d1
        clear hKU hKU2 c0 c2 z0 z1 y0
        go_region
        go_wp2_with fail
        refine (HFM.out U _ HWU.out rfl).mono ?_
        rintro en w9 ⟨pn, cl, er, a, rfl, hC, hK9, hc2, hcase⟩
        obtain ⟨ba, bc, hbv⟩ := HBo.out.1.slice
        rw [hbv] at hc2
        obtain ⟨nb, hnb⟩ : ∃ n, x.1.body.length = n := ⟨_, rfl⟩
        rw [hnb] at hc2 hcase
        have HK9 : Hid (Kp (fun _ => False) w w9) := HKU.out.trans hK9
        have HC9 : Hid _ := hC
        have y1 := hC.c1
        have y4 := hC.c4
        have y5 := hC.c5
        have HV := fun er' => vfail_m (w := w9) (cb := U.heap.size) (mb := mb) (pf := ⟨g, k * 4, none⟩) (loc := t.p ++ x.1.locals) (res := t.q) (a := a) er' 11 pn
        clear hK9 hbv hnb d1 d2 hC
        rcases hcase with ⟨he, hB9⟩ | ⟨rfl, hcl, hB9⟩
        · have HNZ : Hid (er ≠ 0) := he
          have HB9 : Hid ((bodyV m.mod x.1).2 = (a, er)) := hB9
          have heb : (er == 0) = false := by rw [beq_eq_false_iff_ne]; exact he
          have heb2 : (er != 0) = true := by simp [bne, heb]
          have HS4 : Hid (X = ((k : Int), a, er)) := by
            show X = _
            have h0 := HS3.out
            rw [if_neg (by rw [HB9.out]; exact HNZ.out), HB9.out] at h0
            exact h0
          clear he hB9 HV
          go_wp2_with fail
          go_quiet (fail)
          go_wp2_with fail
          refine bodyPost_ret (v := encVm X) (by rw [HS4.out]; simp [results, Tryz.results134, go_sem, encVm]) rfl ⟨rfl, HK9.out.drewM _⟩
        · by_cases hgood : cl = 11 ∧ pn = nb
          · obtain ⟨rfl, rfl⟩ := hgood
            have HB9 : Hid ((bodyV m.mod x.1).2 = (0, 0)) := by show _ = _; rw [hB9, if_pos ⟨rfl, rfl⟩]
            have HS4 : Hid (X = bodiesV m.mod (m.mod.funcs.drop (k + 1)) (k + 1)) := by
              show X = _
              have h0 := HS3.out
              rw [if_pos (by rw [HB9.out])] at h0
              exact h0
            clear hB9 HV hcl
            go_wp2_with fail
            go_roundw
            case rel => exact ⟨k + 1, by omega, by go_num, HK9.out, HS4.out⟩
            case measure => simp [intOf]; omega
          · have HB9 : Hid ((bodyV m.mod x.1).2 = (pn, 11)) := by show _ = _; rw [hB9, if_neg hgood]
            have HNZ : Hid ((11 : Int) ≠ 0) := by show (11 : Int) ≠ 0; decide
            have HS4 : Hid (X = ((k : Int), pn, 11)) := by
              show X = _
              have h0 := HS3.out
              rw [if_neg (by rw [HB9.out]; exact HNZ.out), HB9.out] at h0
              exact h0
            have HV2 := HV HC9.out
            clear HV hB9
            rcases hcl with rfl | rfl
            · clear hgood
              go_wp2_with fail
              refine HV2.mono ?_
              rintro en wV ⟨rfl, hCV, hKV⟩
              have v4 := hCV.c4
              have v5 := hCV.c5
              have HKV : Hid (Kp (fun _ => False) w wV) := HK9.out.later hKV (fun j hj => .inr (by have e : j = U.heap.size := hj; have := HKU.out.size; omega))
              clear hCV hKV y1 y4 y5
              go_wp2_with fail
              go_quiet (fail)
              go_wp2_with fail
              refine bodyPost_ret (v := encVm X) (by rw [HS4.out]; simp [results, Tryz.results134, go_sem, encVm]) rfl ⟨rfl, HKV.out.drewM _⟩
            · have hpn : ((pn : Int) == (nb : Int)) = false := by rw [beq_eq_false_iff_ne]; intro e; exact hgood ⟨rfl, by omega⟩
              have hpn2 : ((pn : Int) != (nb : Int)) = true := by simp [bne, hpn]
              have hpn3 : (pn == nb) = false := by rw [beq_eq_false_iff_ne]; intro e; exact hgood ⟨rfl, e⟩
              clear hgood
              go_wp2_with fail
              refine HV2.mono ?_
              rintro en wV ⟨rfl, hCV, hKV⟩
              have v4 := hCV.c4
              have v5 := hCV.c5
              have HKV : Hid (Kp (fun _ => False) w wV) := HK9.out.later hKV (fun j hj => .inr (by have e : j = U.heap.size := hj; have := HKU.out.size; omega))
              clear hCV hKV y1 y4 y5
              go_wp2_with fail
              go_quiet (fail)
              go_wp2_with fail
              refine bodyPost_ret (v := encVm X) (by rw [HS4.out]; simp [results, Tryz.results134, go_sem, encVm]) rfl ⟨rfl, HKV.out.drewM _⟩
      · have hkn : k = nf := by omega
        subst hkn
        have hki : decide ((k : Int) < (k : Int)) = false := decide_eq_false (by omega)
        have hS := HS.out
        rw [List.drop_of_length_le (by rw [HFL.out, HNF.out]; exact Nat.le_refl _), bodiesV, HFL.out, HNF.out] at hS
        have HS3 : Hid _ := hS
        clear hS HS hfv
        go_wp2
        refine bodyPost_ret (v := encVm X) (by rw [HS3.out]; simp [results, Tryz.results134, go_sem, encVm]) rfl ⟨rfl, HK.out⟩
end
end Go.Proofs.Qxb6500275aGreatDoor
