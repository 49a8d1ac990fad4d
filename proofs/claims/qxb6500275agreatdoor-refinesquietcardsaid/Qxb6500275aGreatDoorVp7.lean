import Derived.Test.Qxb6500275aGreatDoorVp2
import Derived.Test.Qxb6500275aGreatDoorVp3
import Derived.Test.Qxb6500275aGreatDoorVp4
import Derived.Test.Qxb6500275aGreatDoorVp5
import Derived.Test.Qxb6500275aGreatDoorVp6
set_option maxRecDepth 1000000
set_option linter.unusedVariables false
set_option linter.unusedSimpArgs false
namespace Go.Proofs.Qxb6500275aGreatDoor
open Go Go.RowKit
theorem limV_t {lo hi mx : Int} (h1 : ¬ mx < lo) (h2 : hi = -1 ∨ lo ≤ hi) : ¬ limitsV lo hi mx = false := by
  unfold limitsV
  rw [if_neg h1, decide_eq_true h2]
  decide
theorem limV_f1 {lo hi mx : Int} (h1 : mx < lo) : limitsV lo hi mx = false := by
  unfold limitsV
  rw [if_pos h1]
theorem limV_f2 {lo hi mx : Int} (h1 : ¬ mx < lo) (h2 : ¬ (hi = -1 ∨ lo ≤ hi)) : limitsV lo hi mx = false := by
  unfold limitsV
  rw [if_neg h1, decide_eq_false h2]
def encPm (o : Option (Nat × Int)) : Value := match o with
  | none => .tuple #[.int .i64 0, .int .i64 0]
  | some r => .tuple #[.int .i64 (r.1 : Int), .int .i64 r.2]
def partsX (M : Mod) (X1 X3 X4 X5 X6 X7 : Option (Nat × Int)) : Option (Nat × Int) := match X1 with
  | some r => some r
  | none => if limitsV M.tabMin M.tabMax 8 = false then some (0, 16) else if limitsV M.memMin M.memMax 6 = false then some (1, 16) else match X3 with
    | some r => some r
    | none => match X4 with
      | some r => some r
      | none => match X5 with
        | some r => some r
        | none => match X6 with
          | some r => some r
          | none => X7
theorem partsV_eq (M : Mod) : partsV M = partsX M (typesV M (M.imports.length + M.funcs.length) 0) (globsV M.globals 0) (expsV M [] M.exports 0) (startV M) (elmsV M M.elems 0) (datsV M M.datas 0) := rfl
set_option maxHeartbeats 16000000 in
theorem parts_m {w : World} {mb : Nat} {m : MT} (h : Mw w mb m) (hM : ModOk m.mod) : Calls Tryz.prog 188 #[.pointer (some ⟨mb, 0, none⟩)] w (fun en w' => en = .returned (encPm (partsV m.mod)) ∧ Kp (fun _ => False) w w') := by
  obtain ⟨X1, h1⟩ : ∃ X, typesV m.mod (m.mod.imports.length + m.mod.funcs.length) 0 = X := ⟨_, rfl⟩
  obtain ⟨X3, h3⟩ : ∃ X, globsV m.mod.globals 0 = X := ⟨_, rfl⟩
  obtain ⟨X4, h4⟩ : ∃ X, expsV m.mod [] m.mod.exports 0 = X := ⟨_, rfl⟩
  obtain ⟨X5, h5⟩ : ∃ X, startV m.mod = X := ⟨_, rfl⟩
  obtain ⟨X6, h6⟩ : ∃ X, elmsV m.mod m.mod.elems 0 = X := ⟨_, rfl⟩
  obtain ⟨X7, h7⟩ : ∃ X, datsV m.mod m.mod.datas 0 = X := ⟨_, rfl⟩
  have HP : Hid (partsV m.mod = partsX m.mod X1 X3 X4 X5 X6 X7) := by show _ = _; rw [partsV_eq, h1, h3, h4, h5, h6, h7]
  have hfl : m.mod.funcs.length = m.fs.length := by unfold MT.mod; simp
  have h1' : typesV m.mod (m.imports.length + m.fs.length) 0 = X1 := by rw [← h1, hfl]; rfl
  have H1 : Hid _ := h1'
  have H3 : Hid (globsV m.globals 0 = X3) := h3
  have H4 : Hid (expsV m.mod [] m.exports 0 = X4) := h4
  have H5 : Hid _ := h5
  have H6 : Hid _ := h6
  have H7 : Hid (datsV m.mod m.datas 0 = X7) := h7
  have HM : Hid (ModOk m.mod) := hM
  have HW : Hid (Mw w mb m) := h
  obtain ⟨ni, hni⟩ : ∃ n, m.imports.length = n := ⟨_, rfl⟩
  obtain ⟨nfs, hnfs⟩ : ∃ n, m.fs.length = n := ⟨_, rfl⟩
  have hni4 : ni ≤ 4 := hni ▸ hM.ni
  have hnf8 : nfs ≤ 8 := by rw [← hnfs, ← hfl]; exact hM.nf
  have HNF : Hid (m.mod.imports.length + m.mod.funcs.length = ni + nfs) := by show _ = _; rw [hfl, hnfs, ← hni]; rfl
  obtain ⟨ia, ic, hiv⟩ := h.slIm
  obtain ⟨fa, fc, hfv⟩ := h.slFn
  have c1 := h.c1
  have c2 := h.c2
  rw [hiv, hni] at c1
  rw [hfv, hnfs] at c2
  have ht1 : -1 ≤ m.tabMin ∧ m.tabMin < 4294967296 := hM.tabMin
  have ht2 : -1 ≤ m.tabMax ∧ m.tabMax < 4294967296 := hM.tabMax
  have hm1 : -1 ≤ m.memMin ∧ m.memMin < 4294967296 := hM.memMin
  have hm2 : -1 ≤ m.memMax ∧ m.memMax < 4294967296 := hM.memMax
  have hst : -1 ≤ m.start ∧ m.start < 4294967296 := hM.start
  clear h hM h1 h1' h3 h4 h5 h6 h7 hiv hfv hfl
  go_enter Tryz.func188, Tryz.ntmps188
  go_wp2_with fail
  go_quiet (fail)
  go_wp2_with fail
  refine parts_l1 (nf := ni + nfs) HM.out HW.out ((Kp.refl _ _).drewM _) (by kernel_rfl) rfl H1.out ?_ ?_
  · intro tmps' w1 ht hk hP1
    generalize (fun j => tmps'.getD j undef) = u' at ht
    subst ht
    have HKw1 : Hid _ := hk
    have HNw1 : Hid _ := hP1
    clear hk hP1
    unfold fr188
    go_wp2_with fail
    refine parts_l2 (nf := ni + nfs) HM.out HW.out HKw1.out (by kernel_rfl) rfl HNw1.out ?_ ?_
    · intro tmps' w2 ht hk hP1
      generalize (fun j => tmps'.getD j undef) = u' at ht
      subst ht
      have HKw2 : Hid _ := hk
      have HNw2 : Hid _ := hP1
      clear hk hP1
      unfold fr188
      have da1 := (HW.out.keep HKw2.out (fun _ _ h => h)).c3
      have da2 := (HW.out.keep HKw2.out (fun _ _ h => h)).c4
      by_cases ga1 : 8 < m.tabMin
      · have HLa : Hid (limitsV m.mod.tabMin m.mod.tabMax 8 = false) := limV_f1 ga1
        have ea1 : decide ((8 : Int) < m.tabMin) = true := decide_eq_true ga1
        go_wp2_with fail
        go_quiet (fail)
        go_wp2_with fail
        go_ret2
        exact ⟨by rw [HP.out]; simp [encPm, partsX, HNw2.out, HLa.out], (HKw2.out).drewM _⟩
      · have ea1 : decide ((8 : Int) < m.tabMin) = false := decide_eq_false ga1
        by_cases ga2 : m.tabMax = -1
        · have HLa : Hid (¬ limitsV m.mod.tabMin m.mod.tabMax 8 = false) := limV_t ga1 (.inl ga2)
          rw [ga2] at da2
          have ea2 : ((-1 : Int) != -1) = false := by decide
          go_wp2_with fail
          go_quiet (fail)
          have db1 := (HW.out.keep HKw2.out (fun _ _ h => h)).c5
          have db2 := (HW.out.keep HKw2.out (fun _ _ h => h)).c6
          by_cases gb1 : 6 < m.memMin
          · have HLb : Hid (limitsV m.mod.memMin m.mod.memMax 6 = false) := limV_f1 gb1
            have eb1 : decide ((6 : Int) < m.memMin) = true := decide_eq_true gb1
            go_wp2_with fail
            go_quiet (fail)
            go_wp2_with fail
            go_ret2
            exact ⟨by rw [HP.out]; simp [encPm, partsX, HNw2.out, HLa.out, HLb.out], ((HKw2.out.drewM _)).drewM _⟩
          · have eb1 : decide ((6 : Int) < m.memMin) = false := decide_eq_false gb1
            by_cases gb2 : m.memMax = -1
            · have HLb : Hid (¬ limitsV m.mod.memMin m.mod.memMax 6 = false) := limV_t gb1 (.inl gb2)
              rw [gb2] at db2
              have eb2 : ((-1 : Int) != -1) = false := by decide
              go_wp2_with fail
              go_quiet (fail)
              go_wp2_with fail
              refine parts_l3 (nf := ni + nfs) HM.out HW.out ((HKw2.out.drewM _).drewM _) (by kernel_rfl) rfl H3.out ?_ ?_
              · intro tmps' w3 ht hk hP1
                generalize (fun j => tmps'.getD j undef) = u' at ht
                subst ht
                have HKw3 : Hid _ := hk
                have HNw3 : Hid _ := hP1
                clear hk hP1
                unfold fr188
                go_wp2_with fail
                refine parts_l4 (nf := ni + nfs) HM.out HW.out HKw3.out HNF.out (by kernel_rfl) rfl H4.out ?_ ?_
                · intro tmps' w4 ht hk hP1
                  generalize (fun j => tmps'.getD j undef) = u' at ht
                  subst ht
                  have HKw4 : Hid _ := hk
                  have HNw4 : Hid _ := hP1
                  clear hk hP1
                  unfold fr188
                  have c9 := (HW.out.keep HKw4.out (fun _ _ h => h)).c9
                  by_cases hs1 : m.start = -1
                  · have HS5 : Hid (X5 = none) := by show X5 = none; rw [← H5.out]; unfold startV; exact if_pos hs1
                    rw [hs1] at c9
                    go_wp2_with fail
                    refine parts_l5 (nf := ni + nfs) HM.out HW.out HKw4.out HNF.out (by kernel_rfl) rfl H6.out ?_ ?_
                    · intro tmps' w6 ht hk hP1
                      generalize (fun j => tmps'.getD j undef) = u' at ht
                      subst ht
                      have HKw6 : Hid _ := hk
                      have HNw6 : Hid _ := hP1
                      clear hk hP1
                      unfold fr188
                      go_wp2_with fail
                      refine parts_l6 (nf := ni + nfs) HM.out HW.out HKw6.out (by kernel_rfl) rfl H7.out ?_ ?_
                      · intro tmps' w7 ht hk hP1
                        generalize (fun j => tmps'.getD j undef) = u' at ht
                        subst ht
                        have HKw7 : Hid _ := hk
                        have HNw7 : Hid _ := hP1
                        clear hk hP1
                        unfold fr188
                        go_wp2_with fail
                        go_ret2
                        exact ⟨by rw [HP.out]; simp [encPm, partsX, HNw2.out, HLa.out, HLb.out, HNw3.out, HNw4.out, HS5.out, HNw6.out, HNw7.out], HKw7.out⟩
                      · intro tmps' w' i e hX h2 h3 hk
                        simp only [Exit.inBlock, Exit.then]
                        go_ret2
                        exact ⟨by rw [h2, h3, HP.out]; simp [encPm, partsX, HNw2.out, HLa.out, HLb.out, HNw3.out, HNw4.out, HS5.out, HNw6.out, hX], hk⟩
                    · intro tmps' w' i e hX h2 h3 hk
                      simp only [Exit.inBlock, Exit.then]
                      go_ret2
                      exact ⟨by rw [h2, h3, HP.out]; simp [encPm, partsX, HNw2.out, HLa.out, HLb.out, HNw3.out, HNw4.out, HS5.out, hX], hk⟩
                  · have hsb : (m.start == -1) = false := by rw [beq_eq_false_iff_ne]; exact hs1
                    have hsb2 : (m.start != -1) = true := by simp [bne, hsb]
                    have HT := typeOf_m (HW.out.keep HKw4.out (fun _ _ h => h)) HM.out m.start hst
                    have hS5 := H5.out
                    unfold startV at hS5
                    rw [if_neg (show ¬ m.mod.start = -1 from hs1)] at hS5
                    cases hto : m.mod.typeOf m.start with
                    | none =>
                      rw [show m.mod.typeOf m.mod.start = none from hto] at hS5
                      rw [hto] at HT
                      unfold encTo at HT
                      dsimp only at HT hS5
                      have HS5 : Hid (X5 = some (0, 15)) := hS5.symm
                      clear hS5 hto
                      go_wp2_with fail
                      refine HT.mono ?_
                      rintro en w9 ⟨rfl, k9, rfl⟩
                      go_wp2_with fail
                      go_ret2
                      exact ⟨by rw [HP.out]; simp [encPm, partsX, HNw2.out, HLa.out, HLb.out, HNw3.out, HNw4.out, HS5.out], (HKw4.out).drewM _⟩
                    | some t =>
                      rw [show m.mod.typeOf m.mod.start = some t from hto] at hS5
                      rw [hto] at HT
                      unfold encTo at HT
                      dsimp only at HT hS5
                      by_cases htx : t.text = colon
                      · rw [if_pos htx] at hS5
                        have HS5 : Hid (X5 = none) := hS5.symm
                        rw [htx] at HT
                        unfold colon at HT
                        clear hS5 hto htx
                        go_wp2_with fail
                        refine HT.mono ?_
                        rintro en w9 ⟨rfl, k9, rfl⟩
                        have HK9 : Hid _ := (HKw4.out).drewM k9
                        go_wp2_with fail
                        refine parts_l5 (nf := ni + nfs) HM.out HW.out HK9.out HNF.out (by kernel_rfl) rfl H6.out ?_ ?_
                        · intro tmps' w6 ht hk hP1
                          generalize (fun j => tmps'.getD j undef) = u' at ht
                          subst ht
                          have HKw6 : Hid _ := hk
                          have HNw6 : Hid _ := hP1
                          clear hk hP1
                          unfold fr188
                          go_wp2_with fail
                          refine parts_l6 (nf := ni + nfs) HM.out HW.out HKw6.out (by kernel_rfl) rfl H7.out ?_ ?_
                          · intro tmps' w7 ht hk hP1
                            generalize (fun j => tmps'.getD j undef) = u' at ht
                            subst ht
                            have HKw7 : Hid _ := hk
                            have HNw7 : Hid _ := hP1
                            clear hk hP1
                            unfold fr188
                            go_wp2_with fail
                            go_ret2
                            exact ⟨by rw [HP.out]; simp [encPm, partsX, HNw2.out, HLa.out, HLb.out, HNw3.out, HNw4.out, HS5.out, HNw6.out, HNw7.out], HKw7.out⟩
                          · intro tmps' w' i e hX h2 h3 hk
                            simp only [Exit.inBlock, Exit.then]
                            go_ret2
                            exact ⟨by rw [h2, h3, HP.out]; simp [encPm, partsX, HNw2.out, HLa.out, HLb.out, HNw3.out, HNw4.out, HS5.out, HNw6.out, hX], hk⟩
                        · intro tmps' w' i e hX h2 h3 hk
                          simp only [Exit.inBlock, Exit.then]
                          go_ret2
                          exact ⟨by rw [h2, h3, HP.out]; simp [encPm, partsX, HNw2.out, HLa.out, HLb.out, HNw3.out, HNw4.out, HS5.out, hX], hk⟩
                      · rw [if_neg htx] at hS5
                        have HS5 : Hid (X5 = some (0, 19)) := hS5.symm
                        have hcb : (t.text.toList == (⟨#[58]⟩ : ByteArray).toList) = false := by rw [beq_eq_false_iff_ne]; intro e; exact htx (bytes_xt e)
                        have hcb2 : (t.text.toList == [58]) = false := by
                          rw [beq_eq_false_iff_ne]
                          intro e
                          refine htx (bytes_xt ?_)
                          rw [e, Go.ByteArray.toList_eq]
                          rfl
                        clear hS5 hto htx
                        go_wp2_with fail
                        refine HT.mono ?_
                        rintro en w9 ⟨rfl, k9, rfl⟩
                        go_wp2_with fail
                        go_ret2
                        exact ⟨by rw [HP.out]; simp [encPm, partsX, HNw2.out, HLa.out, HLb.out, HNw3.out, HNw4.out, HS5.out], (HKw4.out).drewM _⟩
                · intro tmps' w' i e hX h2 h3 hk
                  simp only [Exit.inBlock, Exit.then]
                  go_ret2
                  exact ⟨by rw [h2, h3, HP.out]; simp [encPm, partsX, HNw2.out, HLa.out, HLb.out, HNw3.out, hX], hk⟩
              · intro tmps' w' i e hX h2 h3 hk
                simp only [Exit.inBlock, Exit.then]
                go_ret2
                exact ⟨by rw [h2, h3, HP.out]; simp [encPm, partsX, HNw2.out, HLa.out, HLb.out, hX], hk⟩
            · have eb2 : (m.memMax == -1) = false := by rw [beq_eq_false_iff_ne]; exact gb2
              have eb3 : (m.memMax != -1) = true := by simp [bne, eb2]
              by_cases gb3 : m.memMax < m.memMin
              · have HLb : Hid (limitsV m.mod.memMin m.mod.memMax 6 = false) := limV_f2 gb1 (fun h => h.elim (fun h => gb2 h) (fun h => absurd gb3 (Int.not_lt.2 h)))
                have eb4 : decide (m.memMax < m.memMin) = true := decide_eq_true gb3
                go_wp2_with fail
                go_quiet (fail)
                go_wp2_with fail
                go_ret2
                exact ⟨by rw [HP.out]; simp [encPm, partsX, HNw2.out, HLa.out, HLb.out], ((HKw2.out.drewM _)).drewM _⟩
              · have HLb : Hid (¬ limitsV m.mod.memMin m.mod.memMax 6 = false) := limV_t gb1 (.inr (Int.not_lt.1 gb3))
                have eb4 : decide (m.memMax < m.memMin) = false := decide_eq_false gb3
                go_wp2_with fail
                go_quiet (fail)
                go_wp2_with fail
                refine parts_l3 (nf := ni + nfs) HM.out HW.out ((HKw2.out.drewM _).drewM _) (by kernel_rfl) rfl H3.out ?_ ?_
                · intro tmps' w3 ht hk hP1
                  generalize (fun j => tmps'.getD j undef) = u' at ht
                  subst ht
                  have HKw3 : Hid _ := hk
                  have HNw3 : Hid _ := hP1
                  clear hk hP1
                  unfold fr188
                  go_wp2_with fail
                  refine parts_l4 (nf := ni + nfs) HM.out HW.out HKw3.out HNF.out (by kernel_rfl) rfl H4.out ?_ ?_
                  · intro tmps' w4 ht hk hP1
                    generalize (fun j => tmps'.getD j undef) = u' at ht
                    subst ht
                    have HKw4 : Hid _ := hk
                    have HNw4 : Hid _ := hP1
                    clear hk hP1
                    unfold fr188
                    have c9 := (HW.out.keep HKw4.out (fun _ _ h => h)).c9
                    by_cases hs1 : m.start = -1
                    · have HS5 : Hid (X5 = none) := by show X5 = none; rw [← H5.out]; unfold startV; exact if_pos hs1
                      rw [hs1] at c9
                      go_wp2_with fail
                      refine parts_l5 (nf := ni + nfs) HM.out HW.out HKw4.out HNF.out (by kernel_rfl) rfl H6.out ?_ ?_
                      · intro tmps' w6 ht hk hP1
                        generalize (fun j => tmps'.getD j undef) = u' at ht
                        subst ht
                        have HKw6 : Hid _ := hk
                        have HNw6 : Hid _ := hP1
                        clear hk hP1
                        unfold fr188
                        go_wp2_with fail
                        refine parts_l6 (nf := ni + nfs) HM.out HW.out HKw6.out (by kernel_rfl) rfl H7.out ?_ ?_
                        · intro tmps' w7 ht hk hP1
                          generalize (fun j => tmps'.getD j undef) = u' at ht
                          subst ht
                          have HKw7 : Hid _ := hk
                          have HNw7 : Hid _ := hP1
                          clear hk hP1
                          unfold fr188
                          go_wp2_with fail
                          go_ret2
                          exact ⟨by rw [HP.out]; simp [encPm, partsX, HNw2.out, HLa.out, HLb.out, HNw3.out, HNw4.out, HS5.out, HNw6.out, HNw7.out], HKw7.out⟩
                        · intro tmps' w' i e hX h2 h3 hk
                          simp only [Exit.inBlock, Exit.then]
                          go_ret2
                          exact ⟨by rw [h2, h3, HP.out]; simp [encPm, partsX, HNw2.out, HLa.out, HLb.out, HNw3.out, HNw4.out, HS5.out, HNw6.out, hX], hk⟩
                      · intro tmps' w' i e hX h2 h3 hk
                        simp only [Exit.inBlock, Exit.then]
                        go_ret2
                        exact ⟨by rw [h2, h3, HP.out]; simp [encPm, partsX, HNw2.out, HLa.out, HLb.out, HNw3.out, HNw4.out, HS5.out, hX], hk⟩
                    · have hsb : (m.start == -1) = false := by rw [beq_eq_false_iff_ne]; exact hs1
                      have hsb2 : (m.start != -1) = true := by simp [bne, hsb]
                      have HT := typeOf_m (HW.out.keep HKw4.out (fun _ _ h => h)) HM.out m.start hst
                      have hS5 := H5.out
                      unfold startV at hS5
                      rw [if_neg (show ¬ m.mod.start = -1 from hs1)] at hS5
                      cases hto : m.mod.typeOf m.start with
                      | none =>
                        rw [show m.mod.typeOf m.mod.start = none from hto] at hS5
                        rw [hto] at HT
                        unfold encTo at HT
                        dsimp only at HT hS5
                        have HS5 : Hid (X5 = some (0, 15)) := hS5.symm
                        clear hS5 hto
                        go_wp2_with fail
                        refine HT.mono ?_
                        rintro en w9 ⟨rfl, k9, rfl⟩
                        go_wp2_with fail
                        go_ret2
                        exact ⟨by rw [HP.out]; simp [encPm, partsX, HNw2.out, HLa.out, HLb.out, HNw3.out, HNw4.out, HS5.out], (HKw4.out).drewM _⟩
                      | some t =>
                        rw [show m.mod.typeOf m.mod.start = some t from hto] at hS5
                        rw [hto] at HT
                        unfold encTo at HT
                        dsimp only at HT hS5
                        by_cases htx : t.text = colon
                        · rw [if_pos htx] at hS5
                          have HS5 : Hid (X5 = none) := hS5.symm
                          rw [htx] at HT
                          unfold colon at HT
                          clear hS5 hto htx
                          go_wp2_with fail
                          refine HT.mono ?_
                          rintro en w9 ⟨rfl, k9, rfl⟩
                          have HK9 : Hid _ := (HKw4.out).drewM k9
                          go_wp2_with fail
                          refine parts_l5 (nf := ni + nfs) HM.out HW.out HK9.out HNF.out (by kernel_rfl) rfl H6.out ?_ ?_
                          · intro tmps' w6 ht hk hP1
                            generalize (fun j => tmps'.getD j undef) = u' at ht
                            subst ht
                            have HKw6 : Hid _ := hk
                            have HNw6 : Hid _ := hP1
                            clear hk hP1
                            unfold fr188
                            go_wp2_with fail
                            refine parts_l6 (nf := ni + nfs) HM.out HW.out HKw6.out (by kernel_rfl) rfl H7.out ?_ ?_
                            · intro tmps' w7 ht hk hP1
                              generalize (fun j => tmps'.getD j undef) = u' at ht
                              subst ht
                              have HKw7 : Hid _ := hk
                              have HNw7 : Hid _ := hP1
                              clear hk hP1
                              unfold fr188
                              go_wp2_with fail
                              go_ret2
                              exact ⟨by rw [HP.out]; simp [encPm, partsX, HNw2.out, HLa.out, HLb.out, HNw3.out, HNw4.out, HS5.out, HNw6.out, HNw7.out], HKw7.out⟩
                            · intro tmps' w' i e hX h2 h3 hk
                              simp only [Exit.inBlock, Exit.then]
                              go_ret2
                              exact ⟨by rw [h2, h3, HP.out]; simp [encPm, partsX, HNw2.out, HLa.out, HLb.out, HNw3.out, HNw4.out, HS5.out, HNw6.out, hX], hk⟩
                          · intro tmps' w' i e hX h2 h3 hk
                            simp only [Exit.inBlock, Exit.then]
                            go_ret2
                            exact ⟨by rw [h2, h3, HP.out]; simp [encPm, partsX, HNw2.out, HLa.out, HLb.out, HNw3.out, HNw4.out, HS5.out, hX], hk⟩
                        · rw [if_neg htx] at hS5
                          have HS5 : Hid (X5 = some (0, 19)) := hS5.symm
                          have hcb : (t.text.toList == (⟨#[58]⟩ : ByteArray).toList) = false := by rw [beq_eq_false_iff_ne]; intro e; exact htx (bytes_xt e)
                          have hcb2 : (t.text.toList == [58]) = false := by
                            rw [beq_eq_false_iff_ne]
                            intro e
                            refine htx (bytes_xt ?_)
                            rw [e, Go.ByteArray.toList_eq]
                            rfl
                          clear hS5 hto htx
                          go_wp2_with fail
                          refine HT.mono ?_
                          rintro en w9 ⟨rfl, k9, rfl⟩
                          go_wp2_with fail
                          go_ret2
                          exact ⟨by rw [HP.out]; simp [encPm, partsX, HNw2.out, HLa.out, HLb.out, HNw3.out, HNw4.out, HS5.out], (HKw4.out).drewM _⟩
                  · intro tmps' w' i e hX h2 h3 hk
                    simp only [Exit.inBlock, Exit.then]
                    go_ret2
                    exact ⟨by rw [h2, h3, HP.out]; simp [encPm, partsX, HNw2.out, HLa.out, HLb.out, HNw3.out, hX], hk⟩
                · intro tmps' w' i e hX h2 h3 hk
                  simp only [Exit.inBlock, Exit.then]
                  go_ret2
                  exact ⟨by rw [h2, h3, HP.out]; simp [encPm, partsX, HNw2.out, HLa.out, HLb.out, hX], hk⟩
        · have ea2 : (m.tabMax == -1) = false := by rw [beq_eq_false_iff_ne]; exact ga2
          have ea3 : (m.tabMax != -1) = true := by simp [bne, ea2]
          by_cases ga3 : m.tabMax < m.tabMin
          · have HLa : Hid (limitsV m.mod.tabMin m.mod.tabMax 8 = false) := limV_f2 ga1 (fun h => h.elim (fun h => ga2 h) (fun h => absurd ga3 (Int.not_lt.2 h)))
            have ea4 : decide (m.tabMax < m.tabMin) = true := decide_eq_true ga3
            go_wp2_with fail
            go_quiet (fail)
            go_wp2_with fail
            go_ret2
            exact ⟨by rw [HP.out]; simp [encPm, partsX, HNw2.out, HLa.out], (HKw2.out).drewM _⟩
          · have HLa : Hid (¬ limitsV m.mod.tabMin m.mod.tabMax 8 = false) := limV_t ga1 (.inr (Int.not_lt.1 ga3))
            have ea4 : decide (m.tabMax < m.tabMin) = false := decide_eq_false ga3
            go_wp2_with fail
            go_quiet (fail)
            have db1 := (HW.out.keep HKw2.out (fun _ _ h => h)).c5
            have db2 := (HW.out.keep HKw2.out (fun _ _ h => h)).c6
            by_cases gb1 : 6 < m.memMin
            · have HLb : Hid (limitsV m.mod.memMin m.mod.memMax 6 = false) := limV_f1 gb1
              have eb1 : decide ((6 : Int) < m.memMin) = true := decide_eq_true gb1
              go_wp2_with fail
              go_quiet (fail)
              go_wp2_with fail
              go_ret2
              exact ⟨by rw [HP.out]; simp [encPm, partsX, HNw2.out, HLa.out, HLb.out], ((HKw2.out.drewM _)).drewM _⟩
            · have eb1 : decide ((6 : Int) < m.memMin) = false := decide_eq_false gb1
              by_cases gb2 : m.memMax = -1
              · have HLb : Hid (¬ limitsV m.mod.memMin m.mod.memMax 6 = false) := limV_t gb1 (.inl gb2)
                rw [gb2] at db2
                have eb2 : ((-1 : Int) != -1) = false := by decide
                go_wp2_with fail
                go_quiet (fail)
                go_wp2_with fail
                refine parts_l3 (nf := ni + nfs) HM.out HW.out ((HKw2.out.drewM _).drewM _) (by kernel_rfl) rfl H3.out ?_ ?_
                · intro tmps' w3 ht hk hP1
                  generalize (fun j => tmps'.getD j undef) = u' at ht
                  subst ht
                  have HKw3 : Hid _ := hk
                  have HNw3 : Hid _ := hP1
                  clear hk hP1
                  unfold fr188
                  go_wp2_with fail
                  refine parts_l4 (nf := ni + nfs) HM.out HW.out HKw3.out HNF.out (by kernel_rfl) rfl H4.out ?_ ?_
                  · intro tmps' w4 ht hk hP1
                    generalize (fun j => tmps'.getD j undef) = u' at ht
                    subst ht
                    have HKw4 : Hid _ := hk
                    have HNw4 : Hid _ := hP1
                    clear hk hP1
                    unfold fr188
                    have c9 := (HW.out.keep HKw4.out (fun _ _ h => h)).c9
                    by_cases hs1 : m.start = -1
                    · have HS5 : Hid (X5 = none) := by show X5 = none; rw [← H5.out]; unfold startV; exact if_pos hs1
                      rw [hs1] at c9
                      go_wp2_with fail
                      refine parts_l5 (nf := ni + nfs) HM.out HW.out HKw4.out HNF.out (by kernel_rfl) rfl H6.out ?_ ?_
                      · intro tmps' w6 ht hk hP1
                        generalize (fun j => tmps'.getD j undef) = u' at ht
                        subst ht
                        have HKw6 : Hid _ := hk
                        have HNw6 : Hid _ := hP1
                        clear hk hP1
                        unfold fr188
                        go_wp2_with fail
                        refine parts_l6 (nf := ni + nfs) HM.out HW.out HKw6.out (by kernel_rfl) rfl H7.out ?_ ?_
                        · intro tmps' w7 ht hk hP1
                          generalize (fun j => tmps'.getD j undef) = u' at ht
                          subst ht
                          have HKw7 : Hid _ := hk
                          have HNw7 : Hid _ := hP1
                          clear hk hP1
                          unfold fr188
                          go_wp2_with fail
                          go_ret2
                          exact ⟨by rw [HP.out]; simp [encPm, partsX, HNw2.out, HLa.out, HLb.out, HNw3.out, HNw4.out, HS5.out, HNw6.out, HNw7.out], HKw7.out⟩
                        · intro tmps' w' i e hX h2 h3 hk
                          simp only [Exit.inBlock, Exit.then]
                          go_ret2
                          exact ⟨by rw [h2, h3, HP.out]; simp [encPm, partsX, HNw2.out, HLa.out, HLb.out, HNw3.out, HNw4.out, HS5.out, HNw6.out, hX], hk⟩
                      · intro tmps' w' i e hX h2 h3 hk
                        simp only [Exit.inBlock, Exit.then]
                        go_ret2
                        exact ⟨by rw [h2, h3, HP.out]; simp [encPm, partsX, HNw2.out, HLa.out, HLb.out, HNw3.out, HNw4.out, HS5.out, hX], hk⟩
                    · have hsb : (m.start == -1) = false := by rw [beq_eq_false_iff_ne]; exact hs1
                      have hsb2 : (m.start != -1) = true := by simp [bne, hsb]
                      have HT := typeOf_m (HW.out.keep HKw4.out (fun _ _ h => h)) HM.out m.start hst
                      have hS5 := H5.out
                      unfold startV at hS5
                      rw [if_neg (show ¬ m.mod.start = -1 from hs1)] at hS5
                      cases hto : m.mod.typeOf m.start with
                      | none =>
                        rw [show m.mod.typeOf m.mod.start = none from hto] at hS5
                        rw [hto] at HT
                        unfold encTo at HT
                        dsimp only at HT hS5
                        have HS5 : Hid (X5 = some (0, 15)) := hS5.symm
                        clear hS5 hto
                        go_wp2_with fail
                        refine HT.mono ?_
                        rintro en w9 ⟨rfl, k9, rfl⟩
                        go_wp2_with fail
                        go_ret2
                        exact ⟨by rw [HP.out]; simp [encPm, partsX, HNw2.out, HLa.out, HLb.out, HNw3.out, HNw4.out, HS5.out], (HKw4.out).drewM _⟩
                      | some t =>
                        rw [show m.mod.typeOf m.mod.start = some t from hto] at hS5
                        rw [hto] at HT
                        unfold encTo at HT
                        dsimp only at HT hS5
                        by_cases htx : t.text = colon
                        · rw [if_pos htx] at hS5
                          have HS5 : Hid (X5 = none) := hS5.symm
                          rw [htx] at HT
                          unfold colon at HT
                          clear hS5 hto htx
                          go_wp2_with fail
                          refine HT.mono ?_
                          rintro en w9 ⟨rfl, k9, rfl⟩
                          have HK9 : Hid _ := (HKw4.out).drewM k9
                          go_wp2_with fail
                          refine parts_l5 (nf := ni + nfs) HM.out HW.out HK9.out HNF.out (by kernel_rfl) rfl H6.out ?_ ?_
                          · intro tmps' w6 ht hk hP1
                            generalize (fun j => tmps'.getD j undef) = u' at ht
                            subst ht
                            have HKw6 : Hid _ := hk
                            have HNw6 : Hid _ := hP1
                            clear hk hP1
                            unfold fr188
                            go_wp2_with fail
                            refine parts_l6 (nf := ni + nfs) HM.out HW.out HKw6.out (by kernel_rfl) rfl H7.out ?_ ?_
                            · intro tmps' w7 ht hk hP1
                              generalize (fun j => tmps'.getD j undef) = u' at ht
                              subst ht
                              have HKw7 : Hid _ := hk
                              have HNw7 : Hid _ := hP1
                              clear hk hP1
                              unfold fr188
                              go_wp2_with fail
                              go_ret2
                              exact ⟨by rw [HP.out]; simp [encPm, partsX, HNw2.out, HLa.out, HLb.out, HNw3.out, HNw4.out, HS5.out, HNw6.out, HNw7.out], HKw7.out⟩
                            · intro tmps' w' i e hX h2 h3 hk
                              simp only [Exit.inBlock, Exit.then]
                              go_ret2
                              exact ⟨by rw [h2, h3, HP.out]; simp [encPm, partsX, HNw2.out, HLa.out, HLb.out, HNw3.out, HNw4.out, HS5.out, HNw6.out, hX], hk⟩
                          · intro tmps' w' i e hX h2 h3 hk
                            simp only [Exit.inBlock, Exit.then]
                            go_ret2
                            exact ⟨by rw [h2, h3, HP.out]; simp [encPm, partsX, HNw2.out, HLa.out, HLb.out, HNw3.out, HNw4.out, HS5.out, hX], hk⟩
                        · rw [if_neg htx] at hS5
                          have HS5 : Hid (X5 = some (0, 19)) := hS5.symm
                          have hcb : (t.text.toList == (⟨#[58]⟩ : ByteArray).toList) = false := by rw [beq_eq_false_iff_ne]; intro e; exact htx (bytes_xt e)
                          have hcb2 : (t.text.toList == [58]) = false := by
                            rw [beq_eq_false_iff_ne]
                            intro e
                            refine htx (bytes_xt ?_)
                            rw [e, Go.ByteArray.toList_eq]
                            rfl
                          clear hS5 hto htx
                          go_wp2_with fail
                          refine HT.mono ?_
                          rintro en w9 ⟨rfl, k9, rfl⟩
                          go_wp2_with fail
                          go_ret2
                          exact ⟨by rw [HP.out]; simp [encPm, partsX, HNw2.out, HLa.out, HLb.out, HNw3.out, HNw4.out, HS5.out], (HKw4.out).drewM _⟩
                  · intro tmps' w' i e hX h2 h3 hk
                    simp only [Exit.inBlock, Exit.then]
                    go_ret2
                    exact ⟨by rw [h2, h3, HP.out]; simp [encPm, partsX, HNw2.out, HLa.out, HLb.out, HNw3.out, hX], hk⟩
                · intro tmps' w' i e hX h2 h3 hk
                  simp only [Exit.inBlock, Exit.then]
                  go_ret2
                  exact ⟨by rw [h2, h3, HP.out]; simp [encPm, partsX, HNw2.out, HLa.out, HLb.out, hX], hk⟩
              · have eb2 : (m.memMax == -1) = false := by rw [beq_eq_false_iff_ne]; exact gb2
                have eb3 : (m.memMax != -1) = true := by simp [bne, eb2]
                by_cases gb3 : m.memMax < m.memMin
                · have HLb : Hid (limitsV m.mod.memMin m.mod.memMax 6 = false) := limV_f2 gb1 (fun h => h.elim (fun h => gb2 h) (fun h => absurd gb3 (Int.not_lt.2 h)))
                  have eb4 : decide (m.memMax < m.memMin) = true := decide_eq_true gb3
                  go_wp2_with fail
                  go_quiet (fail)
                  go_wp2_with fail
                  go_ret2
                  exact ⟨by rw [HP.out]; simp [encPm, partsX, HNw2.out, HLa.out, HLb.out], ((HKw2.out.drewM _)).drewM _⟩
                · have HLb : Hid (¬ limitsV m.mod.memMin m.mod.memMax 6 = false) := limV_t gb1 (.inr (Int.not_lt.1 gb3))
                  have eb4 : decide (m.memMax < m.memMin) = false := decide_eq_false gb3
                  go_wp2_with fail
                  go_quiet (fail)
                  go_wp2_with fail
                  refine parts_l3 (nf := ni + nfs) HM.out HW.out ((HKw2.out.drewM _).drewM _) (by kernel_rfl) rfl H3.out ?_ ?_
                  · intro tmps' w3 ht hk hP1
                    generalize (fun j => tmps'.getD j undef) = u' at ht
                    subst ht
                    have HKw3 : Hid _ := hk
                    have HNw3 : Hid _ := hP1
                    clear hk hP1
                    unfold fr188
                    go_wp2_with fail
                    refine parts_l4 (nf := ni + nfs) HM.out HW.out HKw3.out HNF.out (by kernel_rfl) rfl H4.out ?_ ?_
                    · intro tmps' w4 ht hk hP1
                      generalize (fun j => tmps'.getD j undef) = u' at ht
                      subst ht
                      have HKw4 : Hid _ := hk
                      have HNw4 : Hid _ := hP1
                      clear hk hP1
                      unfold fr188
                      have c9 := (HW.out.keep HKw4.out (fun _ _ h => h)).c9
                      by_cases hs1 : m.start = -1
                      · have HS5 : Hid (X5 = none) := by show X5 = none; rw [← H5.out]; unfold startV; exact if_pos hs1
                        rw [hs1] at c9
                        go_wp2_with fail
                        refine parts_l5 (nf := ni + nfs) HM.out HW.out HKw4.out HNF.out (by kernel_rfl) rfl H6.out ?_ ?_
                        · intro tmps' w6 ht hk hP1
                          generalize (fun j => tmps'.getD j undef) = u' at ht
                          subst ht
                          have HKw6 : Hid _ := hk
                          have HNw6 : Hid _ := hP1
                          clear hk hP1
                          unfold fr188
                          go_wp2_with fail
                          refine parts_l6 (nf := ni + nfs) HM.out HW.out HKw6.out (by kernel_rfl) rfl H7.out ?_ ?_
                          · intro tmps' w7 ht hk hP1
                            generalize (fun j => tmps'.getD j undef) = u' at ht
                            subst ht
                            have HKw7 : Hid _ := hk
                            have HNw7 : Hid _ := hP1
                            clear hk hP1
                            unfold fr188
                            go_wp2_with fail
                            go_ret2
                            exact ⟨by rw [HP.out]; simp [encPm, partsX, HNw2.out, HLa.out, HLb.out, HNw3.out, HNw4.out, HS5.out, HNw6.out, HNw7.out], HKw7.out⟩
                          · intro tmps' w' i e hX h2 h3 hk
                            simp only [Exit.inBlock, Exit.then]
                            go_ret2
                            exact ⟨by rw [h2, h3, HP.out]; simp [encPm, partsX, HNw2.out, HLa.out, HLb.out, HNw3.out, HNw4.out, HS5.out, HNw6.out, hX], hk⟩
                        · intro tmps' w' i e hX h2 h3 hk
                          simp only [Exit.inBlock, Exit.then]
                          go_ret2
                          exact ⟨by rw [h2, h3, HP.out]; simp [encPm, partsX, HNw2.out, HLa.out, HLb.out, HNw3.out, HNw4.out, HS5.out, hX], hk⟩
                      · have hsb : (m.start == -1) = false := by rw [beq_eq_false_iff_ne]; exact hs1
                        have hsb2 : (m.start != -1) = true := by simp [bne, hsb]
                        have HT := typeOf_m (HW.out.keep HKw4.out (fun _ _ h => h)) HM.out m.start hst
                        have hS5 := H5.out
                        unfold startV at hS5
                        rw [if_neg (show ¬ m.mod.start = -1 from hs1)] at hS5
                        cases hto : m.mod.typeOf m.start with
                        | none =>
                          rw [show m.mod.typeOf m.mod.start = none from hto] at hS5
                          rw [hto] at HT
                          unfold encTo at HT
                          dsimp only at HT hS5
                          have HS5 : Hid (X5 = some (0, 15)) := hS5.symm
                          clear hS5 hto
                          go_wp2_with fail
                          refine HT.mono ?_
                          rintro en w9 ⟨rfl, k9, rfl⟩
                          go_wp2_with fail
                          go_ret2
                          exact ⟨by rw [HP.out]; simp [encPm, partsX, HNw2.out, HLa.out, HLb.out, HNw3.out, HNw4.out, HS5.out], (HKw4.out).drewM _⟩
                        | some t =>
                          rw [show m.mod.typeOf m.mod.start = some t from hto] at hS5
                          rw [hto] at HT
                          unfold encTo at HT
                          dsimp only at HT hS5
                          by_cases htx : t.text = colon
                          · rw [if_pos htx] at hS5
                            have HS5 : Hid (X5 = none) := hS5.symm
                            rw [htx] at HT
                            unfold colon at HT
                            clear hS5 hto htx
                            go_wp2_with fail
                            refine HT.mono ?_
                            rintro en w9 ⟨rfl, k9, rfl⟩
                            have HK9 : Hid _ := (HKw4.out).drewM k9
                            go_wp2_with fail
                            refine parts_l5 (nf := ni + nfs) HM.out HW.out HK9.out HNF.out (by kernel_rfl) rfl H6.out ?_ ?_
                            · intro tmps' w6 ht hk hP1
                              generalize (fun j => tmps'.getD j undef) = u' at ht
                              subst ht
                              have HKw6 : Hid _ := hk
                              have HNw6 : Hid _ := hP1
                              clear hk hP1
                              unfold fr188
                              go_wp2_with fail
                              refine parts_l6 (nf := ni + nfs) HM.out HW.out HKw6.out (by kernel_rfl) rfl H7.out ?_ ?_
                              · intro tmps' w7 ht hk hP1
                                generalize (fun j => tmps'.getD j undef) = u' at ht
                                subst ht
                                have HKw7 : Hid _ := hk
                                have HNw7 : Hid _ := hP1
                                clear hk hP1
                                unfold fr188
                                go_wp2_with fail
                                go_ret2
                                exact ⟨by rw [HP.out]; simp [encPm, partsX, HNw2.out, HLa.out, HLb.out, HNw3.out, HNw4.out, HS5.out, HNw6.out, HNw7.out], HKw7.out⟩
                              · intro tmps' w' i e hX h2 h3 hk
                                simp only [Exit.inBlock, Exit.then]
                                go_ret2
                                exact ⟨by rw [h2, h3, HP.out]; simp [encPm, partsX, HNw2.out, HLa.out, HLb.out, HNw3.out, HNw4.out, HS5.out, HNw6.out, hX], hk⟩
                            · intro tmps' w' i e hX h2 h3 hk
                              simp only [Exit.inBlock, Exit.then]
                              go_ret2
                              exact ⟨by rw [h2, h3, HP.out]; simp [encPm, partsX, HNw2.out, HLa.out, HLb.out, HNw3.out, HNw4.out, HS5.out, hX], hk⟩
                          · rw [if_neg htx] at hS5
                            have HS5 : Hid (X5 = some (0, 19)) := hS5.symm
                            have hcb : (t.text.toList == (⟨#[58]⟩ : ByteArray).toList) = false := by rw [beq_eq_false_iff_ne]; intro e; exact htx (bytes_xt e)
                            have hcb2 : (t.text.toList == [58]) = false := by
                              rw [beq_eq_false_iff_ne]
                              intro e
                              refine htx (bytes_xt ?_)
                              rw [e, Go.ByteArray.toList_eq]
                              rfl
                            clear hS5 hto htx
                            go_wp2_with fail
                            refine HT.mono ?_
                            rintro en w9 ⟨rfl, k9, rfl⟩
                            go_wp2_with fail
                            go_ret2
                            exact ⟨by rw [HP.out]; simp [encPm, partsX, HNw2.out, HLa.out, HLb.out, HNw3.out, HNw4.out, HS5.out], (HKw4.out).drewM _⟩
                    · intro tmps' w' i e hX h2 h3 hk
                      simp only [Exit.inBlock, Exit.then]
                      go_ret2
                      exact ⟨by rw [h2, h3, HP.out]; simp [encPm, partsX, HNw2.out, HLa.out, HLb.out, HNw3.out, hX], hk⟩
                  · intro tmps' w' i e hX h2 h3 hk
                    simp only [Exit.inBlock, Exit.then]
                    go_ret2
                    exact ⟨by rw [h2, h3, HP.out]; simp [encPm, partsX, HNw2.out, HLa.out, HLb.out, hX], hk⟩
    · intro tmps' w' i e hX h2 h3 hk
      simp only [Exit.inBlock, Exit.then]
      go_ret2
      exact ⟨by rw [h2, h3, HP.out]; simp [encPm, partsX, hX], hk⟩
  · intro tmps' w' i e hX h2 h3 hk
    simp only [Exit.inBlock, Exit.then]
    go_ret2
    exact ⟨by rw [h2, h3, HP.out]; simp [encPm, partsX, hX], hk⟩
end Go.Proofs.Qxb6500275aGreatDoor
