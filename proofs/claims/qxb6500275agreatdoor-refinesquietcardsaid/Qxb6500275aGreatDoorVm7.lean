import Derived.Test.Qxb6500275aGreatDoorVm6
set_option maxRecDepth 1000000
set_option linter.unusedVariables false
set_option linter.unusedSimpArgs false
namespace Go.Proofs.Qxb6500275aGreatDoor
open Go Go.RowKit
section
variable {w wr w' : World} {cb mb gf fo : Nat} {m : MT} {fn : Fn} {vb vt lv : Value} {labs : List ByteArray} {loc resF : ByteArray} {er : Int} {a : Nat} {E : Env189} {pc : Nat} {st : ByteArray} {p : Bool} {x : Ins}
theorem step_shut (hO : Ok189 E) (h : x.op = 5 ∨ x.op = 11) (hn : ¬ ((popsS p (argsV E.res) st).2 = true ∧ (popsS p (argsV E.res) st).1.size = 0)) : ∃ v', stepV E.m.mod E.fn E.params pc (E.v st p) x = (v', some (pc, 27)) := by
  have hs := settled_mk (o := E.o) (t := firstV E.res) (st := st) (p := p) (rest := E.rest) (r := E.r) hO.res rfl
  have hf : (settledV (E.v st p)).2 ≠ true := by
    unfold Env189.v
    rw [hs]
    intro h
    simp at h
    exact hn ⟨h.1, by rw [h.2]; rfl⟩
  unfold stepV
  rw [if_neg (by omega), if_neg (by omega), if_neg (by omega), if_neg (by omega)]
  rcases h with h | h
  · rw [if_pos h, if_neg hf]
    exact ⟨_, rfl⟩
  · rw [if_neg (by omega), if_pos h, if_neg hf]
    exact ⟨_, rfl⟩
set_option maxHeartbeats 8000000 in
theorem c189_shut11 (ho : x.op = 11) : Case189 E pc st p x := by
  intro wr a c u Q hO hS hx hu1 hu14 hu15 hst hrun hN hNe hH
  obtain ⟨kb, nb, bc, hd⟩ := rd189 hO hS hx
  obtain ⟨c1, c4, f2, d0, d1, d2, hpn, ⟨hnb, hnbe⟩, hA, hX⟩ := hd
  have hlevp : ¬ ((E.lev : Int) ≤ 0) := by have := hO.lev.2; omega
  have HO : Hid _ := hO
  have HN : Hid (Next189 E pc c Q) := hN
  have HNe : Hid (Nerr189 E c Q) := hNe
  have HH : Hid (Home189 E pc Q) := hH
  have HA : Hid _ := hA
  have HX : Hid (E.fn.body[pc]? = some x) := hx
  have HRun : Hid (E.run pc st p) := hrun
  have HI : Hid _ := hX
  clear hO hN hNe hH hA hS hx hnbe hrun hX
  have hres1 := HO.out.res.1
  have HSh : Hid (¬ ((popsS p (argsV E.res) st).2 = true ∧ (popsS p (argsV E.res) st).1.size = 0) → ∃ v', stepV E.m.mod E.fn E.params pc (E.v st p) x = (v', some (pc, 27))) := step_shut HO.out (by omega)
  obtain ⟨op, X1, Y1⟩ := x
  dsimp only at ho d0 d1 d2
  subst ho
  have HP := vpops_m (w := wr.alloc (.cells #[.int .u8 11, .int .u32 X1, .int .u64 Y1] 129)) st p E.res (by omega) (by omega)
  obtain ⟨ps, hpe⟩ : ∃ ps, popsS p (argsV E.res) st = ps := ⟨_, rfl⟩
  have hpsz := popsS_size p (argsV E.res) st
  have HPE : Hid _ := hpe
  rw [hpe] at HP HSh hpsz
  obtain ⟨s1, ok⟩ := ps
  dsimp only at HSh hpsz
  obtain ⟨W, hW⟩ : ∃ W, wr.alloc (.cells #[.int .u8 11, .int .u32 X1, .int .u64 Y1] 129) = W := ⟨_, rfl⟩
  have hg0 : W.cell? ⟨wr.heap.size, 0, none⟩ = some (.int .u8 11) := by rw [← hW]; exact (C3.new wr (.int .u8 11) (.int .u32 X1) (.int .u64 Y1) 129).c0
  have hC7 : C3 W wr.heap.size (.int .u8 11) (.int .u32 X1) (.int .u64 Y1) := by rw [← hW]; exact C3.new wr _ _ _ _
  have HC7 : Hid _ := hC7
  have hcbl : wr.heap.size ≠ E.cb := by have : E.cb < wr.heap.size := lt_of_cell c1; omega
  have HA2 : Hid (E.sq (wr.alloc (.cells #[.int .u8 11, .int .u32 X1, .int .u64 Y1] 129)) 0 a) := HA.out
  clear HA
  have HA : Hid _ := HA2.out
  rw [hW] at HP HA
  clear HA2
  have HV := vfail_m HA.out.ck 27 pc
  clear hpe hC7
  unfold Env189.fr fr189
  rw [hu1, hu14, hu15]
  by_cases hok : ok = true ∧ s1.size = 0
  · obtain ⟨rfl, hs0⟩ := hok
    have hs0i : (s1.size : Int) = 0 := by omega
    have HAns : Hid (Ans189 E pc (pc + 1) 11 0 a) := .inr ⟨rfl, pc, st, p, _, rfl, Nat.le_refl _, HX.out, rfl, by decide, hst, by rw [HPE.out], by rw [HPE.out]; exact hs0, HRun.out⟩
    clear HSh HV hs0
    conv => arg 2; whnf
    go_wp2_with fail
    try rw [hW]
    clear hW
    refine HP.mono ?_
    rintro en w2 ⟨rfl, rfl⟩
    unfold encP2
    go_wp2_with fail
    go_quiet (fail)
    go_wp2
    exact HH.out _ _ (pc + 1) 11 0 a rfl rfl (HA.out.new ((Kp.refl _ _).drewM _)) HAns.out
  · obtain ⟨v', hv'⟩ := HSh.out hok
    have HE : Hid (E.X.2 = (pc, 27)) := Env189.stop HRun.out HX.out hv'
    clear hv' HSh
    cases ok with
    | false =>
      clear hok
      conv => arg 2; whnf
      go_wp2_with fail
      try rw [hW]
      clear hW
      refine HP.mono ?_
      rintro en w2 ⟨rfl, rfl⟩
      unfold encP2
      go_wp2_with fail
      refine HV.mono ?_
      rintro en w3 ⟨rfl, hC3, hK3⟩
      have HS3 : Hid _ := HA.out.err hK3 hC3
      have hg3 := (HC7.out.keep hK3 (fun h => hcbl h)).c0
      clear hC3 hK3 hg0
      go_wp2_with fail
      go_quiet (fail)
      go_wp2
      exact HH.out _ _ (pc + 1) 11 27 pc rfl rfl (HS3.out.new ((Kp.refl _ _).drewM _)) (.inl ⟨by decide, HE.out⟩)
    | true =>
      have hs0 : ¬ s1.size = 0 := fun h => hok ⟨rfl, h⟩
      have hsb : ((s1.size : Int) == 0) = false := by rw [beq_eq_false_iff_ne]; omega
      have hsb2 : ((s1.size : Int) != 0) = true := by simp [bne, hsb]
      clear hok hs0
      conv => arg 2; whnf
      go_wp2_with fail
      try rw [hW]
      clear hW
      refine HP.mono ?_
      rintro en w2 ⟨rfl, rfl⟩
      unfold encP2
      go_wp2_with fail
      refine HV.mono ?_
      rintro en w3 ⟨rfl, hC3, hK3⟩
      have HS3 : Hid _ := HA.out.err hK3 hC3
      have hg3 := (HC7.out.keep hK3 (fun h => hcbl h)).c0
      clear hC3 hK3 hg0
      go_wp2_with fail
      go_quiet (fail)
      go_wp2
      exact HH.out _ _ (pc + 1) 11 27 pc rfl rfl (HS3.out.new ((Kp.refl _ _).drewM _)) (.inl ⟨by decide, HE.out⟩)
set_option maxHeartbeats 8000000 in
theorem c189_shut5 (ho : x.op = 5) : Case189 E pc st p x := by
  intro wr a c u Q hO hS hx hu1 hu14 hu15 hst hrun hN hNe hH
  obtain ⟨kb, nb, bc, hd⟩ := rd189 hO hS hx
  obtain ⟨c1, c4, f2, d0, d1, d2, hpn, ⟨hnb, hnbe⟩, hA, hX⟩ := hd
  have hlevp : ¬ ((E.lev : Int) ≤ 0) := by have := hO.lev.2; omega
  have HO : Hid _ := hO
  have HN : Hid (Next189 E pc c Q) := hN
  have HNe : Hid (Nerr189 E c Q) := hNe
  have HH : Hid (Home189 E pc Q) := hH
  have HA : Hid _ := hA
  have HX : Hid (E.fn.body[pc]? = some x) := hx
  have HRun : Hid (E.run pc st p) := hrun
  have HI : Hid _ := hX
  clear hO hN hNe hH hA hS hx hnbe hrun hX
  have hres1 := HO.out.res.1
  have HSh : Hid (¬ ((popsS p (argsV E.res) st).2 = true ∧ (popsS p (argsV E.res) st).1.size = 0) → ∃ v', stepV E.m.mod E.fn E.params pc (E.v st p) x = (v', some (pc, 27))) := step_shut HO.out (by omega)
  obtain ⟨op, X1, Y1⟩ := x
  dsimp only at ho d0 d1 d2
  subst ho
  have HP := vpops_m (w := wr.alloc (.cells #[.int .u8 5, .int .u32 X1, .int .u64 Y1] 129)) st p E.res (by omega) (by omega)
  obtain ⟨ps, hpe⟩ : ∃ ps, popsS p (argsV E.res) st = ps := ⟨_, rfl⟩
  have hpsz := popsS_size p (argsV E.res) st
  have HPE : Hid _ := hpe
  rw [hpe] at HP HSh hpsz
  obtain ⟨s1, ok⟩ := ps
  dsimp only at HSh hpsz
  obtain ⟨W, hW⟩ : ∃ W, wr.alloc (.cells #[.int .u8 5, .int .u32 X1, .int .u64 Y1] 129) = W := ⟨_, rfl⟩
  have hg0 : W.cell? ⟨wr.heap.size, 0, none⟩ = some (.int .u8 5) := by rw [← hW]; exact (C3.new wr (.int .u8 5) (.int .u32 X1) (.int .u64 Y1) 129).c0
  have hC7 : C3 W wr.heap.size (.int .u8 5) (.int .u32 X1) (.int .u64 Y1) := by rw [← hW]; exact C3.new wr _ _ _ _
  have HC7 : Hid _ := hC7
  have hcbl : wr.heap.size ≠ E.cb := by have : E.cb < wr.heap.size := lt_of_cell c1; omega
  have HA2 : Hid (E.sq (wr.alloc (.cells #[.int .u8 5, .int .u32 X1, .int .u64 Y1] 129)) 0 a) := HA.out
  clear HA
  have HA : Hid _ := HA2.out
  rw [hW] at HP HA
  clear HA2
  have HV := vfail_m HA.out.ck 27 pc
  clear hpe hC7
  unfold Env189.fr fr189
  rw [hu1, hu14, hu15]
  by_cases hok : ok = true ∧ s1.size = 0
  · obtain ⟨rfl, hs0⟩ := hok
    have hs0i : (s1.size : Int) = 0 := by omega
    have HAns : Hid (Ans189 E pc (pc + 1) 5 0 a) := .inr ⟨rfl, pc, st, p, _, rfl, Nat.le_refl _, HX.out, rfl, by decide, hst, by rw [HPE.out], by rw [HPE.out]; exact hs0, HRun.out⟩
    clear HSh HV hs0
    conv => arg 2; whnf
    go_wp2_with fail
    try rw [hW]
    clear hW
    refine HP.mono ?_
    rintro en w2 ⟨rfl, rfl⟩
    unfold encP2
    go_wp2_with fail
    go_quiet (fail)
    go_wp2
    exact HH.out _ _ (pc + 1) 5 0 a rfl rfl (HA.out.new ((Kp.refl _ _).drewM _)) HAns.out
  · obtain ⟨v', hv'⟩ := HSh.out hok
    have HE : Hid (E.X.2 = (pc, 27)) := Env189.stop HRun.out HX.out hv'
    clear hv' HSh
    cases ok with
    | false =>
      clear hok
      conv => arg 2; whnf
      go_wp2_with fail
      try rw [hW]
      clear hW
      refine HP.mono ?_
      rintro en w2 ⟨rfl, rfl⟩
      unfold encP2
      go_wp2_with fail
      refine HV.mono ?_
      rintro en w3 ⟨rfl, hC3, hK3⟩
      have HS3 : Hid _ := HA.out.err hK3 hC3
      have hg3 := (HC7.out.keep hK3 (fun h => hcbl h)).c0
      clear hC3 hK3 hg0
      go_wp2_with fail
      go_quiet (fail)
      go_wp2
      exact HH.out _ _ (pc + 1) 5 27 pc rfl rfl (HS3.out.new ((Kp.refl _ _).drewM _)) (.inl ⟨by decide, HE.out⟩)
    | true =>
      have hs0 : ¬ s1.size = 0 := fun h => hok ⟨rfl, h⟩
      have hsb : ((s1.size : Int) == 0) = false := by rw [beq_eq_false_iff_ne]; omega
      have hsb2 : ((s1.size : Int) != 0) = true := by simp [bne, hsb]
      clear hok hs0
      conv => arg 2; whnf
      go_wp2_with fail
      try rw [hW]
      clear hW
      refine HP.mono ?_
      rintro en w2 ⟨rfl, rfl⟩
      unfold encP2
      go_wp2_with fail
      refine HV.mono ?_
      rintro en w3 ⟨rfl, hC3, hK3⟩
      have HS3 : Hid _ := HA.out.err hK3 hC3
      have hg3 := (HC7.out.keep hK3 (fun h => hcbl h)).c0
      clear hC3 hK3 hg0
      go_wp2_with fail
      go_quiet (fail)
      go_wp2
      exact HH.out _ _ (pc + 1) 5 27 pc rfl rfl (HS3.out.new ((Kp.refl _ _).drewM _)) (.inl ⟨by decide, HE.out⟩)
end
end Go.Proofs.Qxb6500275aGreatDoor
