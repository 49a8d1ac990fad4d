import Derived.Test.Qxb6500275aGreatDoorVb5
set_option maxRecDepth 1000000
set_option linter.unusedVariables false
set_option linter.unusedSimpArgs false
namespace Go.Proofs.Qxb6500275aGreatDoor
open Go Go.RowKit
section
variable {w w1 : World} {vb mb fk fo : Nat} {M : Mod} {fn : Fn} {params : ByteArray} {pc : Nat} {v : VS} {x : Ins} {f : VF} {r : List VF}
theorem VI.settled (h : VI v) (hc : v.ctl ≠ []) : VI (settledV v).1 ∧ (settledV v).1.ctl = v.ctl := by
  unfold settledV
  split
  · exact h.carry hc _
  · exact h.carry hc _
theorem Vd.topSet {o : List Nat} (h : Vd w1 vb ⟨o, f :: r⟩) : Vd ((w1.setCell ⟨vb, 12 + r.length * 4, none⟩ (.int .u8 5)).setCell ⟨vb, 12 + r.length * 4 + 3, none⟩ (.bool false)) vb ⟨o, { f with op := 5, dead := false } :: r⟩ := by
  obtain ⟨F, h1, cO, nH, cC, nD, ⟨x, hx1, hx2, hx3⟩, lO, lC⟩ := h.is
  simp at lC lO
  refine ⟨_, (h1.set (i := 12 + r.length * 4) (by omega) _).set (i := 12 + r.length * 4 + 3) (by omega) _, ?_, ?_, ?_, ?_, ⟨x, ?_, hx2, hx3⟩, lO, by simp; omega⟩
  · intro i t hi
    have hil := (List.getElem?_eq_some_iff.1 hi).1
    simp at hil
    rw [upd_ne _ _ (by omega), upd_ne _ _ (by omega)]
    exact cO i t hi
  · rw [upd_ne _ _ (by omega), upd_ne _ _ (by omega)]; exact nH
  · intro j g hg
    have hj := (List.getElem?_eq_some_iff.1 hg).1
    have hg' : (r.reverse ++ [({ f with op := 5, dead := false } : VF)])[j]? = some g := by simpa using hg
    simp at hj
    by_cases e : j = r.length
    · subst e
      rw [List.getElem?_append_right (by simp)] at hg'
      simp at hg'
      subst hg'
      obtain ⟨a0, a1, a2, a3⟩ := cC r.length f (by simp)
      refine ⟨?_, ?_, ?_, ?_⟩
      · rw [upd_ne _ _ (by omega), upd_same]; rfl
      · rw [upd_ne _ _ (by omega), upd_ne _ _ (by omega)]; exact a1
      · rw [upd_ne _ _ (by omega), upd_ne _ _ (by omega)]; exact a2
      · rw [upd_same]
    · rw [List.getElem?_append_left (by simp; omega)] at hg'
      obtain ⟨a0, a1, a2, a3⟩ := cC j g (by simp only [List.reverse_cons]; rw [List.getElem?_append_left (by simp; omega)]; exact hg')
      refine ⟨?_, ?_, ?_, ?_⟩
      · rw [upd_ne _ _ (by omega), upd_ne _ _ (by omega)]; exact a0
      · rw [upd_ne _ _ (by omega), upd_ne _ _ (by omega)]; exact a1
      · rw [upd_ne _ _ (by omega), upd_ne _ _ (by omega)]; exact a2
      · rw [upd_ne _ _ (by omega), upd_ne _ _ (by omega)]; exact a3
  · rw [upd_ne _ _ (by omega), upd_ne _ _ (by omega)]; exact nD
  · rw [upd_ne _ _ (by omega), upd_ne _ _ (by omega)]; exact hx1
theorem Vd.shut1 {o : List Nat} (h : Vd w1 vb ⟨o, f :: r⟩) : Vd (w1.setCell ⟨vb, 40, none⟩ (.int .i64 r.length)) vb ⟨o, r⟩ := by
  obtain ⟨F, h1, cO, nH, cC, nD, ⟨x, hx1, hx2, hx3⟩, lO, lC⟩ := h.is
  simp at lC lO
  refine ⟨_, h1.set (i := 40) (by decide) _, ?_, ?_, ?_, ?_, ⟨x, ?_, hx2, hx3⟩, lO, by simp; omega⟩
  · intro i t hi
    have hil := (List.getElem?_eq_some_iff.1 hi).1
    simp at hil
    rw [upd_ne _ _ (by omega)]
    exact cO i t hi
  · rw [upd_ne _ _ (by decide)]; exact nH
  · intro j g hg
    have hj := (List.getElem?_eq_some_iff.1 hg).1
    simp at hj
    obtain ⟨a0, a1, a2, a3⟩ := cC j g (by simp only [List.reverse_cons]; rw [List.getElem?_append_left (by simp; omega)]; exact hg)
    refine ⟨?_, ?_, ?_, ?_⟩
    · rw [upd_ne _ _ (by omega)]; exact a0
    · rw [upd_ne _ _ (by omega)]; exact a1
    · rw [upd_ne _ _ (by omega)]; exact a2
    · rw [upd_ne _ _ (by omega)]; exact a3
  · rw [upd_same]
  · rw [upd_ne _ _ (by decide)]; exact hx1
set_option maxHeartbeats 8000000 in
theorem c84_else (ho : x.op = 5) : Case84 w vb mb fk fo M fn params pc v x := by
  intro wr c u Q hB hI hcn hF hX hx hps hu hN hR
  obtain ⟨kb, nb, f, r, hd⟩ := rd84 hB hI hcn hF hX hx
  have HI : Hid _ := hI
  obtain ⟨c1, c2, d0, d1, d2, hpn, hnb2, hnb, hkl, hfl, hctl, hw, hA, hxr, hyr, hfr⟩ := hd
  have HN : Hid (Next84 w vb mb fk fo M fn params pc c (stepV M fn params pc v x) Q) := hN
  have HR : Hid (Home84 w vb mb fk fo M fn (stepV M fn params pc v x) Q) := hR
  have HA : Hid _ := hA
  have HW : Hid _ := hw
  have HC : Hid _ := hctl
  have HNB : Hid _ := hnb
  clear hB hI hcn hF hX hx hN hR hnb hw hctl hA
  obtain ⟨S, hS⟩ : ∃ S, stepV M fn params pc v x = S := ⟨_, rfl⟩
  have HS : Hid (S = if (settledV v).2 = true then (if (settledV v).1.ctl.length = 1 then ((settledV v).1, some (pc + 1, 11)) else if (settledV v).1.top.op = 4 then (⟨(settledV v).1.ops, { (settledV v).1.top with op := 5, dead := false } :: (settledV v).1.ctl.tail⟩, none) else ((settledV v).1, some (pc, 11))) else ((settledV v).1, some (pc, 27))) := by
    show _ = _
    rw [← hS]
    unfold stepV
    rw [if_neg (by omega), if_neg (by omega), if_neg (by omega), if_neg (by omega), if_pos ho]
  rw [hS] at HN HR
  obtain ⟨op, X1, Y1⟩ := x
  dsimp only at ho d0 d1 d2 hxr hyr HS HA
  subst ho
  obtain ⟨X1, rfl⟩ := Int.eq_ofNat_of_zero_le hxr.1
  try rw [Int.toNat_natCast] at HS
  clear hS
  have hvl : vb < wr.heap.size := by
    have h1 := HA.out.sv.lt
    have h2 := HA.out.fn.le
    omega
  have x1 : (wr.alloc (.cells #[.int .u8 5, .int .u32 (X1 : Int), .int .u64 Y1] 129)).cell? ⟨wr.heap.size, 1, none⟩ = some (.int .u32 (X1 : Int)) := by rw [World.cell?_alloc_at _ _ _ _ rfl]; rfl
  have HX1 : Hid _ := x1
  obtain ⟨b11, g11, b40, g40, lO, lC⟩ := HA.out.sv.vd.n
  rw [World.cell?_alloc_past _ _ _ hvl] at b11 b40
  rw [World.frozen?_alloc_past _ _ _ hvl] at g11 g40
  obtain ⟨d, hd⟩ : ∃ d, v.ctl.length = d := ⟨_, rfl⟩
  rw [hd] at b40 lC
  try rw [hd] at HS
  have HD : Hid _ := hd
  clear hd x1
  have hcn : v.ctl ≠ [] := by rw [HC.out]; simp
  have hI1 := HI.out.settled hcn
  have hcc := fun (w' : World) (hv : Vd w' vb v) => settledW hv HW.out hfr
  generalize settledV v = q at *
  obtain ⟨⟨o1, k1⟩, b1⟩ := q
  dsimp only at hcc HS hI1
  have hk1 : k1 = f :: r := by rw [hI1.2]; exact HC.out
  subst hk1
  have HI1 : Hid _ := hI1.1
  clear hcn hI1
  unfold fr84
  rw [hu]
  conv => arg 2; whnf
  go_wp2_with fail
  refine (hcc _ HA.out.sv.vd).mono ?_
  rintro en w2 ⟨rfl, hv2, hk2⟩
  have HA2 : Hid _ := HA.out.step hk2 hv2
  clear hcc hv2 hk2 b11 g11 b40 g40
  cases b1 with
  | false =>
    rw [if_neg (by decide)] at HS
    go_wp2
    exact HR.out _ _ _ pc 27 HS.out rfl rfl HA2.out
  | true =>
    rw [if_pos rfl] at HS
    obtain ⟨t11, y11, t40, y40, e0, e1, e2, e3, z0, z3, lO2, lC2⟩ := HA2.out.sv.vd.tops
    have HS2 : Hid (S = if r.length + 1 = 1 then (⟨o1, f :: r⟩, some (pc + 1, 11)) else if f.op = 4 then (⟨o1, { f with op := 5, dead := false } :: r⟩, none) else (⟨o1, f :: r⟩, some (pc, 11))) := HS
    clear HS
    have HS : Hid _ := HS2.out
    clear HS2
    obtain ⟨n, hn⟩ : ∃ n, r.length = n := ⟨_, rfl⟩
    rw [hn] at t40 e0 e1 e2 e3 z0 z3 lC2
    have HNn : Hid _ := hn
    clear hn
    have hfo := (HI1.out.ctl f (by simp)).1
    by_cases h1 : n = 0
    · rw [if_pos (by have := HNn.out; omega)] at HS
      subst h1
      go_wp2
      exact HR.out _ _ _ (pc + 1) 11 HS.out rfl rfl HA2.out
    · rw [if_neg (by have := HNn.out; omega)] at HS
      have hn1 : (((n : Int) + 1) == 1) = false := by rw [beq_eq_false_iff_ne]; omega
      by_cases h4 : f.op = 4
      · rw [if_pos h4] at HS
        rw [h4] at e0
        have hO := fun m => (HA2.out.sv.vd.drewM m).topSet
        rw [HNn.out] at hO
        have HO : Hid _ := hO
        have hne : ¬ 12 + n * 4 + 3 = 12 + n * 4 := by omega
        clear hO
        go_wp2_with fail
        go_quiet (fail)
        go_wp2
        exact HN.out _ _ _ HS.out (by kernel_rfl) rfl ((HA2.out.new ((Kp.refl _ _).drewM _)).step (((kself vb _).put _).put _) (HO.out _))
      · rw [if_neg h4] at HS
        have h4b : ((f.op : Int) != 4) = true := by rw [bne_iff_ne]; omega
        go_wp2_with fail
        go_quiet (fail)
        go_wp2
        exact HR.out _ _ _ pc 11 HS.out rfl rfl (HA2.out.new ((Kp.refl _ _).drewM _))
set_option maxHeartbeats 8000000 in
theorem c84_end (ho : x.op = 11) : Case84 w vb mb fk fo M fn params pc v x := by
  intro wr c u Q hB hI hcn hF hX hx hps hu hN hR
  obtain ⟨kb, nb, f, r, hd⟩ := rd84 hB hI hcn hF hX hx
  have HI : Hid _ := hI
  obtain ⟨c1, c2, d0, d1, d2, hpn, hnb2, hnb, hkl, hfl, hctl, hw, hA, hxr, hyr, hfr⟩ := hd
  have HN : Hid (Next84 w vb mb fk fo M fn params pc c (stepV M fn params pc v x) Q) := hN
  have HR : Hid (Home84 w vb mb fk fo M fn (stepV M fn params pc v x) Q) := hR
  have HA : Hid _ := hA
  have HW : Hid _ := hw
  have HC : Hid _ := hctl
  have HNB : Hid _ := hnb
  clear hB hI hcn hF hX hx hN hR hnb hw hctl hA
  obtain ⟨S, hS⟩ : ∃ S, stepV M fn params pc v x = S := ⟨_, rfl⟩
  have HS : Hid (S = if (settledV v).2 = true then (if (settledV v).1.top.op = 4 ∧ (settledV v).1.top.res ≠ 64 then ((settledV v).1, some (pc, 27)) else if (settledV v).1.ctl.length = 1 then (if pc + 1 = fn.body.length then (⟨(settledV v).1.ops, (settledV v).1.ctl.tail⟩, some (0, 0)) else (⟨(settledV v).1.ops, (settledV v).1.ctl.tail⟩, some (pc + 1, 11))) else giveV pc (⟨(settledV v).1.ops, (settledV v).1.ctl.tail⟩, (settledV v).1.top.res, 0)) else ((settledV v).1, some (pc, 27))) := by
    show _ = _
    rw [← hS]
    unfold stepV
    rw [if_neg (by omega), if_neg (by omega), if_neg (by omega), if_neg (by omega), if_neg (by omega), if_pos ho]
  rw [hS] at HN HR
  obtain ⟨op, X1, Y1⟩ := x
  dsimp only at ho d0 d1 d2 hxr hyr HS HA
  subst ho
  obtain ⟨X1, rfl⟩ := Int.eq_ofNat_of_zero_le hxr.1
  try rw [Int.toNat_natCast] at HS
  clear hS
  have hvl : vb < wr.heap.size := by
    have h1 := HA.out.sv.lt
    have h2 := HA.out.fn.le
    omega
  have x1 : (wr.alloc (.cells #[.int .u8 11, .int .u32 (X1 : Int), .int .u64 Y1] 129)).cell? ⟨wr.heap.size, 1, none⟩ = some (.int .u32 (X1 : Int)) := by rw [World.cell?_alloc_at _ _ _ _ rfl]; rfl
  have HX1 : Hid _ := x1
  obtain ⟨b11, g11, b40, g40, lO, lC⟩ := HA.out.sv.vd.n
  rw [World.cell?_alloc_past _ _ _ hvl] at b11 b40
  rw [World.frozen?_alloc_past _ _ _ hvl] at g11 g40
  obtain ⟨d, hd⟩ : ∃ d, v.ctl.length = d := ⟨_, rfl⟩
  rw [hd] at b40 lC
  try rw [hd] at HS
  have HD : Hid _ := hd
  clear hd x1
  have hcn : v.ctl ≠ [] := by rw [HC.out]; simp
  have hI1 := HI.out.settled hcn
  have hcc := fun (w' : World) (hv : Vd w' vb v) => settledW hv HW.out hfr
  generalize settledV v = q at *
  obtain ⟨⟨o1, k1⟩, b1⟩ := q
  dsimp only at hcc HS hI1
  have hk1 : k1 = f :: r := by rw [hI1.2]; exact HC.out
  subst hk1
  have HI1 : Hid _ := hI1.1
  clear hcn hI1
  unfold fr84
  rw [hu]
  conv => arg 2; whnf
  go_wp2_with fail
  refine (hcc _ HA.out.sv.vd).mono ?_
  rintro en w2 ⟨rfl, hv2, hk2⟩
  have HA2 : Hid _ := HA.out.step hk2 hv2
  clear hcc hv2 hk2 b11 g11 b40 g40
  cases b1 with
  | false =>
    rw [if_neg (by decide)] at HS
    go_wp2
    exact HR.out _ _ _ pc 27 HS.out rfl rfl HA2.out
  | true =>
    rw [if_pos rfl] at HS
    obtain ⟨t11, y11, t40, y40, e0, e1, e2, e3, z0, z3, lO2, lC2⟩ := HA2.out.sv.vd.tops
    have HS2 : Hid (S = if f.op = 4 ∧ f.res ≠ 64 then (⟨o1, f :: r⟩, some (pc, 27)) else if r.length + 1 = 1 then (if pc + 1 = fn.body.length then (⟨o1, r⟩, some (0, 0)) else (⟨o1, r⟩, some (pc + 1, 11))) else giveV pc (⟨o1, r⟩, f.res, 0)) := HS
    clear HS
    have HS : Hid _ := HS2.out
    clear HS2
    obtain ⟨n, hn⟩ : ∃ n, r.length = n := ⟨_, rfl⟩
    rw [hn] at t40 e0 e1 e2 e3 z0 z3 lC2
    have HNn : Hid _ := hn
    clear hn
    have hfo := (HI1.out.ctl f (by simp)).1
    obtain ⟨ba2, ta2, _, _, q2, _, _, _⟩ := HA2.out.fn.cells
    rw [HNB.out] at q2
    have hfv : ¬ fk = vb := by
      have h1 := HA.out.sv.lt
      have h2 := HA.out.fn.le
      omega
    have hfv2 : ¬ vb = fk := fun h => hfv h.symm
    have hO := fun m => (HA2.out.sv.vd.drewM m).shut1
    rw [HNn.out] at hO
    have HO : Hid _ := hO
    clear hO
    by_cases h4 : f.op = 4 ∧ f.res ≠ 64
    · rw [if_pos h4] at HS
      have h4a := h4.1
      rw [h4a] at e0
      have h4b : ((f.res : Int) != 64) = true := by rw [bne_iff_ne]; omega
      go_wp2_with fail
      go_quiet (fail)
      go_wp2
      exact HR.out _ _ _ pc 27 HS.out rfl rfl (HA2.out.new ((Kp.refl _ _).drewM _))
    · rw [if_neg h4] at HS
      have hg : ((f.op : Int) == 4) = false ∨ (((f.op : Int) == 4) = true ∧ ((f.res : Int) != 64) = false) := by
        by_cases h5 : f.op = 4
        · refine .inr ⟨by rw [h5]; rfl, ?_⟩
          have h6 : f.res = 64 := by omega
          rw [h6]; rfl
        · exact .inl (by rw [beq_eq_false_iff_ne]; omega)
      have HG : Hid _ := hg
      clear hg h4
      by_cases h1 : n = 0
      · rw [if_pos (by have := HNn.out; omega)] at HS
        subst h1
        have HO0 : Hid (∀ m, Vd ((w2.drewN m).setCell ⟨vb, 40, none⟩ (.int .i64 0)) vb ⟨o1, r⟩) := HO.out
        by_cases hp : pc + 1 = nb
        · rw [if_pos (by rw [HNB.out]; exact hp)] at HS
          have hpb : (((pc : Int) + 1) != (nb : Int)) = false := by
            have : ((pc : Int) + 1) = (nb : Int) := by omega
            rw [this]; simp
          rcases HG.out with g4 | ⟨g4, g5⟩
          all_goals
            go_wp2_with fail
            go_quiet (fail)
            go_wp2
            exact HR.out _ _ _ 0 0 HS.out rfl rfl ((HA2.out.new ((Kp.refl _ _).drewM _)).step ((kself vb _).put _) (HO0.out _))
        · rw [if_neg (by rw [HNB.out]; exact hp)] at HS
          have hpb : (((pc : Int) + 1) != (nb : Int)) = true := by rw [bne_iff_ne]; omega
          rcases HG.out with g4 | ⟨g4, g5⟩
          all_goals
            go_wp2_with fail
            go_quiet (fail)
            go_wp2
            exact HR.out _ _ _ (pc + 1) 11 HS.out rfl rfl ((HA2.out.new ((Kp.refl _ _).drewM _)).step ((kself vb _).put _) (HO0.out _))
      · rw [if_neg (by have := HNn.out; omega)] at HS
        have hn1 : ((n : Int) == 0) = false := by rw [beq_eq_false_iff_ne]; omega
        unfold giveV at HS
        dsimp only at HS
        rw [if_neg (by simp)] at HS
        generalize hrs : f.res = rs at *
        by_cases ht : rs = 64
        · rw [if_pos ht] at HS
          subst ht
          rcases HG.out with g4 | ⟨g4, g5⟩
          all_goals
            go_wp2_with fail
            go_quiet (fail)
            go_wp2
            exact HN.out _ _ _ HS.out (by kernel_rfl) rfl ((HA2.out.new ((Kp.refl _ _).drewM _)).step ((kself vb _).put _) (HO.out _))
        · rw [if_neg ht] at HS
          have htb : ((rs : Int) != 64) = true := by rw [bne_iff_ne]; omega
          have hcp := fun (w' : World) (hv : Vd w' vb ⟨o1, r⟩) => pushW hv rs hfr
          generalize pushV ⟨o1, r⟩ rs = q at *
          obtain ⟨v3, b3⟩ := q
          dsimp only at hcp HS
          rcases HG.out with g4 | ⟨g4, g5⟩
          · go_wp2_with fail
            go_quiet (fail)
            go_wp2_with fail
            have HA3 : Hid _ := fun m => (HA2.out.new ((Kp.refl _ _).drewM m)).step ((kself vb _).put _) (HO.out m)
            refine (hcp _ (HA3.out _).sv.vd).mono ?_
            rintro en w5 ⟨rfl, hv5, hk5⟩
            have HA5 : Hid _ := (HA3.out _).step hk5 hv5
            clear hcp hv5 hk5
            cases b3 with
            | false =>
              rw [if_neg (by decide)] at HS
              go_wp2
              exact HR.out _ _ v3 pc 28 HS.out rfl rfl HA5.out
            | true =>
              rw [if_pos rfl] at HS
              go_wp2
              exact HN.out _ _ _ HS.out (by kernel_rfl) rfl HA5.out
          · exfalso
            rw [htb] at g5
            simp at g5
end
end Go.Proofs.Qxb6500275aGreatDoor
