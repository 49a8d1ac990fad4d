import Derived.Test.Qxb6500275aGreatDoorVa1
set_option maxRecDepth 100000
set_option linter.unusedVariables false
set_option linter.unusedSimpArgs false
namespace Go.Proofs.Qxb6500275aGreatDoor
open Go Go.RowKit
section
variable {w : World} {vb : Nat} {ops : List Nat} {f : VF} {r : List VF} {v : VS}
theorem Vd.n (h : Vd w vb v) : w.cell? ⟨vb, 11, none⟩ = some (.int .i64 v.ops.length) ∧ w.frozen? ⟨vb, 11, none⟩ = false ∧ w.cell? ⟨vb, 40, none⟩ = some (.int .i64 v.ctl.length) ∧ w.frozen? ⟨vb, 40, none⟩ = false ∧ v.ops.length ≤ 10 ∧ v.ctl.length ≤ 7 := by
  obtain ⟨F, h1, hl⟩ := h.is
  exact ⟨by rw [h1.cell (by decide), hl.nH], h1.fz (by decide), by rw [h1.cell (by decide), hl.nD], h1.fz (by decide), hl.lO, hl.lC⟩
set_option maxHeartbeats 2000000 in
theorem push_calls (h : Vd w vb ⟨ops, r⟩) (t : Nat) (hw : t < 256) :
    Calls Tryz.prog 154 #[.pointer (some ⟨vb, 0, none⟩), .int .u8 t] w (VC vb w (.bool (pushV ⟨ops, r⟩ t).2) (pushV ⟨ops, r⟩ t).1) := by
  have HV : Hid _ := h
  obtain ⟨c11, g11, c40, g40, lO, lC⟩ := h.n
  obtain ⟨x, c41, g41, hx1, hx2⟩ := h.high
  dsimp only at c11 c40 lO lC hx1
  obtain ⟨n, hn⟩ : ∃ n, ops.length = n := ⟨_, rfl⟩
  rw [hn] at c11 lO hx1
  by_cases h10 : 10 ≤ n
  · have hP : pushV ⟨ops, r⟩ t = (⟨ops, r⟩, false) := if_pos (by show 10 ≤ ops.length; omega)
    rw [hP]
    clear hP hn h
    go_enter Tryz.func154, Tryz.ntmps154
    go_wp2
    go_ret
    exact ⟨rfl, HV.out, Kp.refl _ _⟩
  · have hP : pushV ⟨ops, r⟩ t = (⟨t :: ops, r⟩, true) := if_neg (by show ¬ 10 ≤ ops.length; omega)
    rw [hP]
    obtain ⟨⟨z, hz⟩, hg⟩ := h.opCell (i := n) (by omega)
    have HC : Hid (∀ (m y : Nat), n + 1 ≤ y → y ≤ 10 → Vd ((((w.drewN m).setCell ⟨vb, n, none⟩ (.int .u8 (t : Int))).setCell ⟨vb, 11, none⟩ (.int .i64 ((n : Int) + 1))).setCell ⟨vb, 41, none⟩ (.int .i64 (y : Int))) vb ⟨t :: ops, r⟩) := fun m y h1 h2 => by
      rw [← hn]
      exact (h.drewM m).push1 (by omega) (by omega) (by omega)
    have hne1 : ¬ n = 11 := by omega
    have hne2 : ¬ n = 41 := by omega
    have hn10 : (n : Int) < 11 := by omega
    clear hP hn h
    by_cases hmx : n + 1 ≤ x
    · have hmx' : (n : Int) + 1 ≤ (x : Int) := by omega
      go_enter Tryz.func154, Tryz.ntmps154
      go_wp2
      go_region
      go_wp2
      go_region
      · go_wp2
        go_ret
        go_light
        exact ⟨rfl, HC.out 2 x hmx hx2, (((kself vb w).put _).put _).put _ |>.drewM 2⟩
    · have hmx' : (x : Int) < (n : Int) + 1 := by omega
      go_enter Tryz.func154, Tryz.ntmps154
      go_wp2
      go_region
      go_wp2
      go_region
      · go_wp2
        go_ret
        go_light
        exact ⟨rfl, HC.out 2 (n + 1) (by omega) (by omega), (((kself vb w).put _).put _).put _ |>.drewM 2⟩
/- a block's cells, by its label -/
theorem Vd.frameAt {l : Nat} {g : VF} (h : Vd w vb v) (hg : v.ctl[l]? = some g) : ∃ k, k + l + 1 = v.ctl.length ∧ k < 7 ∧ w.cell? ⟨vb, 12 + k * 4, none⟩ = some (.int .u8 g.op) ∧ w.cell? ⟨vb, 12 + k * 4 + 1, none⟩ = some (.int .u8 g.res) := by
  obtain ⟨F, h1, hl⟩ := h.is
  have hll := (List.getElem?_eq_some_iff.1 hg).1
  have hc := hl.lC
  obtain ⟨a0, a1, a2, a3⟩ := hl.cC (v.ctl.length - 1 - l) g (by rw [List.getElem?_reverse (by omega), show v.ctl.length - 1 - (v.ctl.length - 1 - l) = l by omega]; exact hg)
  exact ⟨v.ctl.length - 1 - l, by omega, by omega, by rw [h1.cell (by omega), a0], by rw [h1.cell (by omega), a1]⟩
set_option maxHeartbeats 2000000 in
theorem label_calls (h : Vd w vb v) (l : Nat) (hl : l < v.ctl.length) :
    Calls Tryz.prog 151 #[.pointer (some ⟨vb, 0, none⟩), .int .i64 l] w (VC vb w (.int .u8 (labelV v l)) v) := by
  obtain ⟨g, hg⟩ : ∃ g, v.ctl[l]? = some g := ⟨_, List.getElem?_eq_getElem hl⟩
  obtain ⟨k, hk, hk7, e0, e1⟩ := h.frameAt hg
  have HV : Hid _ := h
  obtain ⟨c11, g11, c40, g40, lO, lC⟩ := h.n
  have hL : labelV v l = if g.op = 3 then 64 else g.res := by unfold labelV; rw [List.getD_eq_getElem?_getD, hg]; rfl
  rw [hL]
  have c40' : w.cell? ⟨vb, 40, none⟩ = some (.int .i64 ((k : Int) + (l : Int) + 1)) := by rw [c40]; congr 2; omega
  have hsub : (k : Int) + (l : Int) + 1 - 1 - (l : Int) = (k : Int) := by omega
  have hk7' : (k : Int) < 7 := by omega
  have hkl : k + l < 7 := by omega
  clear h c40 hL hg lC hk hl c11 lO
  by_cases h3 : g.op = 3
  · rw [if_pos h3]
    rw [h3] at e0
    go_enter Tryz.func151, Tryz.ntmps151
    go_wp2_with fail
    go_quiet (fail)
    go_wp2
    go_ret
    go_light
    exact ⟨rfl, HV.out.drewM _, (Kp.refl _ _).drewM _⟩
  · rw [if_neg h3]
    have hb3 : ((g.op : Int) == 3) = false := by rw [beq_eq_false_iff_ne]; omega
    go_enter Tryz.func151, Tryz.ntmps151
    go_wp2_with fail
    go_quiet (fail)
    go_wp2
    go_ret
    go_light
    exact ⟨rfl, HV.out.drewM _, (Kp.refl _ _).drewM _⟩
set_option maxHeartbeats 2000000 in
theorem fits_calls (h : Vd w vb ⟨ops, f :: r⟩) (hf : f.floor ≤ ops.length) (hb : ∀ t ∈ ops, t < 256) (t : Nat) (hw : t < 256) :
    Calls Tryz.prog 152 #[.pointer (some ⟨vb, 0, none⟩), .int .u8 t] w (VC vb w (.bool (fitsV ⟨ops, f :: r⟩ t)) ⟨ops, f :: r⟩) := by
  have HV : Hid _ := h
  obtain ⟨c11, g11, c40, g40, e0, e1, e2, e3, z0, z3, lO, lC⟩ := h.tops
  obtain ⟨d, hd⟩ : ∃ d, r.length = d := ⟨_, rfl⟩
  rw [hd] at c40 e0 e1 e2 e3 z0 z3 lC
  clear hd
  by_cases h64 : t = 64
  · subst h64
    have hP : fitsV ⟨ops, f :: r⟩ 64 = true := if_pos rfl
    rw [hP]
    clear h
    go_enter Tryz.func152, Tryz.ntmps152
    go_wp2
    go_ret
    exact ⟨rfl, HV.out, Kp.refl _ _⟩
  · have hb64 : ((t : Int) == 64) = false := by rw [beq_eq_false_iff_ne]; omega
    by_cases h0 : ops.length = f.floor
    · have hP : fitsV ⟨ops, f :: r⟩ t = f.dead := by unfold fitsV; rw [if_neg h64]; exact if_pos h0
      rw [hP]
      obtain ⟨n, hn⟩ : ∃ n, ops.length = n := ⟨_, rfl⟩
      have hfl : f.floor = n := by omega
      rw [hn] at c11
      rw [hfl] at e2
      clear h0 hn hfl hf h hP
      go_enter Tryz.func152, Tryz.ntmps152
      go_wp2_with fail
      go_quiet (fail)
      go_wp2_with fail
      go_quiet (fail)
      go_wp2
      go_ret
      go_light
      exact ⟨rfl, HV.out.drewM _, (Kp.refl _ _).drewM _⟩
    · cases ops with
      | nil => simp at h0 hf; omega
      | cons u ops =>
        have hP : fitsV ⟨u :: ops, f :: r⟩ t = decide (u = 0 ∨ u = t) := by unfold fitsV; rw [if_neg h64]; exact if_neg h0
        rw [hP]
        obtain ⟨ot, gt⟩ := h.opAt
        have hu : u < 256 := hb u (by simp)
        obtain ⟨n, hn⟩ : ∃ n, ops.length = n := ⟨_, rfl⟩
        rw [hn] at ot gt
        have hfb : (((n : Int) + 1) == (f.floor : Int)) = false := by
          rw [beq_eq_false_iff_ne]
          simp at h0
          omega
        rw [List.length_cons, hn] at c11 lO
        have c11' : w.cell? ⟨vb, 11, none⟩ = some (.int .i64 ((n : Int) + 1)) := by rw [c11]; simp
        have hn10 : (n : Int) < 11 := by omega
        clear hn hf h c11 hb hP
        by_cases hu0 : u = 0
        · subst hu0
          rw [decide_eq_true (.inl rfl)]
          go_enter Tryz.func152, Tryz.ntmps152
          go_wp2_with fail
          go_quiet (fail)
          go_wp2_with fail
          go_quiet (fail)
          go_wp2_with fail
          go_quiet (fail)
          go_wp2
          go_ret
          go_light
          exact ⟨rfl, HV.out.drewM _, (Kp.refl _ _).drewM _⟩
        · have ub0 : ((u : Int) == 0) = false := by rw [beq_eq_false_iff_ne]; omega
          by_cases hut : u = t
          · subst hut
            rw [decide_eq_true (.inr rfl)]
            go_enter Tryz.func152, Tryz.ntmps152
            go_wp2_with fail
            go_quiet (fail)
            go_wp2_with fail
            go_quiet (fail)
            go_wp2_with fail
            go_quiet (fail)
            go_wp2
            go_ret
            go_light
            exact ⟨rfl, HV.out.drewM _, (Kp.refl _ _).drewM _⟩
          · have utb : ((u : Int) == (t : Int)) = false := by rw [beq_eq_false_iff_ne]; omega
            rw [decide_eq_false (by omega)]
            go_enter Tryz.func152, Tryz.ntmps152
            go_wp2_with fail
            go_quiet (fail)
            go_wp2_with fail
            go_quiet (fail)
            go_wp2_with fail
            go_quiet (fail)
            go_wp2
            go_ret
            go_light
            exact ⟨rfl, HV.out.drewM _, (Kp.refl _ _).drewM _⟩
theorem carryV_ops {t : Nat} (hf : f.floor ≤ ops.length) : ∃ o, (carryV ⟨ops, f :: r⟩ t).1 = ⟨o, f :: r⟩ ∧ f.floor ≤ o.length ∧ (∀ t ∈ o, t ∈ ops) := by
  unfold carryV
  split
  · exact ⟨ops, rfl, hf, fun t h => h⟩
  · exact popV_ops hf
set_option maxHeartbeats 2000000 in
theorem settled_calls (h : Vd w vb ⟨ops, f :: r⟩) (hf : f.floor ≤ ops.length) (hb : ∀ t ∈ ops, t < 256) (hr : f.res < 256) :
    Calls Tryz.prog 150 #[.pointer (some ⟨vb, 0, none⟩)] w (VC vb w (.bool (settledV ⟨ops, f :: r⟩).2) (settledV ⟨ops, f :: r⟩).1) := by
  have HV : Hid _ := h
  obtain ⟨c11, g11, c40, g40, e0, e1, e2, e3, z0, z3, lO, lC⟩ := h.tops
  obtain ⟨d, hd⟩ : ∃ d, r.length = d := ⟨_, rfl⟩
  rw [hd] at c40 e0 e1 e2 e3 z0 z3 lC
  obtain ⟨o, ho, hfo, _⟩ := carryV_ops (f := f) (r := r) (t := f.res) hf
  have HB : Hid _ := hb
  have HD : Hid _ := hd
  have HO : Hid _ := ho
  clear h hb hd ho
  by_cases hc : (carryV ⟨ops, f :: r⟩ f.res).2 = true
  · have hP : settledV ⟨ops, f :: r⟩ = ((carryV ⟨ops, f :: r⟩ f.res).1, decide ((carryV ⟨ops, f :: r⟩ f.res).1.ops.length = f.floor)) := if_pos hc
    rw [hP, HO.out]
    have HC : Hid _ := hc
    clear hP hc
    by_cases hq : o.length = f.floor
    · have HQ : Hid _ := hq
      clear hq
      go_enter Tryz.func150, Tryz.ntmps150
      go_wp2_with fail
      go_quiet (fail)
      go_wp2_with (go_at_call 149; refine (carry_calls (HV.out.drewM _) hf HB.out f.res hr).mono ?_; rintro en w2 ⟨rfl, hv2, hk2⟩; rw [HC.out]; rw [HO.out] at hv2; obtain ⟨c11', g11', c40', g40', e0', e1', e2', e3', z0', z3', lO', lC'⟩ := hv2.tops; rw [HD.out] at c40' e0' e1' e2' e3' z0' z3' lC'; rw [HQ.out] at c11'; have HV2 : Hid _ := hv2; have HK2 : Hid _ := hk2; clear hv2 hk2)
      go_quiet (fail)
      go_wp2
      go_ret
      go_light
      rw [HQ.out, decide_eq_true rfl]
      exact ⟨rfl, HV2.out.drewM _, ((Kp.refl _ _).drewM _ |>.trans HK2.out).drewM _⟩
    · have hqb : ((o.length : Int) == (f.floor : Int)) = false := by rw [beq_eq_false_iff_ne]; omega
      rw [decide_eq_false hq]
      clear hq
      go_enter Tryz.func150, Tryz.ntmps150
      go_wp2_with fail
      go_quiet (fail)
      go_wp2_with (go_at_call 149; refine (carry_calls (HV.out.drewM _) hf HB.out f.res hr).mono ?_; rintro en w2 ⟨rfl, hv2, hk2⟩; rw [HC.out]; rw [HO.out] at hv2; obtain ⟨c11', g11', c40', g40', e0', e1', e2', e3', z0', z3', lO', lC'⟩ := hv2.tops; rw [HD.out] at c40' e0' e1' e2' e3' z0' z3' lC'; have HV2 : Hid _ := hv2; have HK2 : Hid _ := hk2; clear hv2 hk2)
      go_quiet (fail)
      go_wp2
      go_ret
      go_light
      exact ⟨rfl, HV2.out.drewM _, ((Kp.refl _ _).drewM _ |>.trans HK2.out).drewM _⟩
  · have hP : settledV ⟨ops, f :: r⟩ = ((carryV ⟨ops, f :: r⟩ f.res).1, false) := if_neg hc
    rw [hP, HO.out]
    have hc' : (carryV ⟨ops, f :: r⟩ f.res).2 = false := by simpa using hc
    have HC : Hid _ := hc'
    clear hP hc hc'
    go_enter Tryz.func150, Tryz.ntmps150
    go_wp2_with fail
    go_quiet (fail)
    go_wp2_with (go_at_call 149; refine (carry_calls (HV.out.drewM _) hf HB.out f.res hr).mono ?_; rintro en w2 ⟨rfl, hv2, hk2⟩; rw [HC.out]; rw [HO.out] at hv2; obtain ⟨c11', g11', c40', g40', e0', e1', e2', e3', z0', z3', lO', lC'⟩ := hv2.tops; rw [HD.out] at c40' e0' e1' e2' e3' z0' z3' lC'; have HV2 : Hid _ := hv2; have HK2 : Hid _ := hk2; clear hv2 hk2)
    go_ret
    go_light
    exact ⟨rfl, HV2.out, (Kp.refl _ _).drewM _ |>.trans HK2.out⟩
end
end Go.Proofs.Qxb6500275aGreatDoor
