import Derived.Test.Qxb6500275aGreatDoorVn0
import Derived.Test.Qxb6500275aGreatDoorVb1
set_option maxRecDepth 1000000
set_option linter.unusedVariables false
set_option linter.unusedSimpArgs false
namespace Go.Proofs.Qxb6500275aGreatDoor
open Go Go.RowKit
section
variable {w wr w' : World} {cb mb gf fo : Nat} {m : MT} {fn : Fn} {vb vt lv : Value} {labs : List ByteArray} {loc resF : ByteArray} {er : Int} {a : Nat} {E : Env189} {pc : Nat} {st : ByteArray} {p : Bool} {x : Ins}
set_option maxHeartbeats 8000000 in
theorem c189_call (ho : x.op = 16) : Case189 E pc st p x := by
  intro wr a c u Q hO hS hx hu1 hu14 hu15 hst hrun hN hNe hH
  obtain ⟨kb, nb, bc, hd⟩ := rd189 hO hS hx
  obtain ⟨c1, c4, f2, d0, d1, d2, hpn, ⟨hnb, hnbe⟩, hA, hX⟩ := hd
  have hlevp : ¬ ((E.lev : Int) ≤ 0) := by have := hO.lev.2; omega
  have HO : Hid _ := hO
  have HN : Hid (Next189 E pc c Q) := hN
  have HNe : Hid (Nerr189 E c Q) := hNe
  have HH : Hid (Home189 E pc Q) := hH
  have HA : Hid _ := hA
  have HX : Hid (E.fn.body[pc]? = some x) := hx
  have HRun : Hid (E.run pc st p) := hrun
  have HI : Hid _ := hX
  clear hO hN hNe hH hA hS hx hnbe hrun hX
  have HM0 : Hid _ := HO.out.mod
  have hxr := HI.out.x
  unfold u32R at hxr
  have hr10 := HO.out.rest
  have hS := step_plain (E := E) (pc := pc) (st := st) (p := p) (x := x) (by omega)
  obtain ⟨op, X0, Y1⟩ := x
  dsimp only at ho d0 d1 d2 hxr
  subst ho
  obtain ⟨X, rfl⟩ := Int.eq_ofNat_of_zero_le hxr.1
  obtain ⟨W, hW⟩ : ∃ W, wr.alloc (.cells #[.int .u8 16, .int .u32 (X : Int), .int .u64 Y1] 129) = W := ⟨_, rfl⟩
  have hC7 : C3 W wr.heap.size (.int .u8 16) (.int .u32 (X : Int)) (.int .u64 Y1) := by rw [← hW]; exact C3.new wr _ _ _ _
  have HC7 : Hid _ := hC7
  have y0 := hC7.c0
  have hcbl : E.cb < wr.heap.size := lt_of_cell c1
  have HA2 : Hid (E.sq (wr.alloc (.cells #[.int .u8 16, .int .u32 (X : Int), .int .u64 Y1] 129)) 0 a) := HA.out
  clear HA
  have HA : Hid _ := HA2.out
  rw [hW] at HA
  clear HA2
  have y1 := hC7.c1
  have e0 : W.cell? ⟨E.cb, 0, none⟩ = some (.pointer (some ⟨E.mb, 0, none⟩)) := HA.out.ck.c0
  clear hC7
  have HT := fun k => typeOf_m (HA.out.mw.keep ((Kp.refl (fun _ => False) W).drewM k) (fun _ _ h => h)) HO.out.mod (X : Int) (by omega)
  cases hto : E.m.mod.typeOf (X : Int) with
  | none =>
    rw [plain_call16n rfl hto] at hS
    rw [hto] at HT
    unfold encTo at HT
    dsimp only at HT
    unfold Env189.fr fr189
    rw [hu1, hu14, hu15]
    have HE : Hid (E.X.2 = (pc, 15)) := Env189.stop HRun.out HX.out (hS.trans (give_err (by decide)))
    clear hS hto
    conv => arg 2; whnf
    go_wp2_with fail
    try rw [hW]
    clear hW
    go_quiet ((go_at_call 85; exact Calls.quiet_of (HT _)))
    go_wp2_with fail
    refine (vfail_m (HA.out.new ((Kp.refl _ _).drewM _)).ck 15 pc).mono ?_
    rintro en wV ⟨rfl, hCV, hKV⟩
    have HSV : Hid _ := (HA.out.new ((Kp.refl _ _).drewM _)).err hKV hCV
    clear hCV hKV
    go_wp2
    exact home_err HH.out rfl rfl HSV.out (by decide) HE.out
  | some t =>
    have hTy := typeOf_ok HO.out.mod hto
    obtain ⟨nq, hq⟩ : ∃ n, t.q.size = n := ⟨_, rfl⟩
    have hnq : nq ≤ 1 := by have := hTy.nq; omega
    have h64 : t.q.size = 1 → bAt t.q 0 ≠ 64 := fun h e => by
      have := hTy.q 0 (by omega)
      unfold isVal at this
      omega
    have hnp := hTy.np
    have HSp := fun u => split_quiet (w := u) t hTy.p hTy.np hTy.nq
    obtain ⟨⟨s1, ok1⟩, hp1⟩ : ∃ z, popsS p (argsV t.p) st = z := ⟨_, rfl⟩
    have hz1 := popsS_le hp1
    have HP1 := fun u => vpops_m (w := u) st p t.p (by omega) (by omega)
    rw [hp1] at HP1
    unfold encP2 at HP1
    dsimp only at HP1
    rw [plain_call16 rfl hto hp1] at hS
    rw [hto] at HT
    unfold encTo at HT
    dsimp only at HT
    unfold Env189.fr fr189
    rw [hu1, hu14, hu15]
    have hT3 := tail3 (E := E) (b := t.q) (s1 := s1) (ok := ok1) HRun.out HX.out hS (by omega) h64 (by omega)
    rw [show (t.q).size = nq from hq] at hT3
    cases ok1 with
    | false =>
      have HE : Hid (E.X.2 = (pc, 27)) := hT3.1 rfl
      clear hT3 hS hto hTy h64 hp1 hq
      conv => arg 2; whnf
      go_wp2_with fail
      try rw [hW]
      clear hW
      go_quiet ((go_at_call 85; exact Calls.quiet_of (HT _)))
      go_wp2_with fail
      refine (HSp _).mono ?_
      rintro en w2 ⟨rfl, k2, rfl⟩
      go_wp2_with fail
      refine (HP1 _).mono ?_
      rintro en w3 ⟨rfl, rfl⟩
      go_wp2_with fail
      refine (vfail_m (HA.out.new ((Kp.refl _ _).drewM _)).ck 27 pc).mono ?_
      rintro en wV ⟨rfl, hCV, hKV⟩
      have HSV : Hid _ := (HA.out.new ((Kp.refl _ _).drewM _)).err hKV hCV
      clear hCV hKV
      go_wp2
      exact home_err HH.out rfl rfl HSV.out (by decide) HE.out
    | true =>
      have hszz : (s1 ++ t.q).size = s1.size + nq := by rw [ByteArray.size_append, show (t.q).size = nq from hq]
      have hsl : ¬ 9223372036854775807 < s1.size + (t.q).size := by rw [show (t.q).size = nq from hq]; omega
      by_cases hd : 10 < E.rest.length + (s1.size + nq)
      · have HE : Hid (E.X.2 = (pc, 28)) := hT3.2.1 rfl hd
        have hdeep : (10 : Int) < (E.rest.length : Int) + ((s1.size : Int) + nq) := by omega
        clear hT3 hd hS hto hTy h64 hp1 hq
        conv => arg 2; whnf
        go_wp2_with fail
        try rw [hW]
        clear hW
        go_quiet ((go_at_call 85; exact Calls.quiet_of (HT _)))
        go_wp2_with fail
        refine (HSp _).mono ?_
        rintro en w2 ⟨rfl, k2, rfl⟩
        go_wp2_with fail
        refine (HP1 _).mono ?_
        rintro en w3 ⟨rfl, rfl⟩
        go_wp2_with fail
        refine (vfail_m (HA.out.new ((Kp.refl _ _).drewM _)).ck 28 pc).mono ?_
        rintro en wV ⟨rfl, hCV, hKV⟩
        have HSV : Hid _ := (HA.out.new ((Kp.refl _ _).drewM _)).err hKV hCV
        clear hCV hKV
        go_wp2
        exact home_err HH.out rfl rfl HSV.out (by decide) HE.out
      · have HR2 : Hid (E.run (pc + 1) (s1 ++ t.q) p) := hT3.2.2 rfl hd
        have hdeep : ¬ (10 : Int) < (E.rest.length : Int) + ((s1.size : Int) + nq) := by omega
        have hlast : E.rest.length + (s1.size + nq) ≤ 10 := by omega
        clear hT3 hd hS hto hTy h64 hp1 hq
        conv => arg 2; whnf
        go_wp2_with fail
        try rw [hW]
        clear hW
        go_quiet ((go_at_call 85; exact Calls.quiet_of (HT _)))
        go_wp2_with fail
        refine (HSp _).mono ?_
        rintro en w2 ⟨rfl, k2, rfl⟩
        go_wp2_with fail
        refine (HP1 _).mono ?_
        rintro en w3 ⟨rfl, rfl⟩
        go_wp2
        exact HN.out _ _ (pc + 1) (s1 ++ t.q) p a (by kernel_rfl) rfl rfl rfl (HA.out.new ((Kp.refl _ _).drewM _)) (by omega) (by rw [hszz]; omega) HR2.out
set_option maxHeartbeats 8000000 in
theorem c189_ind (ho : x.op = 17) : Case189 E pc st p x := by
  intro wr a c u Q hO hS hx hu1 hu14 hu15 hst hrun hN hNe hH
  obtain ⟨kb, nb, bc, hd⟩ := rd189 hO hS hx
  obtain ⟨c1, c4, f2, d0, d1, d2, hpn, ⟨hnb, hnbe⟩, hA, hX⟩ := hd
  have hlevp : ¬ ((E.lev : Int) ≤ 0) := by have := hO.lev.2; omega
  have HO : Hid _ := hO
  have HN : Hid (Next189 E pc c Q) := hN
  have HNe : Hid (Nerr189 E c Q) := hNe
  have HH : Hid (Home189 E pc Q) := hH
  have HA : Hid _ := hA
  have HX : Hid (E.fn.body[pc]? = some x) := hx
  have HRun : Hid (E.run pc st p) := hrun
  have HI : Hid _ := hX
  clear hO hN hNe hH hA hS hx hnbe hrun hX
  have hmm := HO.out.mod.tabMin
  unfold limR at hmm
  have hmm2 : -1 ≤ E.m.tabMin ∧ E.m.tabMin < 4294967296 := hmm
  have hnt := HO.out.mod.nt
  have hxr := HI.out.x
  unfold u32R at hxr
  have hr10 := HO.out.rest
  have hS := step_plain (E := E) (pc := pc) (st := st) (p := p) (x := x) (by omega)
  obtain ⟨op, X0, Y1⟩ := x
  dsimp only at ho d0 d1 d2 hxr
  subst ho
  obtain ⟨X, rfl⟩ := Int.eq_ofNat_of_zero_le hxr.1
  obtain ⟨W, hW⟩ : ∃ W, wr.alloc (.cells #[.int .u8 17, .int .u32 (X : Int), .int .u64 Y1] 129) = W := ⟨_, rfl⟩
  have hC7 : C3 W wr.heap.size (.int .u8 17) (.int .u32 (X : Int)) (.int .u64 Y1) := by rw [← hW]; exact C3.new wr _ _ _ _
  have HC7 : Hid _ := hC7
  have y0 := hC7.c0
  have hcbl : E.cb < wr.heap.size := lt_of_cell c1
  have HA2 : Hid (E.sq (wr.alloc (.cells #[.int .u8 17, .int .u32 (X : Int), .int .u64 Y1] 129)) 0 a) := HA.out
  clear HA
  have HA : Hid _ := HA2.out
  rw [hW] at HA
  clear HA2
  have y1 := hC7.c1
  have e0 : W.cell? ⟨E.cb, 0, none⟩ = some (.pointer (some ⟨E.mb, 0, none⟩)) := HA.out.ck.c0
  have e3 : W.cell? ⟨E.mb, 3, none⟩ = some (.int .i64 E.m.tabMin) := HA.out.mw.c3
  obtain ⟨ga, gcp, hgv⟩ := HA.out.mw.slTy
  have e7 : W.cell? ⟨E.mb, 0, none⟩ = some E.m.vt := HA.out.mw.c0
  rw [hgv] at e7
  obtain ⟨ng, hnge⟩ : ∃ n, E.m.types.length = n := ⟨_, rfl⟩
  have hng2 : ng ≤ 8 := by rw [← hnge]; exact hnt
  rw [hnge] at e7
  clear hC7
  by_cases hmn : E.m.mod.tabMin < 0
  · have hmn2 : E.m.tabMin < 0 := hmn
    rw [plain_call17t rfl hmn] at hS
    unfold Env189.fr fr189
    rw [hu1, hu14, hu15]
    have HE : Hid (E.X.2 = (pc, 21)) := Env189.stop HRun.out HX.out (hS.trans (give_err (by decide)))
    clear hS hnge hgv
    conv => arg 2; whnf
    go_wp2_with fail
    try rw [hW]
    clear hW
    refine (vfail_m HA.out.ck 21 pc).mono ?_
    rintro en wV ⟨rfl, hCV, hKV⟩
    have HSV : Hid _ := HA.out.err hKV hCV
    clear hCV hKV
    go_wp2
    exact home_err HH.out rfl rfl HSV.out (by decide) HE.out
  · have hmn2 : ¬ E.m.tabMin < 0 := hmn
    by_cases hX : X < ng
    · obtain ⟨t, hg⟩ : ∃ g, E.m.types[X]? = some g := ⟨_, List.getElem?_eq_getElem (by omega)⟩
      obtain ⟨gk, gc2, gv2, gl1, gl2, gl3, gcell⟩ := HA.out.mw.atTy hg
      rw [hgv] at gv2
      simp at gv2
      obtain ⟨rfl, rfl⟩ := gv2
      have z0 : W.cell? ⟨gk, X, none⟩ = some (.string t.text) := by have := gcell 0 _ rfl; rw [Nat.mul_one, Nat.add_zero] at this; exact this
      have hTy := HO.out.mod.types t (List.mem_of_getElem? hg)
      have i1 : decide ((ng : Int) ≤ (X : Int)) = false := decide_eq_false (by omega)
      have i2 : (X : Int) < (ng : Int) := by omega
      obtain ⟨nq, hq⟩ : ∃ n, t.q.size = n := ⟨_, rfl⟩
      have hnq : nq ≤ 1 := by have := hTy.nq; omega
      have h64 : t.q.size = 1 → bAt t.q 0 ≠ 64 := fun h e => by
        have := hTy.q 0 (by omega)
        unfold isVal at this
        omega
      have hnp := hTy.np
      have HSp := fun u => split_quiet (w := u) t hTy.p hTy.np hTy.nq
      obtain ⟨⟨s1, g1, ok1⟩, hp1⟩ : ∃ z, popS st p 127 = z := ⟨_, rfl⟩
      have hz1 := popS_le hp1
      have HP1 := fun u => vpop_m (w := u) st p 127 (by omega) (by decide)
      rw [hp1] at HP1
      unfold encP3 at HP1
      dsimp only at HP1
      obtain ⟨⟨s2, ok2⟩, hp2⟩ : ∃ z, popsS p (argsV t.p) s1 = z := ⟨_, rfl⟩
      have hz2 := popsS_le hp2
      have HP2 := fun u => vpops_m (w := u) s1 p t.p (by omega) (by omega)
      rw [hp2] at HP2
      unfold encP2 at HP2
      dsimp only at HP2
      rw [plain_call17 rfl hmn (by rw [Int.toNat_natCast]; exact hg) hp1 hp2] at hS
      unfold Env189.fr fr189
      rw [hu1, hu14, hu15]
      cases ok1 with
      | false =>
        have HE : Hid (E.X.2 = (pc, 27)) := Env189.stop HRun.out HX.out (hS.trans (give_err (by decide)))
        clear hS hnge hgv hTy h64 hp1 hp2 hq hg gcell
        conv => arg 2; whnf
        go_wp2_with fail
        try rw [hW]
        clear hW
        go_quiet (fail)
        go_wp2_with fail
        go_quiet (fail)
        go_wp2_with fail
        refine (HP1 _).mono ?_
        rintro en w2 ⟨rfl, rfl⟩
        go_wp2_with fail
        refine (HSp _).mono ?_
        rintro en w3 ⟨rfl, k3, rfl⟩
        go_wp2_with fail
        refine (vfail_m (HA.out.new ((Kp.refl _ _).drewM _)).ck 27 pc).mono ?_
        rintro en wV ⟨rfl, hCV, hKV⟩
        have HSV : Hid _ := (HA.out.new ((Kp.refl _ _).drewM _)).err hKV hCV
        clear hCV hKV
        go_wp2
        exact home_err HH.out rfl rfl HSV.out (by decide) HE.out
      | true =>
        have hT3 := tail3 (E := E) (b := t.q) (s1 := s2) (ok := ok2) HRun.out HX.out hS (by omega) h64 (by omega)
        rw [show (t.q).size = nq from hq] at hT3
        cases ok2 with
        | false =>
          have HE : Hid (E.X.2 = (pc, 27)) := hT3.1 rfl
          clear hT3 hS hnge hgv hTy h64 hp1 hp2 hq hg gcell
          conv => arg 2; whnf
          go_wp2_with fail
          try rw [hW]
          clear hW
          go_quiet (fail)
          go_wp2_with fail
          go_quiet (fail)
          go_wp2_with fail
          refine (HP1 _).mono ?_
          rintro en w2 ⟨rfl, rfl⟩
          go_wp2_with fail
          refine (HSp _).mono ?_
          rintro en w3 ⟨rfl, k3, rfl⟩
          go_wp2_with fail
          refine (HP2 _).mono ?_
          rintro en w4 ⟨rfl, rfl⟩
          go_wp2_with fail
          refine (vfail_m (HA.out.new ((Kp.refl _ _).drewM _)).ck 27 pc).mono ?_
          rintro en wV ⟨rfl, hCV, hKV⟩
          have HSV : Hid _ := (HA.out.new ((Kp.refl _ _).drewM _)).err hKV hCV
          clear hCV hKV
          go_wp2
          exact home_err HH.out rfl rfl HSV.out (by decide) HE.out
        | true =>
          have hszz : (s2 ++ t.q).size = s2.size + nq := by rw [ByteArray.size_append, show (t.q).size = nq from hq]
          have hsl : ¬ 9223372036854775807 < s2.size + (t.q).size := by rw [show (t.q).size = nq from hq]; omega
          by_cases hd : 10 < E.rest.length + (s2.size + nq)
          · have HE : Hid (E.X.2 = (pc, 28)) := hT3.2.1 rfl hd
            have hdeep : (10 : Int) < (E.rest.length : Int) + ((s2.size : Int) + nq) := by omega
            clear hT3 hd hS hnge hgv hTy h64 hp1 hp2 hq hg gcell
            conv => arg 2; whnf
            go_wp2_with fail
            try rw [hW]
            clear hW
            go_quiet (fail)
            go_wp2_with fail
            go_quiet (fail)
            go_wp2_with fail
            refine (HP1 _).mono ?_
            rintro en w2 ⟨rfl, rfl⟩
            go_wp2_with fail
            refine (HSp _).mono ?_
            rintro en w3 ⟨rfl, k3, rfl⟩
            go_wp2_with fail
            refine (HP2 _).mono ?_
            rintro en w4 ⟨rfl, rfl⟩
            go_wp2_with fail
            refine (vfail_m (HA.out.new ((Kp.refl _ _).drewM _)).ck 28 pc).mono ?_
            rintro en wV ⟨rfl, hCV, hKV⟩
            have HSV : Hid _ := (HA.out.new ((Kp.refl _ _).drewM _)).err hKV hCV
            clear hCV hKV
            go_wp2
            exact home_err HH.out rfl rfl HSV.out (by decide) HE.out
          · have HR2 : Hid (E.run (pc + 1) (s2 ++ t.q) p) := hT3.2.2 rfl hd
            have hdeep : ¬ (10 : Int) < (E.rest.length : Int) + ((s2.size : Int) + nq) := by omega
            have hlast : E.rest.length + (s2.size + nq) ≤ 10 := by omega
            clear hT3 hd hS hnge hgv hTy h64 hp1 hp2 hq hg gcell
            conv => arg 2; whnf
            go_wp2_with fail
            try rw [hW]
            clear hW
            go_quiet (fail)
            go_wp2_with fail
            go_quiet (fail)
            go_wp2_with fail
            refine (HP1 _).mono ?_
            rintro en w2 ⟨rfl, rfl⟩
            go_wp2_with fail
            refine (HSp _).mono ?_
            rintro en w3 ⟨rfl, k3, rfl⟩
            go_wp2_with fail
            refine (HP2 _).mono ?_
            rintro en w4 ⟨rfl, rfl⟩
            go_wp2
            exact HN.out _ _ (pc + 1) (s2 ++ t.q) p a (by kernel_rfl) rfl rfl rfl (HA.out.new ((Kp.refl _ _).drewM _)) (by omega) (by rw [hszz]; omega) HR2.out
    · rw [plain_call17n rfl hmn (by rw [Int.toNat_natCast]; exact List.getElem?_eq_none (by show E.m.types.length ≤ X; omega))] at hS
      have i1 : decide ((ng : Int) ≤ (X : Int)) = true := decide_eq_true (by omega)
      unfold Env189.fr fr189
      rw [hu1, hu14, hu15]
      have HE : Hid (E.X.2 = (pc, 14)) := Env189.stop HRun.out HX.out (hS.trans (give_err (by decide)))
      clear hS hnge hgv
      conv => arg 2; whnf
      go_wp2_with fail
      try rw [hW]
      clear hW
      go_quiet (fail)
      go_wp2_with fail
      refine (vfail_m (HA.out.new ((Kp.refl _ _).drewM _)).ck 14 pc).mono ?_
      rintro en wV ⟨rfl, hCV, hKV⟩
      have HSV : Hid _ := (HA.out.new ((Kp.refl _ _).drewM _)).err hKV hCV
      clear hCV hKV
      go_wp2
      exact home_err HH.out rfl rfl HSV.out (by decide) HE.out
end
end Go.Proofs.Qxb6500275aGreatDoor
