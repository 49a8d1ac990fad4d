import Derived.Test.Qxb6500275aGreatDoorVn0
set_option maxRecDepth 1000000
set_option linter.unusedVariables false
set_option linter.unusedSimpArgs false
namespace Go.Proofs.Qxb6500275aGreatDoor
open Go Go.RowKit
section
variable {w wr w' : World} {cb mb gf fo : Nat} {m : MT} {fn : Fn} {vb vt lv : Value} {labs : List ByteArray} {loc resF : ByteArray} {er : Int} {a : Nat} {E : Env189} {pc : Nat} {st : ByteArray} {p : Bool} {x : Ins}
set_option maxHeartbeats 8000000 in
theorem c189_loc32 (ho : x.op = 32) : Case189 E pc st p x := by
  intro wr a c u Q hO hS hx hu1 hu14 hu15 hst hrun hN hNe hH
  obtain ⟨kb, nb, bc, hd⟩ := rd189 hO hS hx
  obtain ⟨c1, c4, f2, d0, d1, d2, hpn, ⟨hnb, hnbe⟩, hA, hX⟩ := hd
  have hlevp : ¬ ((E.lev : Int) ≤ 0) := by have := hO.lev.2; omega
  have HO : Hid _ := hO
  have HN : Hid (Next189 E pc c Q) := hN
  have HNe : Hid (Nerr189 E c Q) := hNe
  have HH : Hid (Home189 E pc Q) := hH
  have HA : Hid _ := hA
  have HX : Hid (E.fn.body[pc]? = some x) := hx
  have HRun : Hid (E.run pc st p) := hrun
  have HI : Hid _ := hX
  clear hO hN hNe hH hA hS hx hnbe hrun hX
  have hls := loc_sz HO.out
  have hxr := HI.out.x
  unfold u32R at hxr
  have hr10 := HO.out.rest
  have hS := step_plain (E := E) (pc := pc) (st := st) (p := p) (x := x) (by omega)
  obtain ⟨op, X0, Y1⟩ := x
  dsimp only at ho d0 d1 d2 hxr
  subst ho
  obtain ⟨X, rfl⟩ := Int.eq_ofNat_of_zero_le hxr.1
  obtain ⟨W, hW⟩ : ∃ W, wr.alloc (.cells #[.int .u8 32, .int .u32 (X : Int), .int .u64 Y1] 129) = W := ⟨_, rfl⟩
  have hC7 : C3 W wr.heap.size (.int .u8 32) (.int .u32 (X : Int)) (.int .u64 Y1) := by rw [← hW]; exact C3.new wr _ _ _ _
  have HC7 : Hid _ := hC7
  have y0 := hC7.c0
  have hcbl : E.cb < wr.heap.size := lt_of_cell c1
  have HA2 : Hid (E.sq (wr.alloc (.cells #[.int .u8 32, .int .u32 (X : Int), .int .u64 Y1] 129)) 0 a) := HA.out
  clear HA
  have HA : Hid _ := HA2.out
  rw [hW] at HA
  clear HA2
  have y1 := hC7.c1
  have e2 : W.cell? ⟨E.cb, 2, none⟩ = some (.string E.loc) := HA.out.ck.c2
  clear hC7
  by_cases hX : X < E.loc.size
  · obtain ⟨hv, hlv⟩ := loc_ok HO.out hX
    obtain ⟨t, ht⟩ : ∃ t, bAt E.loc X = t := ⟨_, rfl⟩
    rw [ht] at hv hlv
    unfold isVal at hv
    have ht2 : t < 256 := by omega
    have hcc : (E.loc[X].toNat : Int) = (t : Int) := by rw [bAt_get E.loc X hX, ht]
    have i1 : decide ((E.loc.size : Int) ≤ (X : Int)) = false := decide_eq_false (by omega)
    have i2 : (X : Int) < (E.loc.size : Int) := by omega
    have HON := fun u => one_m (w := u) t ht2
    obtain ⟨⟨s1, g1, ok1⟩, hp1⟩ : ∃ z, popS st p t = z := ⟨_, rfl⟩
    have hz1 := popS_le hp1
    have HP1 := fun u => vpop_m (w := u) st p t (by omega) ht2
    rw [hp1] at HP1
    unfold encP3 at HP1
    dsimp only at HP1
    rw [plain_loc (by simp) hlv (by omega) hp1] at hS
    rw [if_pos rfl, ← firstV_one ht2] at hS
    unfold Env189.fr fr189
    rw [hu1, hu14, hu15]
    have hT3 := tail3 (E := E) (b := oneB t) (s1 := st) (ok := true) HRun.out HX.out hS (by rw [oneB_size]; omega) (fun _ => by rw [oneB_at ht2]; omega) (by omega)
    have hszz : (st ++ oneB t).size = st.size + 1 := by rw [ByteArray.size_append, show (oneB t).size = 1 from rfl]
    have hsl : ¬ 9223372036854775807 < st.size + (oneB t).size := by rw [show (oneB t).size = 1 from rfl]; omega
    by_cases hd : 10 < E.rest.length + (st.size + 1)
    · have HE : Hid (E.X.2 = (pc, 28)) := hT3.2.1 rfl hd
      have hdeep : (10 : Int) < (E.rest.length : Int) + ((st.size : Int) + 1) := by omega
      clear hT3 hd hS hlv ht hv hp1 hxr
      conv => arg 2; whnf
      go_wp2_with fail
      try rw [hW]
      clear hW
      go_quiet (fail)
      go_wp2_with fail
      go_quiet (fail)
      go_wp2_with fail
      refine (HON _).mono ?_
      rintro en w2 ⟨rfl, hk2⟩
      have HA2 : Hid _ := (HA.out.new ((Kp.refl _ _).drewM _)).new hk2
      clear hk2
      go_wp2_with fail
      refine (vfail_m HA2.out.ck 28 pc).mono ?_
      rintro en wV ⟨rfl, hCV, hKV⟩
      have HSV : Hid _ := HA2.out.err hKV hCV
      clear hCV hKV
      go_wp2
      exact home_err HH.out rfl rfl HSV.out (by decide) HE.out
    · have HR2 : Hid (E.run (pc + 1) (st ++ oneB t) p) := hT3.2.2 rfl hd
      have hdeep : ¬ (10 : Int) < (E.rest.length : Int) + ((st.size : Int) + 1) := by omega
      have hlast : E.rest.length + (st.size + 1) ≤ 10 := by omega
      clear hT3 hd hS hlv ht hv hp1 hxr
      conv => arg 2; whnf
      go_wp2_with fail
      try rw [hW]
      clear hW
      go_quiet (fail)
      go_wp2_with fail
      go_quiet (fail)
      go_wp2_with fail
      refine (HON _).mono ?_
      rintro en w2 ⟨rfl, hk2⟩
      have HA2 : Hid _ := (HA.out.new ((Kp.refl _ _).drewM _)).new hk2
      clear hk2
      go_wp2
      exact HN.out _ _ (pc + 1) (st ++ oneB t) p a (by kernel_rfl) rfl rfl rfl HA2.out (by omega) (by rw [hszz]; omega) HR2.out
  · rw [plain_loc0 (by simp) (loc_no HO.out hX)] at hS
    have i1 : decide ((E.loc.size : Int) ≤ (X : Int)) = true := decide_eq_true (by omega)
    unfold Env189.fr fr189
    rw [hu1, hu14, hu15]
    have HE : Hid (E.X.2 = (pc, 22)) := Env189.stop HRun.out HX.out (hS.trans (give_err (by decide)))
    clear hS
    conv => arg 2; whnf
    go_wp2_with fail
    try rw [hW]
    clear hW
    go_quiet (fail)
    go_wp2_with fail
    refine (vfail_m (HA.out.new ((Kp.refl _ _).drewM _)).ck 22 pc).mono ?_
    rintro en wV ⟨rfl, hCV, hKV⟩
    have HSV : Hid _ := (HA.out.new ((Kp.refl _ _).drewM _)).err hKV hCV
    clear hCV hKV
    go_wp2
    exact home_err HH.out rfl rfl HSV.out (by decide) HE.out
set_option maxHeartbeats 8000000 in
theorem c189_loc33 (ho : x.op = 33) : Case189 E pc st p x := by
  intro wr a c u Q hO hS hx hu1 hu14 hu15 hst hrun hN hNe hH
  obtain ⟨kb, nb, bc, hd⟩ := rd189 hO hS hx
  obtain ⟨c1, c4, f2, d0, d1, d2, hpn, ⟨hnb, hnbe⟩, hA, hX⟩ := hd
  have hlevp : ¬ ((E.lev : Int) ≤ 0) := by have := hO.lev.2; omega
  have HO : Hid _ := hO
  have HN : Hid (Next189 E pc c Q) := hN
  have HNe : Hid (Nerr189 E c Q) := hNe
  have HH : Hid (Home189 E pc Q) := hH
  have HA : Hid _ := hA
  have HX : Hid (E.fn.body[pc]? = some x) := hx
  have HRun : Hid (E.run pc st p) := hrun
  have HI : Hid _ := hX
  clear hO hN hNe hH hA hS hx hnbe hrun hX
  have hls := loc_sz HO.out
  have hxr := HI.out.x
  unfold u32R at hxr
  have hr10 := HO.out.rest
  have hS := step_plain (E := E) (pc := pc) (st := st) (p := p) (x := x) (by omega)
  obtain ⟨op, X0, Y1⟩ := x
  dsimp only at ho d0 d1 d2 hxr
  subst ho
  obtain ⟨X, rfl⟩ := Int.eq_ofNat_of_zero_le hxr.1
  obtain ⟨W, hW⟩ : ∃ W, wr.alloc (.cells #[.int .u8 33, .int .u32 (X : Int), .int .u64 Y1] 129) = W := ⟨_, rfl⟩
  have hC7 : C3 W wr.heap.size (.int .u8 33) (.int .u32 (X : Int)) (.int .u64 Y1) := by rw [← hW]; exact C3.new wr _ _ _ _
  have HC7 : Hid _ := hC7
  have y0 := hC7.c0
  have hcbl : E.cb < wr.heap.size := lt_of_cell c1
  have HA2 : Hid (E.sq (wr.alloc (.cells #[.int .u8 33, .int .u32 (X : Int), .int .u64 Y1] 129)) 0 a) := HA.out
  clear HA
  have HA : Hid _ := HA2.out
  rw [hW] at HA
  clear HA2
  have y1 := hC7.c1
  have e2 : W.cell? ⟨E.cb, 2, none⟩ = some (.string E.loc) := HA.out.ck.c2
  clear hC7
  by_cases hX : X < E.loc.size
  · obtain ⟨hv, hlv⟩ := loc_ok HO.out hX
    obtain ⟨t, ht⟩ : ∃ t, bAt E.loc X = t := ⟨_, rfl⟩
    rw [ht] at hv hlv
    unfold isVal at hv
    have ht2 : t < 256 := by omega
    have hcc : (E.loc[X].toNat : Int) = (t : Int) := by rw [bAt_get E.loc X hX, ht]
    have i1 : decide ((E.loc.size : Int) ≤ (X : Int)) = false := decide_eq_false (by omega)
    have i2 : (X : Int) < (E.loc.size : Int) := by omega
    have HON := fun u => one_m (w := u) t ht2
    obtain ⟨⟨s1, g1, ok1⟩, hp1⟩ : ∃ z, popS st p t = z := ⟨_, rfl⟩
    have hz1 := popS_le hp1
    have HP1 := fun u => vpop_m (w := u) st p t (by omega) ht2
    rw [hp1] at HP1
    unfold encP3 at HP1
    dsimp only at HP1
    rw [plain_loc (by simp) hlv (by omega) hp1] at hS
    rw [if_neg (by simp), if_pos rfl] at hS
    unfold Env189.fr fr189
    rw [hu1, hu14, hu15]
    cases ok1 with
    | false =>
      have HE : Hid (E.X.2 = (pc, 27)) := Env189.stop HRun.out HX.out ((hS).trans (give_err (by decide)))
      clear hS hlv ht hv hp1 hxr
      conv => arg 2; whnf
      go_wp2_with fail
      try rw [hW]
      clear hW
      go_quiet (fail)
      go_wp2_with fail
      go_quiet (fail)
      go_wp2_with fail
      refine (HP1 _).mono ?_
      rintro en w2 ⟨rfl, rfl⟩
      go_wp2_with fail
      refine (vfail_m (HA.out.new ((Kp.refl _ _).drewM _)).ck 27 pc).mono ?_
      rintro en wV ⟨rfl, hCV, hKV⟩
      have HSV : Hid _ := (HA.out.new ((Kp.refl _ _).drewM _)).err hKV hCV
      clear hCV hKV
      go_wp2
      exact home_err HH.out rfl rfl HSV.out (by decide) HE.out
    | true =>
      have HR2 : Hid (E.run (pc + 1) s1 p) := Env189.next HRun.out HX.out ((hS).trans give_none)
      have hdeep : ¬ ((10 : Int) < (E.rest.length : Int) + (s1.size : Int)) := by omega
      have hsl : ¬ 9223372036854775807 < s1.size + 0 := by omega
      have hst2 : E.rest.length + s1.size ≤ 10 := by omega
      clear hS hlv ht hv hp1 hxr
      conv => arg 2; whnf
      go_wp2_with fail
      try rw [hW]
      clear hW
      go_quiet (fail)
      go_wp2_with fail
      go_quiet (fail)
      go_wp2_with fail
      refine (HP1 _).mono ?_
      rintro en w2 ⟨rfl, rfl⟩
      go_wp2
      exact HN.out _ _ (pc + 1) (s1 ++ ⟨#[]⟩) p a (by kernel_rfl) rfl rfl rfl (HA.out.new ((Kp.refl _ _).drewM _)) (by omega) (by rw [ba_nil]; exact hst2) (by rw [ba_nil]; exact HR2.out)
  · rw [plain_loc0 (by simp) (loc_no HO.out hX)] at hS
    have i1 : decide ((E.loc.size : Int) ≤ (X : Int)) = true := decide_eq_true (by omega)
    unfold Env189.fr fr189
    rw [hu1, hu14, hu15]
    have HE : Hid (E.X.2 = (pc, 22)) := Env189.stop HRun.out HX.out (hS.trans (give_err (by decide)))
    clear hS
    conv => arg 2; whnf
    go_wp2_with fail
    try rw [hW]
    clear hW
    go_quiet (fail)
    go_wp2_with fail
    refine (vfail_m (HA.out.new ((Kp.refl _ _).drewM _)).ck 22 pc).mono ?_
    rintro en wV ⟨rfl, hCV, hKV⟩
    have HSV : Hid _ := (HA.out.new ((Kp.refl _ _).drewM _)).err hKV hCV
    clear hCV hKV
    go_wp2
    exact home_err HH.out rfl rfl HSV.out (by decide) HE.out
set_option maxHeartbeats 8000000 in
theorem c189_loc34 (ho : x.op = 34) : Case189 E pc st p x := by
  intro wr a c u Q hO hS hx hu1 hu14 hu15 hst hrun hN hNe hH
  obtain ⟨kb, nb, bc, hd⟩ := rd189 hO hS hx
  obtain ⟨c1, c4, f2, d0, d1, d2, hpn, ⟨hnb, hnbe⟩, hA, hX⟩ := hd
  have hlevp : ¬ ((E.lev : Int) ≤ 0) := by have := hO.lev.2; omega
  have HO : Hid _ := hO
  have HN : Hid (Next189 E pc c Q) := hN
  have HNe : Hid (Nerr189 E c Q) := hNe
  have HH : Hid (Home189 E pc Q) := hH
  have HA : Hid _ := hA
  have HX : Hid (E.fn.body[pc]? = some x) := hx
  have HRun : Hid (E.run pc st p) := hrun
  have HI : Hid _ := hX
  clear hO hN hNe hH hA hS hx hnbe hrun hX
  have hls := loc_sz HO.out
  have hxr := HI.out.x
  unfold u32R at hxr
  have hr10 := HO.out.rest
  have hS := step_plain (E := E) (pc := pc) (st := st) (p := p) (x := x) (by omega)
  obtain ⟨op, X0, Y1⟩ := x
  dsimp only at ho d0 d1 d2 hxr
  subst ho
  obtain ⟨X, rfl⟩ := Int.eq_ofNat_of_zero_le hxr.1
  obtain ⟨W, hW⟩ : ∃ W, wr.alloc (.cells #[.int .u8 34, .int .u32 (X : Int), .int .u64 Y1] 129) = W := ⟨_, rfl⟩
  have hC7 : C3 W wr.heap.size (.int .u8 34) (.int .u32 (X : Int)) (.int .u64 Y1) := by rw [← hW]; exact C3.new wr _ _ _ _
  have HC7 : Hid _ := hC7
  have y0 := hC7.c0
  have hcbl : E.cb < wr.heap.size := lt_of_cell c1
  have HA2 : Hid (E.sq (wr.alloc (.cells #[.int .u8 34, .int .u32 (X : Int), .int .u64 Y1] 129)) 0 a) := HA.out
  clear HA
  have HA : Hid _ := HA2.out
  rw [hW] at HA
  clear HA2
  have y1 := hC7.c1
  have e2 : W.cell? ⟨E.cb, 2, none⟩ = some (.string E.loc) := HA.out.ck.c2
  clear hC7
  by_cases hX : X < E.loc.size
  · obtain ⟨hv, hlv⟩ := loc_ok HO.out hX
    obtain ⟨t, ht⟩ : ∃ t, bAt E.loc X = t := ⟨_, rfl⟩
    rw [ht] at hv hlv
    unfold isVal at hv
    have ht2 : t < 256 := by omega
    have hcc : (E.loc[X].toNat : Int) = (t : Int) := by rw [bAt_get E.loc X hX, ht]
    have i1 : decide ((E.loc.size : Int) ≤ (X : Int)) = false := decide_eq_false (by omega)
    have i2 : (X : Int) < (E.loc.size : Int) := by omega
    have HON := fun u => one_m (w := u) t ht2
    obtain ⟨⟨s1, g1, ok1⟩, hp1⟩ : ∃ z, popS st p t = z := ⟨_, rfl⟩
    have hz1 := popS_le hp1
    have HP1 := fun u => vpop_m (w := u) st p t (by omega) ht2
    rw [hp1] at HP1
    unfold encP3 at HP1
    dsimp only at HP1
    rw [plain_loc (by simp) hlv (by omega) hp1] at hS
    rw [if_neg (by simp), if_neg (by simp), ← firstV_one ht2] at hS
    unfold Env189.fr fr189
    rw [hu1, hu14, hu15]
    have hT3 := tail3 (E := E) (b := oneB t) (s1 := s1) (ok := ok1) HRun.out HX.out hS (by rw [oneB_size]; omega) (fun _ => by rw [oneB_at ht2]; omega) (by omega)
    cases ok1 with
    | false =>
      have HE : Hid (E.X.2 = (pc, 27)) := hT3.1 rfl
      clear hT3 hS hlv ht hv hp1 hxr
      conv => arg 2; whnf
      go_wp2_with fail
      try rw [hW]
      clear hW
      go_quiet (fail)
      go_wp2_with fail
      go_quiet (fail)
      go_wp2_with fail
      refine (HP1 _).mono ?_
      rintro en w2 ⟨rfl, rfl⟩
      go_wp2_with fail
      refine (HON _).mono ?_
      rintro en w3 ⟨rfl, hk3⟩
      have HA3 : Hid _ := (HA.out.new ((Kp.refl _ _).drewM _)).new hk3
      clear hk3
      go_wp2_with fail
      refine (vfail_m HA3.out.ck 27 pc).mono ?_
      rintro en wV ⟨rfl, hCV, hKV⟩
      have HSV : Hid _ := HA3.out.err hKV hCV
      clear hCV hKV
      go_wp2
      exact home_err HH.out rfl rfl HSV.out (by decide) HE.out
    | true =>
      have hszz : (s1 ++ oneB t).size = s1.size + 1 := by rw [ByteArray.size_append, show (oneB t).size = 1 from rfl]
      have hsl : ¬ 9223372036854775807 < s1.size + (oneB t).size := by rw [show (oneB t).size = 1 from rfl]; omega
      by_cases hd : 10 < E.rest.length + (s1.size + 1)
      · have HE : Hid (E.X.2 = (pc, 28)) := hT3.2.1 rfl hd
        have hdeep : (10 : Int) < (E.rest.length : Int) + ((s1.size : Int) + 1) := by omega
        clear hT3 hd hS hlv ht hv hp1 hxr
        conv => arg 2; whnf
        go_wp2_with fail
        try rw [hW]
        clear hW
        go_quiet (fail)
        go_wp2_with fail
        go_quiet (fail)
        go_wp2_with fail
        refine (HP1 _).mono ?_
        rintro en w2 ⟨rfl, rfl⟩
        go_wp2_with fail
        refine (HON _).mono ?_
        rintro en w3 ⟨rfl, hk3⟩
        have HA3 : Hid _ := (HA.out.new ((Kp.refl _ _).drewM _)).new hk3
        clear hk3
        go_wp2_with fail
        refine (vfail_m HA3.out.ck 28 pc).mono ?_
        rintro en wV ⟨rfl, hCV, hKV⟩
        have HSV : Hid _ := HA3.out.err hKV hCV
        clear hCV hKV
        go_wp2
        exact home_err HH.out rfl rfl HSV.out (by decide) HE.out
      · have HR2 : Hid (E.run (pc + 1) (s1 ++ oneB t) p) := hT3.2.2 rfl hd
        have hdeep : ¬ (10 : Int) < (E.rest.length : Int) + ((s1.size : Int) + 1) := by omega
        have hlast : E.rest.length + (s1.size + 1) ≤ 10 := by omega
        clear hT3 hd hS hlv ht hv hp1 hxr
        conv => arg 2; whnf
        go_wp2_with fail
        try rw [hW]
        clear hW
        go_quiet (fail)
        go_wp2_with fail
        go_quiet (fail)
        go_wp2_with fail
        refine (HP1 _).mono ?_
        rintro en w2 ⟨rfl, rfl⟩
        go_wp2_with fail
        refine (HON _).mono ?_
        rintro en w3 ⟨rfl, hk3⟩
        have HA3 : Hid _ := (HA.out.new ((Kp.refl _ _).drewM _)).new hk3
        clear hk3
        go_wp2
        exact HN.out _ _ (pc + 1) (s1 ++ oneB t) p a (by kernel_rfl) rfl rfl rfl HA3.out (by omega) (by rw [hszz]; omega) HR2.out
  · rw [plain_loc0 (by simp) (loc_no HO.out hX)] at hS
    have i1 : decide ((E.loc.size : Int) ≤ (X : Int)) = true := decide_eq_true (by omega)
    unfold Env189.fr fr189
    rw [hu1, hu14, hu15]
    have HE : Hid (E.X.2 = (pc, 22)) := Env189.stop HRun.out HX.out (hS.trans (give_err (by decide)))
    clear hS
    conv => arg 2; whnf
    go_wp2_with fail
    try rw [hW]
    clear hW
    go_quiet (fail)
    go_wp2_with fail
    refine (vfail_m (HA.out.new ((Kp.refl _ _).drewM _)).ck 22 pc).mono ?_
    rintro en wV ⟨rfl, hCV, hKV⟩
    have HSV : Hid _ := (HA.out.new ((Kp.refl _ _).drewM _)).err hKV hCV
    clear hCV hKV
    go_wp2
    exact home_err HH.out rfl rfl HSV.out (by decide) HE.out
end
end Go.Proofs.Qxb6500275aGreatDoor
