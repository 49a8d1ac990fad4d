import Derived.Test.Qxb6500275aGreatDoorVm5
set_option maxRecDepth 1000000
set_option linter.unusedVariables false
set_option linter.unusedSimpArgs false
namespace Go.Proofs.Qxb6500275aGreatDoor
open Go Go.RowKit
section
variable {w wr w' : World} {cb mb gf fo : Nat} {m : MT} {fn : Fn} {vb vt lv : Value} {labs : List ByteArray} {loc resF : ByteArray} {er : Int} {a : Nat} {E : Env189} {pc : Nat} {st : ByteArray} {p : Bool} {x : Ins}
theorem step_plain (h1 : 16 ≤ x.op) : stepV E.m.mod E.fn E.params pc (E.v st p) x = giveV pc (plainV E.m.mod E.params E.fn.locals (E.v st p) x) := by
  unfold stepV
  rw [if_neg (by omega), if_neg (by omega), if_neg (by omega), if_neg (by omega), if_neg (by omega), if_neg (by omega), if_neg (by omega), if_neg (by omega), if_neg (by omega), if_neg (by omega)]
theorem give_err {v : VS} {t : Nat} {e : Int} (he : e ≠ 0) : giveV pc (v, t, e) = (v, some (pc, e)) := by unfold giveV; rw [if_pos he]
theorem give_none {v : VS} : giveV pc (v, 64, 0) = (v, none) := by unfold giveV; simp
/- home with an error -/
theorem home_err {Q : Exit → Act → World → Prop} (hH : Home189 E pc Q) {tmps : Array Value} {w' : World} {pc' : Nat} {er : Int} {a' : Nat} (h12 : tmps.getD 12 undef = .int .i64 (pc' : Int)) (h13 : tmps.getD 13 undef = .int .u8 0) (hs : E.sq w' er a') (he : er ≠ 0) (hx : E.X.2 = (a', er)) : Q .ret ⟨tmps, []⟩ w' :=
  hH tmps w' pc' 0 er a' h12 h13 hs (.inl ⟨he, hx⟩)
set_option maxHeartbeats 8000000 in
theorem c189_drop (ho : x.op = 26) : Case189 E pc st p x := by
  intro wr a c u Q hO hS hx hu1 hu14 hu15 hst hrun hN hNe hH
  obtain ⟨kb, nb, bc, hd⟩ := rd189 hO hS hx
  obtain ⟨c1, c4, f2, d0, d1, d2, hpn, ⟨hnb, hnbe⟩, hA, hX⟩ := hd
  have hlevp : ¬ ((E.lev : Int) ≤ 0) := by have := hO.lev.2; omega
  have HO : Hid _ := hO
  have HN : Hid (Next189 E pc c Q) := hN
  have HNe : Hid (Nerr189 E c Q) := hNe
  have HH : Hid (Home189 E pc Q) := hH
  have HA : Hid _ := hA
  have HX : Hid (E.fn.body[pc]? = some x) := hx
  have HRun : Hid (E.run pc st p) := hrun
  have HI : Hid _ := hX
  clear hO hN hNe hH hA hS hx hnbe hrun hX
  have hS := step_plain (E := E) (pc := pc) (st := st) (p := p) (x := x) (by omega)
  have hP : plainV E.m.mod E.params E.fn.locals (E.v st p) x = (E.v (popS st p 0).1 p, 64, typedV (popS st p 0).2.2) := by
    unfold plainV
    rw [if_neg (by omega), if_pos ho]
    unfold Env189.v
    rw [popV_mk]
  rw [hP] at hS
  have hr10 := HO.out.rest
  obtain ⟨op, X1, Y1⟩ := x
  dsimp only at ho d0 d1 d2
  subst ho
  have HP := vpop_m (w := wr.alloc (.cells #[.int .u8 26, .int .u32 X1, .int .u64 Y1] 129)) st p 0 (by omega) (by decide)
  have hps := popS_size st p 0
  obtain ⟨ps, hpe⟩ : ∃ ps, popS st p 0 = ps := ⟨_, rfl⟩
  rw [hpe] at HP hS hps
  obtain ⟨s1, got, ok⟩ := ps
  dsimp only at hS hps
  have HV := vfail_m HA.out.ck 27 pc
  clear hP hpe
  unfold Env189.fr fr189
  rw [hu1, hu14, hu15]
  cases ok with
  | true =>
    have HR2 : Hid (E.run (pc + 1) s1 p) := Env189.next HRun.out HX.out (hS.trans give_none)
    have hdeep : ¬ ((10 : Int) < (E.rest.length : Int) + (s1.size : Int)) := by omega
    have hsl : ¬ 9223372036854775807 < s1.size + 0 := by omega
    have hst2 : E.rest.length + s1.size ≤ 10 := by omega
    clear hS HV
    conv => arg 2; whnf
    go_wp2_with fail
    refine HP.mono ?_
    rintro en w2 ⟨rfl, rfl⟩
    unfold encP3
    go_wp2
    exact HN.out _ _ (pc + 1) (s1 ++ ⟨#[]⟩) p a (by kernel_rfl) rfl rfl rfl HA.out (by omega) (by rw [ba_nil]; exact hst2) (by rw [ba_nil]; exact HR2.out)
  | false =>
    have HE : Hid (E.X.2 = (pc, 27)) := Env189.stop HRun.out HX.out (hS.trans (give_err (by decide)))
    clear hS
    conv => arg 2; whnf
    go_wp2_with fail
    refine HP.mono ?_
    rintro en w2 ⟨rfl, rfl⟩
    unfold encP3
    go_wp2_with fail
    refine HV.mono ?_
    rintro en w3 ⟨rfl, hC3, hK3⟩
    have HS3 : Hid _ := HA.out.err hK3 hC3
    clear hC3 hK3
    go_wp2
    exact home_err HH.out rfl rfl HS3.out (by decide) HE.out
set_option maxHeartbeats 8000000 in
theorem c189_k65 (ho : x.op = 65) : Case189 E pc st p x := by
  intro wr a c u Q hO hS hx hu1 hu14 hu15 hst hrun hN hNe hH
  obtain ⟨kb, nb, bc, hd⟩ := rd189 hO hS hx
  obtain ⟨c1, c4, f2, d0, d1, d2, hpn, ⟨hnb, hnbe⟩, hA, hX⟩ := hd
  have hlevp : ¬ ((E.lev : Int) ≤ 0) := by have := hO.lev.2; omega
  have HO : Hid _ := hO
  have HN : Hid (Next189 E pc c Q) := hN
  have HNe : Hid (Nerr189 E c Q) := hNe
  have HH : Hid (Home189 E pc Q) := hH
  have HA : Hid _ := hA
  have HX : Hid (E.fn.body[pc]? = some x) := hx
  have HRun : Hid (E.run pc st p) := hrun
  have HI : Hid _ := hX
  clear hO hN hNe hH hA hS hx hnbe hrun hX
  have hS := step_plain (E := E) (pc := pc) (st := st) (p := p) (x := x) (by omega)
  have hP : plainV E.m.mod E.params E.fn.locals (E.v st p) x = (E.v st p, 127, 0) := by
    unfold plainV
    rw [if_neg (by omega), if_neg (by omega), if_neg (by omega), if_neg (by omega), if_neg (by omega), if_neg (by omega), if_pos (by omega), ho]
    rfl
  rw [hP] at hS
  have hf1 : firstV (oneB 127) = 127 := by decide
  have hgt := give_text (o := E.o) (t := firstV E.res) (st := st) (p := p) (rest := E.rest) (r := E.r) (b := oneB 127) (pc := pc) (by decide) (by decide) hst
  rw [hf1] at hgt
  have hr10 := HO.out.rest
  obtain ⟨op, X1, Y1⟩ := x
  dsimp only at ho d0 d1 d2
  subst ho
  have HCT := constType_m (w := wr.alloc (.cells #[.int .u8 65, .int .u32 X1, .int .u64 Y1] 129)) ⟨65, X1, Y1⟩ (show 65 < 256 by decide)
  rw [show constT 65 = 127 from rfl] at HCT
  unfold Ins.val at HCT
  have HON := fun u => one_m (w := u) 127 (by decide)
  clear hP
  unfold Env189.fr fr189
  rw [hu1, hu14, hu15]
  by_cases hd10 : 10 < E.rest.length + (st.size + 1)
  · have HE : Hid (E.X.2 = (pc, 28)) := Env189.stop HRun.out HX.out (hS.trans (hgt.trans (by rw [if_pos (by rw [ByteArray.size_append, oneB_size]; exact hd10)])))
    have hdeep : (10 : Int) < (E.rest.length : Int) + ((st.size : Int) + 1) := by omega
    have hsl : ¬ 9223372036854775807 < st.size + (oneB 127).size := by rw [oneB_size]; omega
    have hszz : (st ++ oneB 127).size = st.size + 1 := by rw [ByteArray.size_append, oneB_size]
    clear hS hgt hf1
    conv => arg 2; whnf
    go_wp2_with fail
    refine HCT.mono ?_
    rintro en w2 ⟨rfl, hk2⟩
    have HA2 : Hid _ := HA.out.new hk2
    clear hk2
    go_wp2_with fail
    refine (HON _).mono ?_
    rintro en w3 ⟨rfl, hk3⟩
    have HA3 : Hid _ := HA2.out.new hk3
    have HV := vfail_m HA3.out.ck 28 pc
    clear hk3
    go_wp2_with fail
    refine HV.mono ?_
    rintro en w4 ⟨rfl, hC4, hK4⟩
    have HS4 : Hid _ := HA3.out.err hK4 hC4
    clear hC4 hK4
    go_wp2
    exact home_err HH.out rfl rfl HS4.out (by decide) HE.out
  · have HR2 : Hid (E.run (pc + 1) (st ++ oneB 127) p) := Env189.next HRun.out HX.out (hS.trans (hgt.trans (by rw [if_neg (by rw [ByteArray.size_append, oneB_size]; exact hd10)]; rfl)))
    have hdeep : ¬ (10 : Int) < (E.rest.length : Int) + ((st.size : Int) + 1) := by omega
    have hsl : ¬ 9223372036854775807 < st.size + (oneB 127).size := by rw [oneB_size]; omega
    have hszz : (st ++ oneB 127).size = st.size + 1 := by rw [ByteArray.size_append, oneB_size]
    clear hS hgt hf1
    conv => arg 2; whnf
    go_wp2_with fail
    refine HCT.mono ?_
    rintro en w2 ⟨rfl, hk2⟩
    have HA2 : Hid _ := HA.out.new hk2
    clear hk2
    go_wp2_with fail
    refine (HON _).mono ?_
    rintro en w3 ⟨rfl, hk3⟩
    have HA3 : Hid _ := HA2.out.new hk3
    clear hk3
    go_wp2
    exact HN.out _ _ (pc + 1) (st ++ oneB 127) p a (by kernel_rfl) rfl rfl rfl HA3.out (by omega) (by rw [hszz]; omega) HR2.out
set_option maxHeartbeats 8000000 in
theorem c189_k66 (ho : x.op = 66) : Case189 E pc st p x := by
  intro wr a c u Q hO hS hx hu1 hu14 hu15 hst hrun hN hNe hH
  obtain ⟨kb, nb, bc, hd⟩ := rd189 hO hS hx
  obtain ⟨c1, c4, f2, d0, d1, d2, hpn, ⟨hnb, hnbe⟩, hA, hX⟩ := hd
  have hlevp : ¬ ((E.lev : Int) ≤ 0) := by have := hO.lev.2; omega
  have HO : Hid _ := hO
  have HN : Hid (Next189 E pc c Q) := hN
  have HNe : Hid (Nerr189 E c Q) := hNe
  have HH : Hid (Home189 E pc Q) := hH
  have HA : Hid _ := hA
  have HX : Hid (E.fn.body[pc]? = some x) := hx
  have HRun : Hid (E.run pc st p) := hrun
  have HI : Hid _ := hX
  clear hO hN hNe hH hA hS hx hnbe hrun hX
  have hS := step_plain (E := E) (pc := pc) (st := st) (p := p) (x := x) (by omega)
  have hP : plainV E.m.mod E.params E.fn.locals (E.v st p) x = (E.v st p, 126, 0) := by
    unfold plainV
    rw [if_neg (by omega), if_neg (by omega), if_neg (by omega), if_neg (by omega), if_neg (by omega), if_neg (by omega), if_pos (by omega), ho]
    rfl
  rw [hP] at hS
  have hf1 : firstV (oneB 126) = 126 := by decide
  have hgt := give_text (o := E.o) (t := firstV E.res) (st := st) (p := p) (rest := E.rest) (r := E.r) (b := oneB 126) (pc := pc) (by decide) (by decide) hst
  rw [hf1] at hgt
  have hr10 := HO.out.rest
  obtain ⟨op, X1, Y1⟩ := x
  dsimp only at ho d0 d1 d2
  subst ho
  have HCT := constType_m (w := wr.alloc (.cells #[.int .u8 66, .int .u32 X1, .int .u64 Y1] 129)) ⟨66, X1, Y1⟩ (show 66 < 256 by decide)
  rw [show constT 66 = 126 from rfl] at HCT
  unfold Ins.val at HCT
  have HON := fun u => one_m (w := u) 126 (by decide)
  clear hP
  unfold Env189.fr fr189
  rw [hu1, hu14, hu15]
  by_cases hd10 : 10 < E.rest.length + (st.size + 1)
  · have HE : Hid (E.X.2 = (pc, 28)) := Env189.stop HRun.out HX.out (hS.trans (hgt.trans (by rw [if_pos (by rw [ByteArray.size_append, oneB_size]; exact hd10)])))
    have hdeep : (10 : Int) < (E.rest.length : Int) + ((st.size : Int) + 1) := by omega
    have hsl : ¬ 9223372036854775807 < st.size + (oneB 126).size := by rw [oneB_size]; omega
    have hszz : (st ++ oneB 126).size = st.size + 1 := by rw [ByteArray.size_append, oneB_size]
    clear hS hgt hf1
    conv => arg 2; whnf
    go_wp2_with fail
    refine HCT.mono ?_
    rintro en w2 ⟨rfl, hk2⟩
    have HA2 : Hid _ := HA.out.new hk2
    clear hk2
    go_wp2_with fail
    refine (HON _).mono ?_
    rintro en w3 ⟨rfl, hk3⟩
    have HA3 : Hid _ := HA2.out.new hk3
    have HV := vfail_m HA3.out.ck 28 pc
    clear hk3
    go_wp2_with fail
    refine HV.mono ?_
    rintro en w4 ⟨rfl, hC4, hK4⟩
    have HS4 : Hid _ := HA3.out.err hK4 hC4
    clear hC4 hK4
    go_wp2
    exact home_err HH.out rfl rfl HS4.out (by decide) HE.out
  · have HR2 : Hid (E.run (pc + 1) (st ++ oneB 126) p) := Env189.next HRun.out HX.out (hS.trans (hgt.trans (by rw [if_neg (by rw [ByteArray.size_append, oneB_size]; exact hd10)]; rfl)))
    have hdeep : ¬ (10 : Int) < (E.rest.length : Int) + ((st.size : Int) + 1) := by omega
    have hsl : ¬ 9223372036854775807 < st.size + (oneB 126).size := by rw [oneB_size]; omega
    have hszz : (st ++ oneB 126).size = st.size + 1 := by rw [ByteArray.size_append, oneB_size]
    clear hS hgt hf1
    conv => arg 2; whnf
    go_wp2_with fail
    refine HCT.mono ?_
    rintro en w2 ⟨rfl, hk2⟩
    have HA2 : Hid _ := HA.out.new hk2
    clear hk2
    go_wp2_with fail
    refine (HON _).mono ?_
    rintro en w3 ⟨rfl, hk3⟩
    have HA3 : Hid _ := HA2.out.new hk3
    clear hk3
    go_wp2
    exact HN.out _ _ (pc + 1) (st ++ oneB 126) p a (by kernel_rfl) rfl rfl rfl HA3.out (by omega) (by rw [hszz]; omega) HR2.out
set_option maxHeartbeats 8000000 in
theorem c189_k67 (ho : x.op = 67) : Case189 E pc st p x := by
  intro wr a c u Q hO hS hx hu1 hu14 hu15 hst hrun hN hNe hH
  obtain ⟨kb, nb, bc, hd⟩ := rd189 hO hS hx
  obtain ⟨c1, c4, f2, d0, d1, d2, hpn, ⟨hnb, hnbe⟩, hA, hX⟩ := hd
  have hlevp : ¬ ((E.lev : Int) ≤ 0) := by have := hO.lev.2; omega
  have HO : Hid _ := hO
  have HN : Hid (Next189 E pc c Q) := hN
  have HNe : Hid (Nerr189 E c Q) := hNe
  have HH : Hid (Home189 E pc Q) := hH
  have HA : Hid _ := hA
  have HX : Hid (E.fn.body[pc]? = some x) := hx
  have HRun : Hid (E.run pc st p) := hrun
  have HI : Hid _ := hX
  clear hO hN hNe hH hA hS hx hnbe hrun hX
  have hS := step_plain (E := E) (pc := pc) (st := st) (p := p) (x := x) (by omega)
  have hP : plainV E.m.mod E.params E.fn.locals (E.v st p) x = (E.v st p, 125, 0) := by
    unfold plainV
    rw [if_neg (by omega), if_neg (by omega), if_neg (by omega), if_neg (by omega), if_neg (by omega), if_neg (by omega), if_pos (by omega), ho]
    rfl
  rw [hP] at hS
  have hf1 : firstV (oneB 125) = 125 := by decide
  have hgt := give_text (o := E.o) (t := firstV E.res) (st := st) (p := p) (rest := E.rest) (r := E.r) (b := oneB 125) (pc := pc) (by decide) (by decide) hst
  rw [hf1] at hgt
  have hr10 := HO.out.rest
  obtain ⟨op, X1, Y1⟩ := x
  dsimp only at ho d0 d1 d2
  subst ho
  have HCT := constType_m (w := wr.alloc (.cells #[.int .u8 67, .int .u32 X1, .int .u64 Y1] 129)) ⟨67, X1, Y1⟩ (show 67 < 256 by decide)
  rw [show constT 67 = 125 from rfl] at HCT
  unfold Ins.val at HCT
  have HON := fun u => one_m (w := u) 125 (by decide)
  clear hP
  unfold Env189.fr fr189
  rw [hu1, hu14, hu15]
  by_cases hd10 : 10 < E.rest.length + (st.size + 1)
  · have HE : Hid (E.X.2 = (pc, 28)) := Env189.stop HRun.out HX.out (hS.trans (hgt.trans (by rw [if_pos (by rw [ByteArray.size_append, oneB_size]; exact hd10)])))
    have hdeep : (10 : Int) < (E.rest.length : Int) + ((st.size : Int) + 1) := by omega
    have hsl : ¬ 9223372036854775807 < st.size + (oneB 125).size := by rw [oneB_size]; omega
    have hszz : (st ++ oneB 125).size = st.size + 1 := by rw [ByteArray.size_append, oneB_size]
    clear hS hgt hf1
    conv => arg 2; whnf
    go_wp2_with fail
    refine HCT.mono ?_
    rintro en w2 ⟨rfl, hk2⟩
    have HA2 : Hid _ := HA.out.new hk2
    clear hk2
    go_wp2_with fail
    refine (HON _).mono ?_
    rintro en w3 ⟨rfl, hk3⟩
    have HA3 : Hid _ := HA2.out.new hk3
    have HV := vfail_m HA3.out.ck 28 pc
    clear hk3
    go_wp2_with fail
    refine HV.mono ?_
    rintro en w4 ⟨rfl, hC4, hK4⟩
    have HS4 : Hid _ := HA3.out.err hK4 hC4
    clear hC4 hK4
    go_wp2
    exact home_err HH.out rfl rfl HS4.out (by decide) HE.out
  · have HR2 : Hid (E.run (pc + 1) (st ++ oneB 125) p) := Env189.next HRun.out HX.out (hS.trans (hgt.trans (by rw [if_neg (by rw [ByteArray.size_append, oneB_size]; exact hd10)]; rfl)))
    have hdeep : ¬ (10 : Int) < (E.rest.length : Int) + ((st.size : Int) + 1) := by omega
    have hsl : ¬ 9223372036854775807 < st.size + (oneB 125).size := by rw [oneB_size]; omega
    have hszz : (st ++ oneB 125).size = st.size + 1 := by rw [ByteArray.size_append, oneB_size]
    clear hS hgt hf1
    conv => arg 2; whnf
    go_wp2_with fail
    refine HCT.mono ?_
    rintro en w2 ⟨rfl, hk2⟩
    have HA2 : Hid _ := HA.out.new hk2
    clear hk2
    go_wp2_with fail
    refine (HON _).mono ?_
    rintro en w3 ⟨rfl, hk3⟩
    have HA3 : Hid _ := HA2.out.new hk3
    clear hk3
    go_wp2
    exact HN.out _ _ (pc + 1) (st ++ oneB 125) p a (by kernel_rfl) rfl rfl rfl HA3.out (by omega) (by rw [hszz]; omega) HR2.out
set_option maxHeartbeats 8000000 in
theorem c189_k68 (ho : x.op = 68) : Case189 E pc st p x := by
  intro wr a c u Q hO hS hx hu1 hu14 hu15 hst hrun hN hNe hH
  obtain ⟨kb, nb, bc, hd⟩ := rd189 hO hS hx
  obtain ⟨c1, c4, f2, d0, d1, d2, hpn, ⟨hnb, hnbe⟩, hA, hX⟩ := hd
  have hlevp : ¬ ((E.lev : Int) ≤ 0) := by have := hO.lev.2; omega
  have HO : Hid _ := hO
  have HN : Hid (Next189 E pc c Q) := hN
  have HNe : Hid (Nerr189 E c Q) := hNe
  have HH : Hid (Home189 E pc Q) := hH
  have HA : Hid _ := hA
  have HX : Hid (E.fn.body[pc]? = some x) := hx
  have HRun : Hid (E.run pc st p) := hrun
  have HI : Hid _ := hX
  clear hO hN hNe hH hA hS hx hnbe hrun hX
  have hS := step_plain (E := E) (pc := pc) (st := st) (p := p) (x := x) (by omega)
  have hP : plainV E.m.mod E.params E.fn.locals (E.v st p) x = (E.v st p, 124, 0) := by
    unfold plainV
    rw [if_neg (by omega), if_neg (by omega), if_neg (by omega), if_neg (by omega), if_neg (by omega), if_neg (by omega), if_pos (by omega), ho]
    rfl
  rw [hP] at hS
  have hf1 : firstV (oneB 124) = 124 := by decide
  have hgt := give_text (o := E.o) (t := firstV E.res) (st := st) (p := p) (rest := E.rest) (r := E.r) (b := oneB 124) (pc := pc) (by decide) (by decide) hst
  rw [hf1] at hgt
  have hr10 := HO.out.rest
  obtain ⟨op, X1, Y1⟩ := x
  dsimp only at ho d0 d1 d2
  subst ho
  have HCT := constType_m (w := wr.alloc (.cells #[.int .u8 68, .int .u32 X1, .int .u64 Y1] 129)) ⟨68, X1, Y1⟩ (show 68 < 256 by decide)
  rw [show constT 68 = 124 from rfl] at HCT
  unfold Ins.val at HCT
  have HON := fun u => one_m (w := u) 124 (by decide)
  clear hP
  unfold Env189.fr fr189
  rw [hu1, hu14, hu15]
  by_cases hd10 : 10 < E.rest.length + (st.size + 1)
  · have HE : Hid (E.X.2 = (pc, 28)) := Env189.stop HRun.out HX.out (hS.trans (hgt.trans (by rw [if_pos (by rw [ByteArray.size_append, oneB_size]; exact hd10)])))
    have hdeep : (10 : Int) < (E.rest.length : Int) + ((st.size : Int) + 1) := by omega
    have hsl : ¬ 9223372036854775807 < st.size + (oneB 124).size := by rw [oneB_size]; omega
    have hszz : (st ++ oneB 124).size = st.size + 1 := by rw [ByteArray.size_append, oneB_size]
    clear hS hgt hf1
    conv => arg 2; whnf
    go_wp2_with fail
    refine HCT.mono ?_
    rintro en w2 ⟨rfl, hk2⟩
    have HA2 : Hid _ := HA.out.new hk2
    clear hk2
    go_wp2_with fail
    refine (HON _).mono ?_
    rintro en w3 ⟨rfl, hk3⟩
    have HA3 : Hid _ := HA2.out.new hk3
    have HV := vfail_m HA3.out.ck 28 pc
    clear hk3
    go_wp2_with fail
    refine HV.mono ?_
    rintro en w4 ⟨rfl, hC4, hK4⟩
    have HS4 : Hid _ := HA3.out.err hK4 hC4
    clear hC4 hK4
    go_wp2
    exact home_err HH.out rfl rfl HS4.out (by decide) HE.out
  · have HR2 : Hid (E.run (pc + 1) (st ++ oneB 124) p) := Env189.next HRun.out HX.out (hS.trans (hgt.trans (by rw [if_neg (by rw [ByteArray.size_append, oneB_size]; exact hd10)]; rfl)))
    have hdeep : ¬ (10 : Int) < (E.rest.length : Int) + ((st.size : Int) + 1) := by omega
    have hsl : ¬ 9223372036854775807 < st.size + (oneB 124).size := by rw [oneB_size]; omega
    have hszz : (st ++ oneB 124).size = st.size + 1 := by rw [ByteArray.size_append, oneB_size]
    clear hS hgt hf1
    conv => arg 2; whnf
    go_wp2_with fail
    refine HCT.mono ?_
    rintro en w2 ⟨rfl, hk2⟩
    have HA2 : Hid _ := HA.out.new hk2
    clear hk2
    go_wp2_with fail
    refine (HON _).mono ?_
    rintro en w3 ⟨rfl, hk3⟩
    have HA3 : Hid _ := HA2.out.new hk3
    clear hk3
    go_wp2
    exact HN.out _ _ (pc + 1) (st ++ oneB 124) p a (by kernel_rfl) rfl rfl rfl HA3.out (by omega) (by rw [hszz]; omega) HR2.out
end
end Go.Proofs.Qxb6500275aGreatDoor
