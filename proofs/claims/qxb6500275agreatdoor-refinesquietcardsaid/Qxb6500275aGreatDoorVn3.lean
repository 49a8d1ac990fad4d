import Derived.Test.Qxb6500275aGreatDoorVn0
set_option maxRecDepth 1000000
set_option linter.unusedVariables false
set_option linter.unusedSimpArgs false
namespace Go.Proofs.Qxb6500275aGreatDoor
open Go Go.RowKit
section
variable {w wr w' : World} {cb mb gf fo : Nat} {m : MT} {fn : Fn} {vb vt lv : Value} {labs : List ByteArray} {loc resF : ByteArray} {er : Int} {a : Nat} {E : Env189} {pc : Nat} {st : ByteArray} {p : Bool} {x : Ins}
set_option maxHeartbeats 8000000 in
theorem c189_sel (ho : x.op = 27) : Case189 E pc st p x := by
  intro wr a c u Q hO hS hx hu1 hu14 hu15 hst hrun hN hNe hH
  obtain ⟨kb, nb, bc, hd⟩ := rd189 hO hS hx
  obtain ⟨c1, c4, f2, d0, d1, d2, hpn, ⟨hnb, hnbe⟩, hA, hX⟩ := hd
  have hlevp : ¬ ((E.lev : Int) ≤ 0) := by have := hO.lev.2; omega
  have HO : Hid _ := hO
  have HN : Hid (Next189 E pc c Q) := hN
  have HNe : Hid (Nerr189 E c Q) := hNe
  have HH : Hid (Home189 E pc Q) := hH
  have HA : Hid _ := hA
  have HX : Hid (E.fn.body[pc]? = some x) := hx
  have HRun : Hid (E.run pc st p) := hrun
  have HI : Hid _ := hX
  clear hO hN hNe hH hA hS hx hnbe hrun hX
  have hr10 := HO.out.rest
  have hS := step_plain (E := E) (pc := pc) (st := st) (p := p) (x := x) (by omega)
  have h64 := run_64 HRun.out
  obtain ⟨⟨s1, g1, ok1⟩, hp1⟩ : ∃ z, popS st p 127 = z := ⟨_, rfl⟩
  have hz1 := popS_le hp1
  have HP1 := fun u => vpop_m (w := u) st p 127 (by omega) (by decide)
  rw [hp1] at HP1
  unfold encP3 at HP1
  dsimp only at HP1
  obtain ⟨⟨s2, g2, ok2⟩, hp2⟩ : ∃ z, popS s1 p 0 = z := ⟨_, rfl⟩
  have hz2 := popS_le hp2
  have HP2 := fun u => vpop_m (w := u) s1 p 0 (by omega) (by decide)
  rw [hp2] at HP2
  unfold encP3 at HP2
  dsimp only at HP2
  have hg2 : g2 < 256 := by have := popS_got s1 p (want := 0) (by decide); rw [hp2] at this; exact this
  obtain ⟨⟨s3, g3, ok3⟩, hp3⟩ : ∃ z, popS s2 p g2 = z := ⟨_, rfl⟩
  have hz3 := popS_le hp3
  have HP3 := fun u => vpop_m (w := u) s2 p g2 (by omega) hg2
  rw [hp3] at HP3
  unfold encP3 at HP3
  dsimp only at HP3
  have hg3 : g3 < 256 := by have := popS_got s2 p hg2; rw [hp3] at this; exact this
  have k1 := got_ok h64 (by decide) hp1
  have k2 := got_ok k1.2 (by decide) hp2
  have hg64 := (got_ok k2.2 k2.1 hp3).1
  clear h64 k1 k2
  rw [plain_sel_m ho hp1 hp2 hp3] at hS
  have HON := fun u => one_m (w := u) g3 hg3
  have HON0 := fun u => one_m (w := u) 0 (by decide)
  obtain ⟨op, X1, Y1⟩ := x
  dsimp only at ho d0 d1 d2
  subst ho
  unfold Env189.fr fr189
  rw [hu1, hu14, hu15]
  cases ok1 with
  | false =>
    have HE : Hid (E.X.2 = (pc, 27)) := Env189.stop HRun.out HX.out (hS.trans (give_err (by decide)))
    clear hS hp1 hp2 hp3
    conv => arg 2; whnf
    go_wp2_with fail
    refine (HP1 _).mono ?_
    rintro en w2 ⟨rfl, rfl⟩
    go_wp2_with fail
    refine (HON0 _).mono ?_
    rintro en w3 ⟨rfl, hk3⟩
    have HA3 : Hid _ := HA.out.new hk3
    clear hk3
    have HV := vfail_m HA3.out.ck 27 pc
    go_wp2_with fail
    refine HV.mono ?_
    rintro en wV ⟨rfl, hCV, hKV⟩
    have HSV : Hid _ := HA3.out.err hKV hCV
    clear hCV hKV
    go_wp2
    exact home_err HH.out rfl rfl HSV.out (by decide) HE.out
  | true =>
    cases ok2 with
    | false =>
      have HE : Hid (E.X.2 = (pc, 27)) := Env189.stop HRun.out HX.out (hS.trans (give_err (by decide)))
      clear hS hp1 hp2 hp3
      conv => arg 2; whnf
      go_wp2_with fail
      refine (HP1 _).mono ?_
      rintro en w2 ⟨rfl, rfl⟩
      go_wp2_with fail
      refine (HP2 _).mono ?_
      rintro en w3 ⟨rfl, rfl⟩
      go_wp2_with fail
      refine (HON0 _).mono ?_
      rintro en w4 ⟨rfl, hk4⟩
      have HA4 : Hid _ := HA.out.new hk4
      clear hk4
      have HV := vfail_m HA4.out.ck 27 pc
      go_wp2_with fail
      refine HV.mono ?_
      rintro en wV ⟨rfl, hCV, hKV⟩
      have HSV : Hid _ := HA4.out.err hKV hCV
      clear hCV hKV
      go_wp2
      exact home_err HH.out rfl rfl HSV.out (by decide) HE.out
    | true =>
      have hS2 : stepV E.m.mod E.fn E.params pc (E.v st p) ⟨27, X1, Y1⟩ = giveV pc (E.v s3 p, firstV (oneB g3), typedV ok3) := by rw [firstV_one hg3]; exact hS
      have hT3 := tail3 (E := E) (b := oneB g3) (s1 := s3) (ok := ok3) HRun.out HX.out hS2 (by rw [oneB_size]; omega) (fun _ => by rw [oneB_at hg3]; exact hg64) (by omega)
      cases ok3 with
      | false =>
        have HE : Hid (E.X.2 = (pc, 27)) := hT3.1 rfl
        clear hT3 hS hp1 hp2 hp3 hS2
        conv => arg 2; whnf
        go_wp2_with fail
        refine (HP1 _).mono ?_
        rintro en w2 ⟨rfl, rfl⟩
        go_wp2_with fail
        refine (HP2 _).mono ?_
        rintro en w3 ⟨rfl, rfl⟩
        go_wp2_with fail
        refine (HP3 _).mono ?_
        rintro en w4 ⟨rfl, rfl⟩
        go_wp2_with fail
        refine (HON _).mono ?_
        rintro en w5 ⟨rfl, hk5⟩
        have HA5 : Hid _ := HA.out.new hk5
        clear hk5
        have HV := vfail_m HA5.out.ck 27 pc
        go_wp2_with fail
        refine HV.mono ?_
        rintro en wV ⟨rfl, hCV, hKV⟩
        have HSV : Hid _ := HA5.out.err hKV hCV
        clear hCV hKV
        go_wp2
        exact home_err HH.out rfl rfl HSV.out (by decide) HE.out
      | true =>
        have hszz : (s3 ++ oneB g3).size = s3.size + 1 := by rw [ByteArray.size_append, show (oneB g3).size = 1 from rfl]
        have hsl : ¬ 9223372036854775807 < s3.size + (oneB g3).size := by rw [show (oneB g3).size = 1 from rfl]; omega
        by_cases hd : 10 < E.rest.length + (s3.size + 1)
        · have HE : Hid (E.X.2 = (pc, 28)) := hT3.2.1 rfl hd
          have hdeep : (10 : Int) < (E.rest.length : Int) + ((s3.size : Int) + 1) := by omega
          clear hT3 hd hS hp1 hp2 hp3 hS2
          conv => arg 2; whnf
          go_wp2_with fail
          refine (HP1 _).mono ?_
          rintro en w2 ⟨rfl, rfl⟩
          go_wp2_with fail
          refine (HP2 _).mono ?_
          rintro en w3 ⟨rfl, rfl⟩
          go_wp2_with fail
          refine (HP3 _).mono ?_
          rintro en w4 ⟨rfl, rfl⟩
          go_wp2_with fail
          refine (HON _).mono ?_
          rintro en w5 ⟨rfl, hk5⟩
          have HA5 : Hid _ := HA.out.new hk5
          clear hk5
          have HV := vfail_m HA5.out.ck 28 pc
          go_wp2_with fail
          refine HV.mono ?_
          rintro en wV ⟨rfl, hCV, hKV⟩
          have HSV : Hid _ := HA5.out.err hKV hCV
          clear hCV hKV
          go_wp2
          exact home_err HH.out rfl rfl HSV.out (by decide) HE.out
        · have HR2 : Hid (E.run (pc + 1) (s3 ++ oneB g3) p) := hT3.2.2 rfl hd
          have hdeep : ¬ (10 : Int) < (E.rest.length : Int) + ((s3.size : Int) + 1) := by omega
          have hlast : E.rest.length + (s3.size + 1) ≤ 10 := by omega
          clear hT3 hd hS hp1 hp2 hp3 hS2
          conv => arg 2; whnf
          go_wp2_with fail
          refine (HP1 _).mono ?_
          rintro en w2 ⟨rfl, rfl⟩
          go_wp2_with fail
          refine (HP2 _).mono ?_
          rintro en w3 ⟨rfl, rfl⟩
          go_wp2_with fail
          refine (HP3 _).mono ?_
          rintro en w4 ⟨rfl, rfl⟩
          go_wp2_with fail
          refine (HON _).mono ?_
          rintro en w5 ⟨rfl, hk5⟩
          have HA5 : Hid _ := HA.out.new hk5
          clear hk5
          go_wp2
          exact HN.out _ _ (pc + 1) (s3 ++ oneB g3) p a (by kernel_rfl) rfl rfl rfl HA5.out (by omega) (by rw [hszz]; omega) HR2.out
end
end Go.Proofs.Qxb6500275aGreatDoor
