import Derived.Test.Qxb6500275aGreatDoorVn0
set_option maxRecDepth 1000000
set_option linter.unusedVariables false
set_option linter.unusedSimpArgs false
namespace Go.Proofs.Qxb6500275aGreatDoor
open Go Go.RowKit
section
variable {w wr w' : World} {cb mb gf fo : Nat} {m : MT} {fn : Fn} {vb vt lv : Value} {labs : List ByteArray} {loc resF : ByteArray} {er : Int} {a : Nat} {E : Env189} {pc : Nat} {st : ByteArray} {p : Bool} {x : Ins}
set_option maxHeartbeats 8000000 in
theorem c189_num (ho : 69 ≤ x.op ∧ x.op ≤ 191) : Case189 E pc st p x := by
  intro wr a c u Q hO hS hx hu1 hu14 hu15 hst hrun hN hNe hH
  obtain ⟨kb, nb, bc, hd⟩ := rd189 hO hS hx
  obtain ⟨c1, c4, f2, d0, d1, d2, hpn, ⟨hnb, hnbe⟩, hA, hX⟩ := hd
  have hlevp : ¬ ((E.lev : Int) ≤ 0) := by have := hO.lev.2; omega
  have HO : Hid _ := hO
  have HN : Hid (Next189 E pc c Q) := hN
  have HNe : Hid (Nerr189 E c Q) := hNe
  have HH : Hid (Home189 E pc Q) := hH
  have HA : Hid _ := hA
  have HX : Hid (E.fn.body[pc]? = some x) := hx
  have HRun : Hid (E.run pc st p) := hrun
  have HI : Hid _ := hX
  clear hO hN hNe hH hA hS hx hnbe hrun hX
  have hsa := numSig_all2 x.op (by omega) ho.1
  have hr10 := HO.out.rest
  obtain ⟨⟨n, ta, tr⟩, hsg⟩ : ∃ z, numSig x.op = z := ⟨_, rfl⟩
  rw [hsg] at hsa
  obtain ⟨hn, ⟨hta, hta2⟩, htr, htr2⟩ := hsa
  dsimp only at hn hta hta2 htr htr2
  have hS := step_plain (E := E) (pc := pc) (st := st) (p := p) (x := x) (by omega)
  have HNS := fun u => numSig_e x.op (by omega) u
  rw [hsg] at HNS
  unfold enc3 at HNS
  dsimp only at HNS
  have HON := fun u => one_m (w := u) tr htr2
  obtain ⟨⟨s1, g1, ok1⟩, hp1⟩ : ∃ z, popS st p ta = z := ⟨_, rfl⟩
  have hz1 := popS_le hp1
  have HP1 := fun u => vpop_m (w := u) st p ta (by omega) hta2
  rw [hp1] at HP1
  unfold encP3 at HP1
  dsimp only at HP1
  rcases hn with rfl | rfl
  · rw [plain_num1 ho hsg (by omega) hp1, ← firstV_one htr2] at hS
    obtain ⟨op, X1, Y1⟩ := x
    dsimp only at ho d0 d1 d2 HNS
    have b11 : ((op : Int) == 11) = false := by rw [beq_eq_false_iff_ne]; omega
    have b5 : ((op : Int) == 5) = false := by rw [beq_eq_false_iff_ne]; omega
    have b2 : ((op : Int) == 2) = false := by rw [beq_eq_false_iff_ne]; omega
    have b3 : ((op : Int) == 3) = false := by rw [beq_eq_false_iff_ne]; omega
    have b4 : ((op : Int) == 4) = false := by rw [beq_eq_false_iff_ne]; omega
    have b0 : ((op : Int) == 0) = false := by rw [beq_eq_false_iff_ne]; omega
    have b1 : ((op : Int) == 1) = false := by rw [beq_eq_false_iff_ne]; omega
    have b12 : ((op : Int) == 12) = false := by rw [beq_eq_false_iff_ne]; omega
    have b13 : ((op : Int) == 13) = false := by rw [beq_eq_false_iff_ne]; omega
    have b14 : ((op : Int) == 14) = false := by rw [beq_eq_false_iff_ne]; omega
    have b15 : ((op : Int) == 15) = false := by rw [beq_eq_false_iff_ne]; omega
    have b16 : ((op : Int) == 16) = false := by rw [beq_eq_false_iff_ne]; omega
    have b17 : ((op : Int) == 17) = false := by rw [beq_eq_false_iff_ne]; omega
    have b26 : ((op : Int) == 26) = false := by rw [beq_eq_false_iff_ne]; omega
    have b27 : ((op : Int) == 27) = false := by rw [beq_eq_false_iff_ne]; omega
    have b35 : ((op : Int) == 35) = false := by rw [beq_eq_false_iff_ne]; omega
    have b36 : ((op : Int) == 36) = false := by rw [beq_eq_false_iff_ne]; omega
    have i32 : (32 : Int) ≤ (op : Int) := by omega
    have i34 : ¬ (op : Int) ≤ 34 := by omega
    have i40 : (40 : Int) ≤ (op : Int) := by omega
    have i64 : ¬ (op : Int) ≤ 64 := by omega
    have i65 : (65 : Int) ≤ (op : Int) := by omega
    have i68 : ¬ (op : Int) ≤ 68 := by omega
    have j1 : ((1 : Int) == 0) = false := by decide
    have j2 : ((1 : Int) == 2) = false := by decide
    unfold Env189.fr fr189
    rw [hu1, hu14, hu15]
    have hT3 := tail3 (E := E) (b := oneB tr) (s1 := s1) (ok := ok1) HRun.out HX.out hS (by rw [oneB_size]; omega) (fun _ => by rw [oneB_at htr2]; omega) (by omega)
    cases ok1 with
    | false =>
      have HE : Hid (E.X.2 = (pc, 27)) := hT3.1 rfl
      clear hT3 hS hsg
      conv => arg 2; whnf
      go_wp2_with fail
      refine (HNS _).mono ?_
      rintro en w2 ⟨rfl, rfl⟩
      go_wp2_with fail
      refine (HP1 _).mono ?_
      rintro en w3 ⟨rfl, rfl⟩
      go_wp2_with fail
      refine (HON _).mono ?_
      rintro en w4 ⟨rfl, hk4⟩
      have HA4 : Hid _ := HA.out.new hk4
      clear hk4
      have HV := vfail_m HA4.out.ck 27 pc
      go_wp2_with fail
      refine HV.mono ?_
      rintro en wV ⟨rfl, hCV, hKV⟩
      have HSV : Hid _ := HA4.out.err hKV hCV
      clear hCV hKV
      go_wp2
      exact home_err HH.out rfl rfl HSV.out (by decide) HE.out
    | true =>
      have hszz : (s1 ++ oneB tr).size = s1.size + 1 := by rw [ByteArray.size_append, show (oneB tr).size = 1 from rfl]
      have hsl : ¬ 9223372036854775807 < s1.size + (oneB tr).size := by rw [show (oneB tr).size = 1 from rfl]; omega
      by_cases hd : 10 < E.rest.length + (s1.size + 1)
      · have HE : Hid (E.X.2 = (pc, 28)) := hT3.2.1 rfl hd
        have hdeep : (10 : Int) < (E.rest.length : Int) + ((s1.size : Int) + 1) := by omega
        clear hT3 hd hS hsg
        conv => arg 2; whnf
        go_wp2_with fail
        refine (HNS _).mono ?_
        rintro en w2 ⟨rfl, rfl⟩
        go_wp2_with fail
        refine (HP1 _).mono ?_
        rintro en w3 ⟨rfl, rfl⟩
        go_wp2_with fail
        refine (HON _).mono ?_
        rintro en w4 ⟨rfl, hk4⟩
        have HA4 : Hid _ := HA.out.new hk4
        clear hk4
        have HV := vfail_m HA4.out.ck 28 pc
        go_wp2_with fail
        refine HV.mono ?_
        rintro en wV ⟨rfl, hCV, hKV⟩
        have HSV : Hid _ := HA4.out.err hKV hCV
        clear hCV hKV
        go_wp2
        exact home_err HH.out rfl rfl HSV.out (by decide) HE.out
      · have HR2 : Hid (E.run (pc + 1) (s1 ++ oneB tr) p) := hT3.2.2 rfl hd
        have hdeep : ¬ (10 : Int) < (E.rest.length : Int) + ((s1.size : Int) + 1) := by omega
        have hlast : E.rest.length + (s1.size + 1) ≤ 10 := by omega
        clear hT3 hd hS hsg
        conv => arg 2; whnf
        go_wp2_with fail
        refine (HNS _).mono ?_
        rintro en w2 ⟨rfl, rfl⟩
        go_wp2_with fail
        refine (HP1 _).mono ?_
        rintro en w3 ⟨rfl, rfl⟩
        go_wp2_with fail
        refine (HON _).mono ?_
        rintro en w4 ⟨rfl, hk4⟩
        have HA4 : Hid _ := HA.out.new hk4
        clear hk4
        go_wp2
        exact HN.out _ _ (pc + 1) (s1 ++ oneB tr) p a (by kernel_rfl) rfl rfl rfl HA4.out (by omega) (by rw [hszz]; omega) HR2.out
  · obtain ⟨⟨s2, g2, ok2⟩, hp2⟩ : ∃ z, popS s1 p ta = z := ⟨_, rfl⟩
    have hz2 := popS_le hp2
    have HP2 := fun u => vpop_m (w := u) s1 p ta (by omega) hta2
    rw [hp2] at HP2
    unfold encP3 at HP2
    dsimp only at HP2
    rw [plain_num2 ho hsg (by omega) hp1 hp2, ← firstV_one htr2] at hS
    obtain ⟨op, X1, Y1⟩ := x
    dsimp only at ho d0 d1 d2 HNS
    have b11 : ((op : Int) == 11) = false := by rw [beq_eq_false_iff_ne]; omega
    have b5 : ((op : Int) == 5) = false := by rw [beq_eq_false_iff_ne]; omega
    have b2 : ((op : Int) == 2) = false := by rw [beq_eq_false_iff_ne]; omega
    have b3 : ((op : Int) == 3) = false := by rw [beq_eq_false_iff_ne]; omega
    have b4 : ((op : Int) == 4) = false := by rw [beq_eq_false_iff_ne]; omega
    have b0 : ((op : Int) == 0) = false := by rw [beq_eq_false_iff_ne]; omega
    have b1 : ((op : Int) == 1) = false := by rw [beq_eq_false_iff_ne]; omega
    have b12 : ((op : Int) == 12) = false := by rw [beq_eq_false_iff_ne]; omega
    have b13 : ((op : Int) == 13) = false := by rw [beq_eq_false_iff_ne]; omega
    have b14 : ((op : Int) == 14) = false := by rw [beq_eq_false_iff_ne]; omega
    have b15 : ((op : Int) == 15) = false := by rw [beq_eq_false_iff_ne]; omega
    have b16 : ((op : Int) == 16) = false := by rw [beq_eq_false_iff_ne]; omega
    have b17 : ((op : Int) == 17) = false := by rw [beq_eq_false_iff_ne]; omega
    have b26 : ((op : Int) == 26) = false := by rw [beq_eq_false_iff_ne]; omega
    have b27 : ((op : Int) == 27) = false := by rw [beq_eq_false_iff_ne]; omega
    have b35 : ((op : Int) == 35) = false := by rw [beq_eq_false_iff_ne]; omega
    have b36 : ((op : Int) == 36) = false := by rw [beq_eq_false_iff_ne]; omega
    have i32 : (32 : Int) ≤ (op : Int) := by omega
    have i34 : ¬ (op : Int) ≤ 34 := by omega
    have i40 : (40 : Int) ≤ (op : Int) := by omega
    have i64 : ¬ (op : Int) ≤ 64 := by omega
    have i65 : (65 : Int) ≤ (op : Int) := by omega
    have i68 : ¬ (op : Int) ≤ 68 := by omega
    have j1 : ((2 : Int) == 0) = false := by decide
    unfold Env189.fr fr189
    rw [hu1, hu14, hu15]
    cases ok1 with
    | false =>
      have hT3 := tail3 (E := E) (b := oneB tr) (s1 := s1) (ok := false) HRun.out HX.out hS (by rw [oneB_size]; omega) (fun _ => by rw [oneB_at htr2]; omega) (by omega)
      have HE : Hid (E.X.2 = (pc, 27)) := hT3.1 rfl
      clear hT3 hS hsg
      conv => arg 2; whnf
      go_wp2_with fail
      refine (HNS _).mono ?_
      rintro en w2 ⟨rfl, rfl⟩
      go_wp2_with fail
      refine (HP1 _).mono ?_
      rintro en w3 ⟨rfl, rfl⟩
      go_wp2_with fail
      refine (HON _).mono ?_
      rintro en w4 ⟨rfl, hk4⟩
      have HA4 : Hid _ := HA.out.new hk4
      clear hk4
      have HV := vfail_m HA4.out.ck 27 pc
      go_wp2_with fail
      refine HV.mono ?_
      rintro en wV ⟨rfl, hCV, hKV⟩
      have HSV : Hid _ := HA4.out.err hKV hCV
      clear hCV hKV
      go_wp2
      exact home_err HH.out rfl rfl HSV.out (by decide) HE.out
    | true =>
      have hT3 := tail3 (E := E) (b := oneB tr) (s1 := s2) (ok := ok2) HRun.out HX.out hS (by rw [oneB_size]; omega) (fun _ => by rw [oneB_at htr2]; omega) (by omega)
      cases ok2 with
      | false =>
        have HE : Hid (E.X.2 = (pc, 27)) := hT3.1 rfl
        clear hT3 hS hsg
        conv => arg 2; whnf
        go_wp2_with fail
        refine (HNS _).mono ?_
        rintro en w2 ⟨rfl, rfl⟩
        go_wp2_with fail
        refine (HP1 _).mono ?_
        rintro en w3 ⟨rfl, rfl⟩
        go_wp2_with fail
        refine (HP2 _).mono ?_
        rintro en w4 ⟨rfl, rfl⟩
        go_wp2_with fail
        refine (HON _).mono ?_
        rintro en w5 ⟨rfl, hk5⟩
        have HA5 : Hid _ := HA.out.new hk5
        clear hk5
        have HV := vfail_m HA5.out.ck 27 pc
        go_wp2_with fail
        refine HV.mono ?_
        rintro en wV ⟨rfl, hCV, hKV⟩
        have HSV : Hid _ := HA5.out.err hKV hCV
        clear hCV hKV
        go_wp2
        exact home_err HH.out rfl rfl HSV.out (by decide) HE.out
      | true =>
        have hszz : (s2 ++ oneB tr).size = s2.size + 1 := by rw [ByteArray.size_append, show (oneB tr).size = 1 from rfl]
        have hsl : ¬ 9223372036854775807 < s2.size + (oneB tr).size := by rw [show (oneB tr).size = 1 from rfl]; omega
        by_cases hd : 10 < E.rest.length + (s2.size + 1)
        · have HE : Hid (E.X.2 = (pc, 28)) := hT3.2.1 rfl hd
          have hdeep : (10 : Int) < (E.rest.length : Int) + ((s2.size : Int) + 1) := by omega
          clear hT3 hd hS hsg
          conv => arg 2; whnf
          go_wp2_with fail
          refine (HNS _).mono ?_
          rintro en w2 ⟨rfl, rfl⟩
          go_wp2_with fail
          refine (HP1 _).mono ?_
          rintro en w3 ⟨rfl, rfl⟩
          go_wp2_with fail
          refine (HP2 _).mono ?_
          rintro en w4 ⟨rfl, rfl⟩
          go_wp2_with fail
          refine (HON _).mono ?_
          rintro en w5 ⟨rfl, hk5⟩
          have HA5 : Hid _ := HA.out.new hk5
          clear hk5
          have HV := vfail_m HA5.out.ck 28 pc
          go_wp2_with fail
          refine HV.mono ?_
          rintro en wV ⟨rfl, hCV, hKV⟩
          have HSV : Hid _ := HA5.out.err hKV hCV
          clear hCV hKV
          go_wp2
          exact home_err HH.out rfl rfl HSV.out (by decide) HE.out
        · have HR2 : Hid (E.run (pc + 1) (s2 ++ oneB tr) p) := hT3.2.2 rfl hd
          have hdeep : ¬ (10 : Int) < (E.rest.length : Int) + ((s2.size : Int) + 1) := by omega
          have hlast : E.rest.length + (s2.size + 1) ≤ 10 := by omega
          clear hT3 hd hS hsg
          conv => arg 2; whnf
          go_wp2_with fail
          refine (HNS _).mono ?_
          rintro en w2 ⟨rfl, rfl⟩
          go_wp2_with fail
          refine (HP1 _).mono ?_
          rintro en w3 ⟨rfl, rfl⟩
          go_wp2_with fail
          refine (HP2 _).mono ?_
          rintro en w4 ⟨rfl, rfl⟩
          go_wp2_with fail
          refine (HON _).mono ?_
          rintro en w5 ⟨rfl, hk5⟩
          have HA5 : Hid _ := HA.out.new hk5
          clear hk5
          go_wp2
          exact HN.out _ _ (pc + 1) (s2 ++ oneB tr) p a (by kernel_rfl) rfl rfl rfl HA5.out (by omega) (by rw [hszz]; omega) HR2.out
end
end Go.Proofs.Qxb6500275aGreatDoor
