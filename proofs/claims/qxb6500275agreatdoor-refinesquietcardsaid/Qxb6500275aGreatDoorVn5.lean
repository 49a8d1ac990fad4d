import Derived.Test.Qxb6500275aGreatDoorVnw
set_option maxRecDepth 1000000
set_option linter.unusedVariables false
set_option linter.unusedSimpArgs false
namespace Go.Proofs.Qxb6500275aGreatDoor
open Go Go.RowKit
section
variable {w wr w' : World} {cb mb gf fo : Nat} {m : MT} {fn : Fn} {vb vt lv : Value} {labs : List ByteArray} {loc resF : ByteArray} {er : Int} {a : Nat} {E : Env189} {pc : Nat} {st : ByteArray} {p : Bool} {x : Ins}
set_option maxHeartbeats 8000000 in
theorem c189_ld (ho : 40 ≤ x.op ∧ x.op ≤ 53) : Case189 E pc st p x := by
  intro wr a c u Q hO hS hx hu1 hu14 hu15 hst hrun hN hNe hH
  obtain ⟨kb, nb, bc, hd⟩ := rd189 hO hS hx
  obtain ⟨c1, c4, f2, d0, d1, d2, hpn, ⟨hnb, hnbe⟩, hA, hX⟩ := hd
  have hlevp : ¬ ((E.lev : Int) ≤ 0) := by have := hO.lev.2; omega
  have HO : Hid _ := hO
  have HN : Hid (Next189 E pc c Q) := hN
  have HNe : Hid (Nerr189 E c Q) := hNe
  have HH : Hid (Home189 E pc Q) := hH
  have HA : Hid _ := hA
  have HX : Hid (E.fn.body[pc]? = some x) := hx
  have HRun : Hid (E.run pc st p) := hrun
  have HI : Hid _ := hX
  clear hO hN hNe hH hA hS hx hnbe hrun hX
  have hmm := HO.out.mod.memMin
  unfold limR at hmm
  have hmm2 : -1 ≤ E.m.memMin ∧ E.m.memMin < 4294967296 := hmm
  have hxr := HI.out.x
  unfold u32R at hxr
  have hr10 := HO.out.rest
  have hsa := memSig_all2 x.op (by omega) (by omega)
  obtain ⟨⟨mw, mt, ms⟩, hsg⟩ : ∃ z, memSig x.op = z := ⟨_, rfl⟩
  rw [hsg] at hsa
  obtain ⟨hmw, hmt⟩ := hsa
  dsimp only at hmw hmt
  have hmt2 : mt < 256 := by omega
  have hS := (step_plain (E := E) (pc := pc) (st := st) (p := p) (x := x) (by omega)).trans (congrArg _ (plain_memo (by omega)))
  have HMS := fun u => memSig_e x.op (by omega) u
  rw [hsg] at HMS
  unfold encM at HMS
  dsimp only at HMS
  have HON := fun u => one_m (w := u) mt hmt2
  obtain ⟨⟨s1, g1, ok1⟩, hp1⟩ : ∃ z, popS st p 127 = z := ⟨_, rfl⟩
  have hz1 := popS_le hp1
  have HP1 := fun u => vpop_m (w := u) st p 127 (by omega) (by decide)
  rw [hp1] at HP1
  unfold encP3 at HP1
  dsimp only at HP1
  by_cases hmn : E.m.mod.memMin < 0
  · have hE0 := (hS.trans (congrArg _ (mem_no hmn))).trans (give_err (by decide))
    have HS0 : Hid _ := hE0
    clear hE0
    obtain ⟨op, X0, Y1⟩ := x
    dsimp only at ho d0 d1 d2 hxr HMS HS0
    obtain ⟨X, rfl⟩ := Int.eq_ofNat_of_zero_le hxr.1
    obtain ⟨W, hW⟩ : ∃ W, wr.alloc (.cells #[.int .u8 (op : Int), .int .u32 (X : Int), .int .u64 Y1] 129) = W := ⟨_, rfl⟩
    have hC7 : C3 W wr.heap.size (.int .u8 (op : Int)) (.int .u32 (X : Int)) (.int .u64 Y1) := by rw [← hW]; exact C3.new wr _ _ _ _
    have HC7 : Hid _ := hC7
    have y0 := hC7.c0
    have hcbl : E.cb < wr.heap.size := lt_of_cell c1
    have HA2 : Hid (E.sq (wr.alloc (.cells #[.int .u8 (op : Int), .int .u32 (X : Int), .int .u64 Y1] 129)) 0 a) := HA.out
    clear HA
    have HA : Hid _ := HA2.out
    rw [hW] at HA
    clear HA2
    have y1 := hC7.c1
    have e0 : W.cell? ⟨E.cb, 0, none⟩ = some (.pointer (some ⟨E.mb, 0, none⟩)) := HA.out.ck.c0
    have e5 : W.cell? ⟨E.mb, 5, none⟩ = some (.int .i64 E.m.memMin) := HA.out.mw.c5
    clear hC7
    have b11 : ((op : Int) == 11) = false := by rw [beq_eq_false_iff_ne]; omega
    have b5 : ((op : Int) == 5) = false := by rw [beq_eq_false_iff_ne]; omega
    have b2 : ((op : Int) == 2) = false := by rw [beq_eq_false_iff_ne]; omega
    have b3 : ((op : Int) == 3) = false := by rw [beq_eq_false_iff_ne]; omega
    have b4 : ((op : Int) == 4) = false := by rw [beq_eq_false_iff_ne]; omega
    have b0 : ((op : Int) == 0) = false := by rw [beq_eq_false_iff_ne]; omega
    have b1 : ((op : Int) == 1) = false := by rw [beq_eq_false_iff_ne]; omega
    have b12 : ((op : Int) == 12) = false := by rw [beq_eq_false_iff_ne]; omega
    have b13 : ((op : Int) == 13) = false := by rw [beq_eq_false_iff_ne]; omega
    have b14 : ((op : Int) == 14) = false := by rw [beq_eq_false_iff_ne]; omega
    have b15 : ((op : Int) == 15) = false := by rw [beq_eq_false_iff_ne]; omega
    have b16 : ((op : Int) == 16) = false := by rw [beq_eq_false_iff_ne]; omega
    have b17 : ((op : Int) == 17) = false := by rw [beq_eq_false_iff_ne]; omega
    have b26 : ((op : Int) == 26) = false := by rw [beq_eq_false_iff_ne]; omega
    have b27 : ((op : Int) == 27) = false := by rw [beq_eq_false_iff_ne]; omega
    have b35 : ((op : Int) == 35) = false := by rw [beq_eq_false_iff_ne]; omega
    have b36 : ((op : Int) == 36) = false := by rw [beq_eq_false_iff_ne]; omega
    have i32 : (32 : Int) ≤ (op : Int) := by omega
    have i34 : ¬ (op : Int) ≤ 34 := by omega
    have i40 : (40 : Int) ≤ (op : Int) := by omega
    have i64 : (op : Int) ≤ 64 := by omega
    have b63 : ((op : Int) == 63) = false := by rw [beq_eq_false_iff_ne]; omega
    have n63 : ((op : Int) != 63) = true := by simp [bne, b63]
    have m0 : ((mw : Int) == 0) = false := by rw [beq_eq_false_iff_ne]; omega
    have m1 : ((mw : Int) != 0) = true := by simp [bne, m0]
    have i54 : ¬ (54 : Int) ≤ (op : Int) := by omega
    have i53 : (op : Int) ≤ 53 := by omega
    unfold Env189.fr fr189
    rw [hu1, hu14, hu15]
    have hmn2 : E.m.memMin < 0 := hmn
    have HE : Hid (E.X.2 = (pc, 20)) := Env189.stop HRun.out HX.out HS0.out
    clear hS
    conv => arg 2; whnf
    go_wp2_with fail
    try rw [hW]
    clear hW
    refine (vfail_m HA.out.ck 20 pc).mono ?_
    rintro en wV ⟨rfl, hCV, hKV⟩
    have HSV : Hid _ := HA.out.err hKV hCV
    clear hCV hKV
    go_wp2
    exact home_err HH.out rfl rfl HSV.out (by decide) HE.out
  · have hmn2 : ¬ E.m.memMin < 0 := hmn
    by_cases hal : 3 < x.x ∨ mw / 2 ^ x.x.toNat = 0
    · have hE0 := (hS.trans (congrArg _ (mem_al hmn (by omega) (by rw [hsg]; exact hal)))).trans (give_err (by decide))
      have HS0 : Hid _ := hE0
      clear hE0
      obtain ⟨op, X0, Y1⟩ := x
      dsimp only at ho d0 d1 d2 hxr HMS HS0 hal
      obtain ⟨X, rfl⟩ := Int.eq_ofNat_of_zero_le hxr.1
      rw [Int.toNat_natCast] at hal
      obtain ⟨W, hW⟩ : ∃ W, wr.alloc (.cells #[.int .u8 (op : Int), .int .u32 (X : Int), .int .u64 Y1] 129) = W := ⟨_, rfl⟩
      have hC7 : C3 W wr.heap.size (.int .u8 (op : Int)) (.int .u32 (X : Int)) (.int .u64 Y1) := by rw [← hW]; exact C3.new wr _ _ _ _
      have HC7 : Hid _ := hC7
      have y0 := hC7.c0
      have hcbl : E.cb < wr.heap.size := lt_of_cell c1
      have HA2 : Hid (E.sq (wr.alloc (.cells #[.int .u8 (op : Int), .int .u32 (X : Int), .int .u64 Y1] 129)) 0 a) := HA.out
      clear HA
      have HA : Hid _ := HA2.out
      rw [hW] at HA
      clear HA2
      have y1 := hC7.c1
      have e0 : W.cell? ⟨E.cb, 0, none⟩ = some (.pointer (some ⟨E.mb, 0, none⟩)) := HA.out.ck.c0
      have e5 : W.cell? ⟨E.mb, 5, none⟩ = some (.int .i64 E.m.memMin) := HA.out.mw.c5
      clear hC7
      have b11 : ((op : Int) == 11) = false := by rw [beq_eq_false_iff_ne]; omega
      have b5 : ((op : Int) == 5) = false := by rw [beq_eq_false_iff_ne]; omega
      have b2 : ((op : Int) == 2) = false := by rw [beq_eq_false_iff_ne]; omega
      have b3 : ((op : Int) == 3) = false := by rw [beq_eq_false_iff_ne]; omega
      have b4 : ((op : Int) == 4) = false := by rw [beq_eq_false_iff_ne]; omega
      have b0 : ((op : Int) == 0) = false := by rw [beq_eq_false_iff_ne]; omega
      have b1 : ((op : Int) == 1) = false := by rw [beq_eq_false_iff_ne]; omega
      have b12 : ((op : Int) == 12) = false := by rw [beq_eq_false_iff_ne]; omega
      have b13 : ((op : Int) == 13) = false := by rw [beq_eq_false_iff_ne]; omega
      have b14 : ((op : Int) == 14) = false := by rw [beq_eq_false_iff_ne]; omega
      have b15 : ((op : Int) == 15) = false := by rw [beq_eq_false_iff_ne]; omega
      have b16 : ((op : Int) == 16) = false := by rw [beq_eq_false_iff_ne]; omega
      have b17 : ((op : Int) == 17) = false := by rw [beq_eq_false_iff_ne]; omega
      have b26 : ((op : Int) == 26) = false := by rw [beq_eq_false_iff_ne]; omega
      have b27 : ((op : Int) == 27) = false := by rw [beq_eq_false_iff_ne]; omega
      have b35 : ((op : Int) == 35) = false := by rw [beq_eq_false_iff_ne]; omega
      have b36 : ((op : Int) == 36) = false := by rw [beq_eq_false_iff_ne]; omega
      have i32 : (32 : Int) ≤ (op : Int) := by omega
      have i34 : ¬ (op : Int) ≤ 34 := by omega
      have i40 : (40 : Int) ≤ (op : Int) := by omega
      have i64 : (op : Int) ≤ 64 := by omega
      have b63 : ((op : Int) == 63) = false := by rw [beq_eq_false_iff_ne]; omega
      have n63 : ((op : Int) != 63) = true := by simp [bne, b63]
      have m0 : ((mw : Int) == 0) = false := by rw [beq_eq_false_iff_ne]; omega
      have m1 : ((mw : Int) != 0) = true := by simp [bne, m0]
      have i54 : ¬ (54 : Int) ≤ (op : Int) := by omega
      have i53 : (op : Int) ≤ 53 := by omega
      unfold Env189.fr fr189
      rw [hu1, hu14, hu15]
      by_cases h3 : 3 < X
      · have h3i : (3 : Int) < (X : Int) := by omega
        clear hal
        have HE : Hid (E.X.2 = (pc, 26)) := Env189.stop HRun.out HX.out HS0.out
        clear hS
        conv => arg 2; whnf
        go_wp2_with fail
        try rw [hW]
        clear hW
        refine (HMS _).mono ?_
        rintro en w2 ⟨rfl, rfl⟩
        go_wp2_with fail
        refine (vfail_m HA.out.ck 26 pc).mono ?_
        rintro en wV ⟨rfl, hCV, hKV⟩
        have HSV : Hid _ := HA.out.err hKV hCV
        clear hCV hKV
        go_wp2
        exact home_err HH.out rfl rfl HSV.out (by decide) HE.out
      · have h3i : ¬ (3 : Int) < (X : Int) := by omega
        have hsh : (mw : Int) < 2 ^ X := shl_lt (by omega) (by omega)
        have HSH : Hid ((mw : Int) < wrap64 (2 ^ X)) := by show _ < _; rw [w64p (by omega)]; exact hsh
        clear hal hsh
        have HE : Hid (E.X.2 = (pc, 26)) := Env189.stop HRun.out HX.out HS0.out
        clear hS
        conv => arg 2; whnf
        go_wp2_with fail
        try rw [hW]
        clear hW
        refine (HMS _).mono ?_
        rintro en w2 ⟨rfl, rfl⟩
        go_wp2_with fail
        rotate_left
        · exfalso
          have hgood : (X : Int) ≤ 3 ∧ wrap64 (2 ^ X) ≤ (mw : Int) := by assumption
          exact absurd HSH.out (Int.not_lt.2 hgood.2)
        skip
        refine (vfail_m HA.out.ck 26 pc).mono ?_
        rintro en wV ⟨rfl, hCV, hKV⟩
        have HSV : Hid _ := HA.out.err hKV hCV
        clear hCV hKV
        go_wp2
        exact home_err HH.out rfl rfl HSV.out (by decide) HE.out
    · have HS0 : Hid _ := hS.trans (congrArg _ (mem_ld hmn (by omega) (by rw [hsg]; exact hal) hp1))
      rw [hsg] at HS0
      dsimp only at HS0
      rw [← firstV_one hmt2] at HS0
      obtain ⟨op, X0, Y1⟩ := x
      dsimp only at ho d0 d1 d2 hxr HMS HS0 hal
      obtain ⟨X, rfl⟩ := Int.eq_ofNat_of_zero_le hxr.1
      rw [Int.toNat_natCast] at hal
      obtain ⟨W, hW⟩ : ∃ W, wr.alloc (.cells #[.int .u8 (op : Int), .int .u32 (X : Int), .int .u64 Y1] 129) = W := ⟨_, rfl⟩
      have hC7 : C3 W wr.heap.size (.int .u8 (op : Int)) (.int .u32 (X : Int)) (.int .u64 Y1) := by rw [← hW]; exact C3.new wr _ _ _ _
      have HC7 : Hid _ := hC7
      have y0 := hC7.c0
      have hcbl : E.cb < wr.heap.size := lt_of_cell c1
      have HA2 : Hid (E.sq (wr.alloc (.cells #[.int .u8 (op : Int), .int .u32 (X : Int), .int .u64 Y1] 129)) 0 a) := HA.out
      clear HA
      have HA : Hid _ := HA2.out
      rw [hW] at HA
      clear HA2
      have y1 := hC7.c1
      have e0 : W.cell? ⟨E.cb, 0, none⟩ = some (.pointer (some ⟨E.mb, 0, none⟩)) := HA.out.ck.c0
      have e5 : W.cell? ⟨E.mb, 5, none⟩ = some (.int .i64 E.m.memMin) := HA.out.mw.c5
      clear hC7
      have b11 : ((op : Int) == 11) = false := by rw [beq_eq_false_iff_ne]; omega
      have b5 : ((op : Int) == 5) = false := by rw [beq_eq_false_iff_ne]; omega
      have b2 : ((op : Int) == 2) = false := by rw [beq_eq_false_iff_ne]; omega
      have b3 : ((op : Int) == 3) = false := by rw [beq_eq_false_iff_ne]; omega
      have b4 : ((op : Int) == 4) = false := by rw [beq_eq_false_iff_ne]; omega
      have b0 : ((op : Int) == 0) = false := by rw [beq_eq_false_iff_ne]; omega
      have b1 : ((op : Int) == 1) = false := by rw [beq_eq_false_iff_ne]; omega
      have b12 : ((op : Int) == 12) = false := by rw [beq_eq_false_iff_ne]; omega
      have b13 : ((op : Int) == 13) = false := by rw [beq_eq_false_iff_ne]; omega
      have b14 : ((op : Int) == 14) = false := by rw [beq_eq_false_iff_ne]; omega
      have b15 : ((op : Int) == 15) = false := by rw [beq_eq_false_iff_ne]; omega
      have b16 : ((op : Int) == 16) = false := by rw [beq_eq_false_iff_ne]; omega
      have b17 : ((op : Int) == 17) = false := by rw [beq_eq_false_iff_ne]; omega
      have b26 : ((op : Int) == 26) = false := by rw [beq_eq_false_iff_ne]; omega
      have b27 : ((op : Int) == 27) = false := by rw [beq_eq_false_iff_ne]; omega
      have b35 : ((op : Int) == 35) = false := by rw [beq_eq_false_iff_ne]; omega
      have b36 : ((op : Int) == 36) = false := by rw [beq_eq_false_iff_ne]; omega
      have i32 : (32 : Int) ≤ (op : Int) := by omega
      have i34 : ¬ (op : Int) ≤ 34 := by omega
      have i40 : (40 : Int) ≤ (op : Int) := by omega
      have i64 : (op : Int) ≤ 64 := by omega
      have b63 : ((op : Int) == 63) = false := by rw [beq_eq_false_iff_ne]; omega
      have n63 : ((op : Int) != 63) = true := by simp [bne, b63]
      have m0 : ((mw : Int) == 0) = false := by rw [beq_eq_false_iff_ne]; omega
      have m1 : ((mw : Int) != 0) = true := by simp [bne, m0]
      have i54 : ¬ (54 : Int) ≤ (op : Int) := by omega
      have i53 : (op : Int) ≤ 53 := by omega
      unfold Env189.fr fr189
      rw [hu1, hu14, hu15]
      have h3i : ¬ (3 : Int) < (X : Int) := by omega
      have hsh : ¬ (mw : Int) < 2 ^ X := shl_ge (by omega) (by omega)
      have HSH : Hid (¬ (mw : Int) < wrap64 (2 ^ X)) := by show ¬ _ < _; rw [w64p (by omega)]; exact hsh
      clear hal hsh
      have hT3 := tail3 (E := E) (b := oneB mt) (s1 := s1) (ok := ok1) HRun.out HX.out HS0.out (by rw [oneB_size]; omega) (fun _ => by rw [oneB_at hmt2]; omega) (by omega)
      cases ok1 with
      | false =>
        have HE : Hid (E.X.2 = (pc, 27)) := hT3.1 rfl
        clear hT3 hS
        conv => arg 2; whnf
        go_wp2_with fail
        try rw [hW]
        clear hW
        refine (HMS _).mono ?_
        rintro en w2 ⟨rfl, rfl⟩
        go_wp2_with fail
        · exfalso
          have hbad : (3 : Int) < (X : Int) ∨ (mw : Int) < wrap64 (2 ^ X) := by assumption
          rcases hbad with h | h
          · first | exact h3i h | exact absurd h (Int.not_lt.2 h3i)
          · first | exact HSH.out h | exact absurd h (Int.not_lt.2 HSH.out)
        skip
        refine (HP1 _).mono ?_
        rintro en w3 ⟨rfl, rfl⟩
        go_wp2_with fail
        refine (HON _).mono ?_
        rintro en w4 ⟨rfl, hk4⟩
        have HA4 : Hid _ := HA.out.new hk4
        clear hk4
        go_wp2_with fail
        refine (vfail_m HA4.out.ck 27 pc).mono ?_
        rintro en wV ⟨rfl, hCV, hKV⟩
        have HSV : Hid _ := HA4.out.err hKV hCV
        clear hCV hKV
        go_wp2
        exact home_err HH.out rfl rfl HSV.out (by decide) HE.out
      | true =>
        have hszz : (s1 ++ oneB mt).size = s1.size + 1 := by rw [ByteArray.size_append, show (oneB mt).size = 1 from rfl]
        have hsl : ¬ 9223372036854775807 < s1.size + (oneB mt).size := by rw [show (oneB mt).size = 1 from rfl]; omega
        by_cases hd : 10 < E.rest.length + (s1.size + 1)
        · have HE : Hid (E.X.2 = (pc, 28)) := hT3.2.1 rfl hd
          have hdeep : (10 : Int) < (E.rest.length : Int) + ((s1.size : Int) + 1) := by omega
          clear hT3 hd hS
          conv => arg 2; whnf
          go_wp2_with fail
          try rw [hW]
          clear hW
          refine (HMS _).mono ?_
          rintro en w2 ⟨rfl, rfl⟩
          go_wp2_with fail
          · exfalso
            have hbad : (3 : Int) < (X : Int) ∨ (mw : Int) < wrap64 (2 ^ X) := by assumption
            rcases hbad with h | h
            · first | exact h3i h | exact absurd h (Int.not_lt.2 h3i)
            · first | exact HSH.out h | exact absurd h (Int.not_lt.2 HSH.out)
          skip
          refine (HP1 _).mono ?_
          rintro en w3 ⟨rfl, rfl⟩
          go_wp2_with fail
          refine (HON _).mono ?_
          rintro en w4 ⟨rfl, hk4⟩
          have HA4 : Hid _ := HA.out.new hk4
          clear hk4
          go_wp2_with fail
          refine (vfail_m HA4.out.ck 28 pc).mono ?_
          rintro en wV ⟨rfl, hCV, hKV⟩
          have HSV : Hid _ := HA4.out.err hKV hCV
          clear hCV hKV
          go_wp2
          exact home_err HH.out rfl rfl HSV.out (by decide) HE.out
        · have HR2 : Hid (E.run (pc + 1) (s1 ++ oneB mt) p) := hT3.2.2 rfl hd
          have hdeep : ¬ (10 : Int) < (E.rest.length : Int) + ((s1.size : Int) + 1) := by omega
          have hlast : E.rest.length + (s1.size + 1) ≤ 10 := by omega
          clear hT3 hd hS
          conv => arg 2; whnf
          go_wp2_with fail
          try rw [hW]
          clear hW
          refine (HMS _).mono ?_
          rintro en w2 ⟨rfl, rfl⟩
          go_wp2_with fail
          · exfalso
            have hbad : (3 : Int) < (X : Int) ∨ (mw : Int) < wrap64 (2 ^ X) := by assumption
            rcases hbad with h | h
            · first | exact h3i h | exact absurd h (Int.not_lt.2 h3i)
            · first | exact HSH.out h | exact absurd h (Int.not_lt.2 HSH.out)
          skip
          refine (HP1 _).mono ?_
          rintro en w3 ⟨rfl, rfl⟩
          go_wp2_with fail
          refine (HON _).mono ?_
          rintro en w4 ⟨rfl, hk4⟩
          have HA4 : Hid _ := HA.out.new hk4
          clear hk4
          go_wp2
          exact HN.out _ _ (pc + 1) (s1 ++ oneB mt) p a (by kernel_rfl) rfl rfl rfl HA4.out (by omega) (by rw [hszz]; omega) HR2.out
end
end Go.Proofs.Qxb6500275aGreatDoor
