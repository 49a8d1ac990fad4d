import Derived.Test.Qxb6500275aGreatDoorVnx
set_option maxRecDepth 1000000
set_option linter.unusedVariables false
set_option linter.unusedSimpArgs false
namespace Go.Proofs.Qxb6500275aGreatDoor
open Go Go.RowKit
section
variable {w wr w' : World} {cb mb gf fo : Nat} {m : MT} {fn : Fn} {vb vt lv : Value} {labs : List ByteArray} {loc resF : ByteArray} {er : Int} {a : Nat} {E : Env189} {pc : Nat} {st : ByteArray} {p : Bool} {x : Ins}
set_option maxHeartbeats 8000000 in
theorem c189_if1 (ho : x.op = 4) (hz0 : (btT x.x).size ≠ 0) (hIH : ∀ E' : Env189, E'.lev < E.lev → SeqOk E') : Case189 E pc st p x := by
  intro wr a c u Q hO hS hx hu1 hu14 hu15 hst hrun hN hNe hH
  obtain ⟨kb, nb, bc, hd⟩ := rd189 hO hS hx
  obtain ⟨c1, c4, f2, d0, d1, d2, hpn, ⟨hnb, hnbe⟩, hA, hX⟩ := hd
  have hlevp : ¬ ((E.lev : Int) ≤ 0) := by have := hO.lev.2; omega
  have HO : Hid _ := hO
  have HN : Hid (Next189 E pc c Q) := hN
  have HNe : Hid (Nerr189 E c Q) := hNe
  have HH : Hid (Home189 E pc Q) := hH
  have HA : Hid _ := hA
  have HX : Hid (E.fn.body[pc]? = some x) := hx
  have HRun : Hid (E.run pc st p) := hrun
  have HI : Hid _ := hX
  clear hO hN hNe hH hA hS hx hnbe hrun hX
  have hbl := HI.out.blk (by omega)
  have hxr := HI.out.x
  obtain ⟨hbt1, hbt2, hbt3⟩ := bt_ok hbl
  have hr10 := HO.out.rest
  have hlv8 := HO.out.lev
  have hll : E.labs.length = E.r.length + 1 := by have := HO.out.lab.len; simpa using this
  obtain ⟨op, X1, Y1⟩ := x
  dsimp only at ho d0 d1 d2 hbl hxr hbt1 hbt2 hbt3
  subst ho
  have HBT := fun u => blockType_m (w := u) X1 hxr
  obtain ⟨res, hres⟩ : ∃ b, btT X1 = b := ⟨_, rfl⟩
  rw [hres] at HBT hbt1 hbt2 hbt3
  dsimp only at hz0
  rw [hres] at hz0
  obtain ⟨nr, hnr⟩ : ∃ n, res.size = n := ⟨_, rfl⟩
  have hnr1 : nr ≤ 1 := by have := hbt1.1; omega
  have hz1 : nr = 1 := by omega
  clear hz0
  have HB1 : Hid _ := hbt1
  have HB2 : Hid _ := hbt2
  have HNR : Hid _ := hnr
  obtain ⟨W, hW⟩ : ∃ W, wr.alloc (.cells #[.int .u8 4, .int .u32 X1, .int .u64 Y1] 129) = W := ⟨_, rfl⟩
  have hC7 : C3 W wr.heap.size (.int .u8 4) (.int .u32 X1) (.int .u64 Y1) := by rw [← hW]; exact C3.new wr _ _ _ _
  have HC7 : Hid _ := hC7
  have y0 := hC7.c0
  have hcbl : E.cb < wr.heap.size := lt_of_cell c1
  have HA2 : Hid (E.sq (wr.alloc (.cells #[.int .u8 4, .int .u32 X1, .int .u64 Y1] 129)) 0 a) := HA.out
  clear HA
  have HA : Hid _ := HA2.out
  rw [hW] at HA
  clear HA2
  have y1 := hC7.c1
  obtain ⟨nl, hnl⟩ : ∃ n, E.labs.length = n := ⟨_, rfl⟩
  have hnl1 : 1 ≤ nl := by omega
  have hnl8 : nl ≤ 8 := by omega
  obtain ⟨lg, lcp, hlv, hlr⟩ := OR.ptr HA.out.lb (by omega)
  clear hlr
  rw [hnl] at hlv
  have HLV : Hid _ := hlv
  have HNL : Hid _ := hnl
  have hmk := fun U => mk77l U nl (by omega)
  have hpb : pc < E.fn.body.length := (List.getElem?_eq_some_iff.1 HX.out).1
  have HIH : Hid (∀ E' : Env189, E'.lev < E.lev → SeqOk E') := hIH
  have hlev1 : (E.lev : Int) ≤ 8 := by omega
  clear hC7 hIH hbl hres hbt1 hbt2 hbt3 hnr hnl hll
  subst hz1
  have hn1 : (res.toList == []) = false := ba_one HNR.out
  have hn3 : (res.toList == (⟨#[]⟩ : ByteArray).toList) = false := ba_one3 HNR.out
  obtain ⟨⟨s1, g1, ok1⟩, hp1⟩ : ∃ z, popS st p 127 = z := ⟨_, rfl⟩
  have hz1 := popS_le hp1
  have HP1 := fun u => vpop_m (w := u) st p 127 (by omega) (by decide)
  rw [hp1] at HP1
  unfold encP3 at HP1
  dsimp only at HP1
  have hS := step_if (E := E) (pc := pc) (st := st) (p := p) (x := ⟨4, X1, Y1⟩) (res := res) HO.out rfl HB2.out hp1
  have HST : Hid _ := hS
  clear hS hp1
  unfold Env189.fr fr189
  rw [hu1, hu14, hu15, hlv]
  cases ok1 with
  | false =>
    have HE : Hid (E.X.2 = (pc, 27)) := Env189.stop HRun.out HX.out HST.out
    conv => arg 2; whnf
    go_wp2_with fail
    try rw [hW]
    clear hW
    refine (HP1 _).mono ?_
    rintro en w2 ⟨rfl, rfl⟩
    go_wp2_with fail
    refine (vfail_m HA.out.ck 27 pc).mono ?_
    rintro en wV ⟨rfl, hCV, hKV⟩
    have HSV : Hid _ := HA.out.err hKV hCV
    clear hCV hKV
    go_wp2
    exact home_err HH.out rfl rfl HSV.out (by decide) HE.out
  | true =>
    have HST2 : Hid (stepV E.m.mod E.fn E.params pc (E.v st p) ⟨4, X1, Y1⟩ = if E.lev = 1 then (E.v s1 p, some (pc + 1, 11)) else (⟨(E.v s1 p).ops, ⟨4, firstV res, (E.v s1 p).ops.length, false⟩ :: (E.v s1 p).ctl⟩, none)) := HST.out
    clear HST
    by_cases hl1 : E.lev = 1
    · have HE : Hid (E.X.2 = (pc + 1, 11)) := Env189.stop HRun.out HX.out (HST2.out.trans (by rw [if_pos hl1]))
      have hlz : (E.lev : Int) - 1 = 0 := by omega
      conv => arg 2; whnf
      go_wp2_with fail
      try rw [hW]
      clear hW
      refine (HP1 _).mono ?_
      rintro en w2 ⟨rfl, rfl⟩
      go_wp2_with fail
      refine (HBT _).mono ?_
      rintro en w3 ⟨rfl, hk3⟩
      have HA3 : Hid _ := HA.out.new hk3
      clear hk3
      obtain ⟨v1, u1, v2, u2, r1, ⟨a1, n1, q1, rfl⟩, r2, ⟨a2, n2, q2, rfl⟩, hL2, hk2, hf2⟩ := inner_make HA3.out.lb HNL.out hnl1 hnl8 (res : ByteArray)
      rw [HLV.out] at r1
      have HL2 : Hid (Lb u2 (.slice a2 n2 q2) (E.labs ++ [(res : ByteArray)])) := hL2
      have HK2 : Hid _ := hk2
      have HF2 : Hid (∀ k, (Value.slice a2 n2 q2).ownBlock = some k → w3.heap.size ≤ k) := hf2
      have HA9 : Hid _ := HA3.out.new hk2
      clear hL2 hk2 hf2
      go_wp2_with (at_builtin; first | (refine wpList_app rfl _ _ 77 rfl r1 ?_; clear r1) | (refine wpList_app rfl _ _ 77 rfl r2 ?_; clear r2))
      have HZ := seq_zero (lv := .slice a2 n2 q2) HA9.out.ck HA9.out.fr (pc + 1) (by omega) HO.out.fnk.nb.2 res (E.rest.length + s1.size)
      have ez1 : ((pc + 1 : Nat) : Int) = (pc : Int) + 1 := by omega
      have ez2 : ((E.rest.length + s1.size : Nat) : Int) = (E.rest.length : Int) + (s1.size : Int) := by omega
      rw [ez1, ez2] at HZ
      clear ez1 ez2
      refine HZ.mono ?_
      clear HZ
      rintro en w9 ⟨rfl, hC9, hK9⟩
      have HS9 : Hid _ := HA9.out.err hK9 hC9
      have c9 := hC9.c4
      clear hC9 hK9
      go_wp2
      exact home_err (a' := pc + 1) HH.out rfl rfl HS9.out (by decide) HE.out
    · have HIR : Hid (∀ (w9 : World) (v9 : Value), (E.inn w9 v9 (res : ByteArray) res 4 s1 p).run (pc + 1) ByteArray.empty false) := fun w9 v9 => inn_run HRun.out HX.out (HST2.out.trans (by rw [if_neg hl1]))
      have HJO : Hid (∀ (w9 : World) (v9 : Value), Ok189 (E.inn w9 v9 (res : ByteArray) res 4 s1 p)) := fun w9 v9 => inn_ok HO.out HB1.out HB1.out (by unfold labW; rw [if_neg (by simp)]) (by omega) (by omega)
      conv => arg 2; whnf
      go_wp2_with fail
      try rw [hW]
      clear hW
      refine (HP1 _).mono ?_
      rintro en w2 ⟨rfl, rfl⟩
      go_wp2_with fail
      refine (HBT _).mono ?_
      rintro en w3 ⟨rfl, hk3⟩
      have HA3 : Hid _ := HA.out.new hk3
      clear hk3
      obtain ⟨v1, u1, v2, u2, r1, ⟨a1, n1, q1, rfl⟩, r2, ⟨a2, n2, q2, rfl⟩, hL2, hk2, hf2⟩ := inner_make HA3.out.lb HNL.out hnl1 hnl8 (res : ByteArray)
      rw [HLV.out] at r1
      have HL2 : Hid (Lb u2 (.slice a2 n2 q2) (E.labs ++ [(res : ByteArray)])) := hL2
      have HK2 : Hid _ := hk2
      have HF2 : Hid (∀ k, (Value.slice a2 n2 q2).ownBlock = some k → w3.heap.size ≤ k) := hf2
      have HA9 : Hid _ := HA3.out.new hk2
      clear hL2 hk2 hf2
      go_wp2_with (at_builtin; first | (refine wpList_app rfl _ _ 77 rfl r1 ?_; clear r1) | (refine wpList_app rfl _ _ 77 rfl r2 ?_; clear r2))
      have HSQ : Hid ((E.inn u2 (.slice a2 n2 q2) res res 4 s1 p).sq u2 0 a) := ⟨HA9.out.ck, HA9.out.mw, HA9.out.fr, HL2.out, fun k hk e => by
          rcases hk with hk | hk | hk
          · exact HA9.out.nc k (.inl hk) e
          · exact HA9.out.nc k (.inr (.inl hk)) e
          · have := HF2.out k hk
            have hlt : E.cb < w3.heap.size := lt_of_cell HA3.out.ck.c0
            have e2 : k = E.cb := e
            omega, Kp.refl _ _⟩
      have HC : Calls Tryz.prog 189 #[.pointer (some ⟨E.cb, 0, none⟩), .int .i64 ((pc : Int) + 1), .slice a2 n2 q2, .string res, .int .i64 ((E.rest.length : Int) + (s1.size : Int)), .int .i64 ((E.lev : Int) - 1)] u2 (fun en w' => ∃ (pc' cl : Nat) (er : Int) (a' : Nat), en = .returned (.tuple #[.int .i64 (pc' : Int), .int .u8 (cl : Int)]) ∧ (E.inn u2 (.slice a2 n2 q2) res res 4 s1 p).sq w' er a' ∧ Ans189 (E.inn u2 (.slice a2 n2 q2) res res 4 s1 p) (pc + 1) pc' cl er a') := by
        have h0 := HIH.out (E.inn u2 (.slice a2 n2 q2) res res 4 s1 p) (by show E.lev - 1 < E.lev; omega) (pc + 1) a (HJO.out _ _) HSQ.out (by show pc + 1 ≤ E.fn.body.length; omega) (HIR.out _ _)
        have e1 : (((E.inn u2 (.slice a2 n2 q2) res res 4 s1 p).rest.length : Nat) : Int) = (E.rest.length : Int) + (s1.size : Int) := by rw [inn_len]; omega
        have e2 : (((E.inn u2 (.slice a2 n2 q2) res res 4 s1 p).lev : Nat) : Int) = (E.lev : Int) - 1 := by show ((E.lev - 1 : Nat) : Int) = _; omega
        have e3 : ((pc + 1 : Nat) : Int) = (pc : Int) + 1 := by omega
        rw [e1, e2, e3] at h0
        exact h0
      refine HC.mono ?_
      rintro en w9 ⟨pn, cl, er, a9, rfl, hS9, hAn⟩
      have HS9 : Hid _ := HA9.out.err hS9.kp hS9.ck
      have HL9 : Hid (Lb w9 (.slice a2 n2 q2) (E.labs ++ [res])) := hS9.lb
      have c9 : w9.cell? ⟨E.cb, 4, none⟩ = some (.int .i64 er) := hS9.ck.c4
      clear hS9 HC HSQ
      rcases hAn with ⟨he, hXe⟩ | ⟨rfl, q, st', p', x', rfl, hq, hxq, rfl, hcl, hsz, hp1, hp2, hrn⟩
      · have heb : (er == 0) = false := by rw [beq_eq_false_iff_ne]; exact he
        have heb2 : (er != 0) = true := by simp [bne, heb]
        have HE : Hid (E.X.2 = (a9, er)) := hXe
        have HER : Hid (er ≠ 0) := he
        clear hXe he
        go_wp2
        exact home_err HH.out rfl rfl HS9.out HER.out HE.out
      have hq96 : q < 1000 := by have h1 : q < E.fn.body.length := (List.getElem?_eq_some_iff.1 hxq).1; have := HO.out.fnk.nb.2; omega
      rcases hcl with hx5 | hx11
      · rw [hx5]
        have HIR2 : Hid ((E.inn w9 (.slice a2 n2 q2) res res 5 s1 p).run (q + 1) ByteArray.empty false) := inn_else hrn hxq hx5 HB1.out hp1 hp2 w9 (.slice a2 n2 q2)
        have HIO2 : Hid (Ok189 (E.inn w9 (.slice a2 n2 q2) res res 5 s1 p)) := inn_ok HO.out HB1.out HB1.out (by unfold labW; rw [if_neg (by simp)]) (by omega) (by omega)
        have HSQ2 : Hid ((E.inn w9 (.slice a2 n2 q2) res res 5 s1 p).sq w9 0 a9) := ⟨HS9.out.ck, HS9.out.mw, HS9.out.fr, HL9.out, fun k hk e => by
            rcases hk with hk | hk | hk
            · exact HS9.out.nc k (.inl hk) e
            · exact HS9.out.nc k (.inr (.inl hk)) e
            · have := HF2.out k hk
              have hlt : E.cb < w3.heap.size := lt_of_cell HA3.out.ck.c0
              have e2 : k = E.cb := e
              omega, Kp.refl _ _⟩
        have HC2 : Calls Tryz.prog 189 #[.pointer (some ⟨E.cb, 0, none⟩), .int .i64 ((q : Int) + 1), .slice a2 n2 q2, .string res, .int .i64 ((E.rest.length : Int) + (s1.size : Int)), .int .i64 ((E.lev : Int) - 1)] w9 (fun en w' => ∃ (pc' cl : Nat) (er : Int) (a' : Nat), en = .returned (.tuple #[.int .i64 (pc' : Int), .int .u8 (cl : Int)]) ∧ (E.inn w9 (.slice a2 n2 q2) res res 5 s1 p).sq w' er a' ∧ Ans189 (E.inn w9 (.slice a2 n2 q2) res res 5 s1 p) (q + 1) pc' cl er a') := by
          have h0 := HIH.out (E.inn w9 (.slice a2 n2 q2) res res 5 s1 p) (by show E.lev - 1 < E.lev; omega) (q + 1) a9 HIO2.out HSQ2.out HIR2.out.le HIR2.out
          have e1 : ((((E.inn w9 (.slice a2 n2 q2) res res 5 s1 p)).rest.length : Nat) : Int) = (E.rest.length : Int) + (s1.size : Int) := by rw [inn_len]; omega
          have e2 : ((((E.inn w9 (.slice a2 n2 q2) res res 5 s1 p)).lev : Nat) : Int) = (E.lev : Int) - 1 := by show ((E.lev - 1 : Nat) : Int) = _; omega
          have e3 : ((q + 1 : Nat) : Int) = (q : Int) + 1 := by omega
          rw [e1, e2, e3] at h0
          exact h0
        clear hrn hxq hp1 hp2 hsz
        go_wp2_with fail
        refine HC2.mono ?_
        rintro en w10 ⟨pn, cl, er, a10, rfl, hS10, hAn⟩
        have HS10 : Hid _ := HS9.out.err hS10.kp hS10.ck
        have c10 : w10.cell? ⟨E.cb, 4, none⟩ = some (.int .i64 er) := hS10.ck.c4
        clear hS10 HC2 HSQ2 HIR2 HIO2
        rcases hAn with ⟨he, hXe⟩ | ⟨rfl, qz, stz, pz, xz, rfl, hqz, hxqz, rfl, hclz, hszz0, hp1z, hp2z, hrnz⟩
        · have heb : (er == 0) = false := by rw [beq_eq_false_iff_ne]; exact he
          have heb2 : (er != 0) = true := by simp [bne, heb]
          have HE : Hid (E.X.2 = (a10, er)) := hXe
          have HER : Hid (er ≠ 0) := he
          clear hXe he
          go_wp2
          exact home_err HH.out rfl rfl HS10.out HER.out HE.out
        have hq96z : qz < 1000 := by have h1 : qz < E.fn.body.length := (List.getElem?_eq_some_iff.1 hxqz).1; have := HO.out.fnk.nb.2; omega
        rcases hclz with hx5 | hx11
        · have HE : Hid (E.X.2 = (qz, 11)) := inn_els11 hrnz hxqz hx5 HB1.out hp1z hp2z (by decide)
          rw [hx5]
          have HV := vfail_m HS10.out.ck 11 qz
          clear hrnz hxqz hp1z hp2z hszz0
          go_wp2_with fail
          refine HV.mono ?_
          rintro en wV ⟨rfl, hCV, hKV⟩
          have HSV : Hid _ := HS10.out.err hKV hCV
          have cV := hCV.c4
          clear hCV hKV
          go_wp2
          exact home_err HH.out rfl rfl HSV.out (by decide) HE.out
        · rw [hx11]
          have hszz : (s1 ++ res).size = s1.size + 1 := by rw [ByteArray.size_append, HNR.out]
          have hsl : ¬ 9223372036854775807 < s1.size + res.size := by rw [HNR.out]; omega
          have HEn := inn_end hrnz hxqz hx11 HB1.out hp1z hp2z (.inl (by decide)) (by omega)
          rw [HNR.out] at HEn
          by_cases hd : 10 < E.rest.length + (s1.size + 1)
          · have HE : Hid (E.X.2 = (qz, 28)) := HEn.1 hd
            have hdeep : (10 : Int) < (E.rest.length : Int) + ((s1.size : Int) + 1) := by omega
            have HV := vfail_m HS10.out.ck 28 qz
            clear HEn hd hxqz hrnz hp1z hp2z hszz0
            go_wp2_with fail
            refine HV.mono ?_
            rintro en wV ⟨rfl, hCV, hKV⟩
            have HSV : Hid _ := HS10.out.err hKV hCV
            clear hCV hKV
            go_wp2
            exact home_err HH.out rfl rfl HSV.out (by decide) HE.out
          · have HR2 : Hid (E.run (qz + 1) (s1 ++ res) p) := HEn.2 hd
            have hdeep : ¬ (10 : Int) < (E.rest.length : Int) + ((s1.size : Int) + 1) := by omega
            have hlast : E.rest.length + (s1.size + 1) ≤ 10 := by omega
            clear HEn hd hxqz hrnz hp1z hp2z hszz0
            go_wp2
            exact HN.out _ _ (qz + 1) (s1 ++ res) p _ (by unfold Env189.fr fr189; rw [HLV.out]; kernel_rfl) rfl rfl rfl HS10.out (by omega) (by rw [hszz]; exact hlast) HR2.out
      · rw [hx11]
        have HE : Hid (E.X.2 = (q, 27)) := inn_end27 hrn hxq hx11 HB1.out hp1 hp2 (by rw [HNR.out]; omega)
        have HV := vfail_m HS9.out.ck 27 q
        clear hrn hxq hp1 hp2 hsz
        go_wp2_with fail
        refine HV.mono ?_
        rintro en wV ⟨rfl, hCV, hKV⟩
        have HSV : Hid _ := HS9.out.err hKV hCV
        have cV := hCV.c4
        clear hCV hKV
        go_wp2
        exact home_err HH.out rfl rfl HSV.out (by decide) HE.out
end
end Go.Proofs.Qxb6500275aGreatDoor
