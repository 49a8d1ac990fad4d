import Derived.Test.Qxb6500275aGreatDoorVn0
set_option maxRecDepth 1000000
set_option linter.unusedVariables false
set_option linter.unusedSimpArgs false
namespace Go.Proofs.Qxb6500275aGreatDoor
open Go Go.RowKit
section
variable {w wr w' : World} {cb mb gf fo : Nat} {m : MT} {fn : Fn} {vb vt lv : Value} {labs : List ByteArray} {loc resF : ByteArray} {er : Int} {a : Nat} {E : Env189} {pc : Nat} {st : ByteArray} {p : Bool} {x : Ins}
set_option maxHeartbeats 8000000 in
theorem c189_br (ho : x.op = 12) : Case189 E pc st p x := by
  intro wr a c u Q hO hS hx hu1 hu14 hu15 hst hrun hN hNe hH
  obtain ⟨kb, nb, bc, hd⟩ := rd189 hO hS hx
  obtain ⟨c1, c4, f2, d0, d1, d2, hpn, ⟨hnb, hnbe⟩, hA, hX⟩ := hd
  have hlevp : ¬ ((E.lev : Int) ≤ 0) := by have := hO.lev.2; omega
  have HO : Hid _ := hO
  have HN : Hid (Next189 E pc c Q) := hN
  have HNe : Hid (Nerr189 E c Q) := hNe
  have HH : Hid (Home189 E pc Q) := hH
  have HA : Hid _ := hA
  have HX : Hid (E.fn.body[pc]? = some x) := hx
  have HRun : Hid (E.run pc st p) := hrun
  have HI : Hid _ := hX
  clear hO hN hNe hH hA hS hx hnbe hrun hX
  have hlab := HO.out.lab
  have hll : E.labs.length = E.r.length + 1 := by have := hlab.len; simpa using this
  have hl8 : E.r.length + 1 ≤ 8 := by have := HO.out.lev; omega
  have hxr := HI.out.x
  unfold u32R at hxr
  have hr10 := HO.out.rest
  have hol := HO.out
  obtain ⟨op, X0, Y1⟩ := x
  dsimp only at ho d0 d1 d2 hxr
  subst ho
  obtain ⟨X, rfl⟩ := Int.eq_ofNat_of_zero_le hxr.1
  obtain ⟨W, hW⟩ : ∃ W, wr.alloc (.cells #[.int .u8 12, .int .u32 (X : Int), .int .u64 Y1] 129) = W := ⟨_, rfl⟩
  have hC7 : C3 W wr.heap.size (.int .u8 12) (.int .u32 (X : Int)) (.int .u64 Y1) := by rw [← hW]; exact C3.new wr _ _ _ _
  have HC7 : Hid _ := hC7
  have y0 := hC7.c0
  have hcbl : E.cb < wr.heap.size := lt_of_cell c1
  have HA2 : Hid (E.sq (wr.alloc (.cells #[.int .u8 12, .int .u32 (X : Int), .int .u64 Y1] 129)) 0 a) := HA.out
  clear HA
  have HA : Hid _ := HA2.out
  rw [hW] at HA
  clear HA2
  have y1 := hC7.c1
  have HLB : Hid (Lb W E.lv E.labs) := HA.out.lb
  obtain ⟨la, lc, hlv⟩ := OR.slice HLB.out
  obtain ⟨nl, hnl⟩ : ∃ n, E.labs.length = n := ⟨_, rfl⟩
  rw [hnl] at hlv hll
  have hnl8 : nl ≤ 8 := by omega
  have HLV : Hid _ := hlv
  have HOL : Hid _ := hlab
  clear hC7 hol hlab
  by_cases hX : X < nl
  · obtain ⟨b, hb⟩ : ∃ b, E.labs[E.labs.length - 1 - X]? = some b := ⟨_, List.getElem?_eq_getElem (by omega)⟩
    have hbo := HOL.out.one b (List.mem_of_getElem? hb)
    obtain ⟨lg, lc2, hlv2, lgl, z0⟩ := labCell HLB.out hb
    rw [hlv] at hlv2
    simp at hlv2
    obtain ⟨rfl, hlx, rfl⟩ := hlv2
    clear hlx
    obtain ⟨j, hj⟩ : ∃ j, nl - 1 - X = j := ⟨_, rfl⟩
    rw [hnl, hj] at z0
    have hji : (nl : Int) - 1 - (X : Int) = (j : Int) := by omega
    have hjn : (j : Int) < (nl : Int) := by omega
    have hjn2 : j < nl := by omega
    have hb1 := hbo.1
    have hlabE : ∀ s q, labelV (E.v s q) X = firstV b := fun s q => labE HOL.out (by omega) hb
    have i1 : ¬ (nl : Int) ≤ (X : Int) := by omega
    have i1b : decide ((nl : Int) ≤ (X : Int)) = false := decide_eq_false i1
    obtain ⟨⟨s1, ok1⟩, hp1⟩ : ∃ z, popsS p (argsV b) st = z := ⟨_, rfl⟩
    have hz1 := popsS_le hp1
    have HP1 := fun u => vpops_m (w := u) st p b (by omega) (by omega)
    rw [hp1] at HP1
    unfold encP2 at HP1
    dsimp only at HP1
    have hS := step_br (E := E) (pc := pc) (x := ⟨12, (X : Int), Y1⟩) rfl (by dsimp only; omega) (hlabE st p) hbo hp1
    have hdeep : ¬ ((10 : Int) < (E.rest.length : Int)) := by omega
    unfold Env189.fr fr189
    rw [hu1, hu14, hu15, hlv]
    cases ok1 with
    | false =>
      have HE : Hid (E.X.2 = (pc, 27)) := Env189.stop HRun.out HX.out hS
      clear hS hbo hb hlabE hp1 hnl hll hlv hj
      conv => arg 2; whnf
      go_wp2_with fail
      try rw [hW]
      clear hW
      refine (HP1 _).mono ?_
      rintro en w2 ⟨rfl, rfl⟩
      go_wp2_with fail
      refine (vfail_m HA.out.ck 27 pc).mono ?_
      rintro en wV ⟨rfl, hCV, hKV⟩
      have HSV : Hid _ := HA.out.err hKV hCV
      clear hCV hKV
      go_wp2
      exact home_err HH.out rfl rfl HSV.out (by decide) HE.out
    | true =>
      have HR2 : Hid (E.run (pc + 1) ByteArray.empty true) := Env189.next HRun.out HX.out hS
      clear hS hbo hb hlabE hp1 hnl hll hlv hj
      conv => arg 2; whnf
      go_wp2_with fail
      try rw [hW]
      clear hW
      refine (HP1 _).mono ?_
      rintro en w2 ⟨rfl, rfl⟩
      go_wp2
      exact HN.out _ _ (pc + 1) (⟨#[]⟩ ++ ⟨#[]⟩) true a (by unfold Env189.fr fr189; rw [HLV.out]; kernel_rfl) rfl rfl rfl HA.out (by omega) (by rw [ba_nil]; exact hr10) (by rw [ba_nil]; exact HR2.out)
  · have hS := step_brn (E := E) (pc := pc) (st := st) (p := p) (x := ⟨12, (X : Int), Y1⟩) rfl (by dsimp only; omega)
    have i1 : (nl : Int) ≤ (X : Int) := by omega
    unfold Env189.fr fr189
    rw [hu1, hu14, hu15, hlv]
    have HE : Hid (E.X.2 = (pc, 25)) := Env189.stop HRun.out HX.out hS
    clear hS hnl hll hlv
    conv => arg 2; whnf
    go_wp2_with fail
    try rw [hW]
    clear hW
    refine (vfail_m HA.out.ck 25 pc).mono ?_
    rintro en wV ⟨rfl, hCV, hKV⟩
    have HSV : Hid _ := HA.out.err hKV hCV
    clear hCV hKV
    go_wp2
    exact home_err HH.out rfl rfl HSV.out (by decide) HE.out
set_option maxHeartbeats 8000000 in
theorem c189_bif (ho : x.op = 13) : Case189 E pc st p x := by
  intro wr a c u Q hO hS hx hu1 hu14 hu15 hst hrun hN hNe hH
  obtain ⟨kb, nb, bc, hd⟩ := rd189 hO hS hx
  obtain ⟨c1, c4, f2, d0, d1, d2, hpn, ⟨hnb, hnbe⟩, hA, hX⟩ := hd
  have hlevp : ¬ ((E.lev : Int) ≤ 0) := by have := hO.lev.2; omega
  have HO : Hid _ := hO
  have HN : Hid (Next189 E pc c Q) := hN
  have HNe : Hid (Nerr189 E c Q) := hNe
  have HH : Hid (Home189 E pc Q) := hH
  have HA : Hid _ := hA
  have HX : Hid (E.fn.body[pc]? = some x) := hx
  have HRun : Hid (E.run pc st p) := hrun
  have HI : Hid _ := hX
  clear hO hN hNe hH hA hS hx hnbe hrun hX
  have hlab := HO.out.lab
  have hll : E.labs.length = E.r.length + 1 := by have := hlab.len; simpa using this
  have hl8 : E.r.length + 1 ≤ 8 := by have := HO.out.lev; omega
  have hxr := HI.out.x
  unfold u32R at hxr
  have hr10 := HO.out.rest
  have hol := HO.out
  obtain ⟨op, X0, Y1⟩ := x
  dsimp only at ho d0 d1 d2 hxr
  subst ho
  obtain ⟨X, rfl⟩ := Int.eq_ofNat_of_zero_le hxr.1
  obtain ⟨W, hW⟩ : ∃ W, wr.alloc (.cells #[.int .u8 13, .int .u32 (X : Int), .int .u64 Y1] 129) = W := ⟨_, rfl⟩
  have hC7 : C3 W wr.heap.size (.int .u8 13) (.int .u32 (X : Int)) (.int .u64 Y1) := by rw [← hW]; exact C3.new wr _ _ _ _
  have HC7 : Hid _ := hC7
  have y0 := hC7.c0
  have hcbl : E.cb < wr.heap.size := lt_of_cell c1
  have HA2 : Hid (E.sq (wr.alloc (.cells #[.int .u8 13, .int .u32 (X : Int), .int .u64 Y1] 129)) 0 a) := HA.out
  clear HA
  have HA : Hid _ := HA2.out
  rw [hW] at HA
  clear HA2
  have y1 := hC7.c1
  have HLB : Hid (Lb W E.lv E.labs) := HA.out.lb
  obtain ⟨la, lc, hlv⟩ := OR.slice HLB.out
  obtain ⟨nl, hnl⟩ : ∃ n, E.labs.length = n := ⟨_, rfl⟩
  rw [hnl] at hlv hll
  have hnl8 : nl ≤ 8 := by omega
  have HLV : Hid _ := hlv
  have HOL : Hid _ := hlab
  clear hC7 hol hlab
  obtain ⟨⟨s1, g1, ok1⟩, hp1⟩ : ∃ z, popS st p 127 = z := ⟨_, rfl⟩
  have hz1 := popS_le hp1
  have HP1 := fun u => vpop_m (w := u) st p 127 (by omega) (by decide)
  rw [hp1] at HP1
  unfold encP3 at HP1
  dsimp only at HP1
  cases ok1 with
  | false =>
    have hS := step_biff (E := E) (pc := pc) (x := ⟨13, (X : Int), Y1⟩) rfl hp1
    unfold Env189.fr fr189
    rw [hu1, hu14, hu15, hlv]
    have HE : Hid (E.X.2 = (pc, 27)) := Env189.stop HRun.out HX.out hS
    clear hS hnl hll hlv hp1
    conv => arg 2; whnf
    go_wp2_with fail
    try rw [hW]
    clear hW
    refine (HP1 _).mono ?_
    rintro en w2 ⟨rfl, rfl⟩
    go_wp2_with fail
    refine (vfail_m HA.out.ck 27 pc).mono ?_
    rintro en wV ⟨rfl, hCV, hKV⟩
    have HSV : Hid _ := HA.out.err hKV hCV
    clear hCV hKV
    go_wp2
    exact home_err HH.out rfl rfl HSV.out (by decide) HE.out
  | true =>
    by_cases hX : X < nl
    · obtain ⟨b, hb⟩ : ∃ b, E.labs[E.labs.length - 1 - X]? = some b := ⟨_, List.getElem?_eq_getElem (by omega)⟩
      have hbo := HOL.out.one b (List.mem_of_getElem? hb)
      obtain ⟨lg, lc2, hlv2, lgl, z0⟩ := labCell HLB.out hb
      rw [hlv] at hlv2
      simp at hlv2
      obtain ⟨rfl, hlx, rfl⟩ := hlv2
      clear hlx
      obtain ⟨j, hj⟩ : ∃ j, nl - 1 - X = j := ⟨_, rfl⟩
      rw [hnl, hj] at z0
      have hji : (nl : Int) - 1 - (X : Int) = (j : Int) := by omega
      have hjn : (j : Int) < (nl : Int) := by omega
      have hjn2 : j < nl := by omega
      have hb1 := hbo.1
      have hlabE : ∀ s q, labelV (E.v s q) X = firstV b := fun s q => labE HOL.out (by omega) hb
      have i1 : ¬ (nl : Int) ≤ (X : Int) := by omega
      have i1b : decide ((nl : Int) ≤ (X : Int)) = false := decide_eq_false i1
      obtain ⟨⟨s2, ok2⟩, hp2⟩ : ∃ z, popsS p (argsV b) s1 = z := ⟨_, rfl⟩
      have hz2 := popsS_le hp2
      have HP2 := fun u => vpops_m (w := u) s1 p b (by omega) (by omega)
      rw [hp2] at HP2
      unfold encP2 at HP2
      dsimp only at HP2
      have hS := step_bif (E := E) (pc := pc) (x := ⟨13, (X : Int), Y1⟩) rfl hp1 (by dsimp only; omega) (hlabE s1 p) hbo hp2
      obtain ⟨nq, hq⟩ : ∃ n, b.size = n := ⟨_, rfl⟩
      have hnq : nq ≤ 1 := by omega
      have h64 : b.size = 1 → bAt b 0 ≠ 64 := fun h e => by
        have := hbo.2 h
        unfold isVal at this
        omega
      unfold Env189.fr fr189
      rw [hu1, hu14, hu15, hlv]
      have hT3 := tail3 (E := E) (b := b) (s1 := s2) (ok := ok2) HRun.out HX.out hS (by omega) h64 (by omega)
      rw [show (b).size = nq from hq] at hT3
      cases ok2 with
      | false =>
        have HE : Hid (E.X.2 = (pc, 27)) := hT3.1 rfl
        clear hT3 hS hbo hb hlabE hp1 hp2 hnl hll hlv hj h64 hq
        conv => arg 2; whnf
        go_wp2_with fail
        try rw [hW]
        clear hW
        refine (HP1 _).mono ?_
        rintro en w2 ⟨rfl, rfl⟩
        go_wp2_with fail
        refine (HP2 _).mono ?_
        rintro en w3 ⟨rfl, rfl⟩
        go_wp2_with fail
        refine (vfail_m HA.out.ck 27 pc).mono ?_
        rintro en wV ⟨rfl, hCV, hKV⟩
        have HSV : Hid _ := HA.out.err hKV hCV
        clear hCV hKV
        go_wp2
        exact home_err HH.out rfl rfl HSV.out (by decide) HE.out
      | true =>
        have hszz : (s2 ++ b).size = s2.size + nq := by rw [ByteArray.size_append, show (b).size = nq from hq]
        have hsl : ¬ 9223372036854775807 < s2.size + (b).size := by rw [show (b).size = nq from hq]; omega
        by_cases hd : 10 < E.rest.length + (s2.size + nq)
        · have HE : Hid (E.X.2 = (pc, 28)) := hT3.2.1 rfl hd
          have hdeep : (10 : Int) < (E.rest.length : Int) + ((s2.size : Int) + nq) := by omega
          clear hT3 hd hS hbo hb hlabE hp1 hp2 hnl hll hlv hj h64 hq
          conv => arg 2; whnf
          go_wp2_with fail
          try rw [hW]
          clear hW
          refine (HP1 _).mono ?_
          rintro en w2 ⟨rfl, rfl⟩
          go_wp2_with fail
          refine (HP2 _).mono ?_
          rintro en w3 ⟨rfl, rfl⟩
          go_wp2_with fail
          refine (vfail_m HA.out.ck 28 pc).mono ?_
          rintro en wV ⟨rfl, hCV, hKV⟩
          have HSV : Hid _ := HA.out.err hKV hCV
          clear hCV hKV
          go_wp2
          exact home_err HH.out rfl rfl HSV.out (by decide) HE.out
        · have HR2 : Hid (E.run (pc + 1) (s2 ++ b) p) := hT3.2.2 rfl hd
          have hdeep : ¬ (10 : Int) < (E.rest.length : Int) + ((s2.size : Int) + nq) := by omega
          have hlast : E.rest.length + (s2.size + nq) ≤ 10 := by omega
          clear hT3 hd hS hbo hb hlabE hp1 hp2 hnl hll hlv hj h64 hq
          conv => arg 2; whnf
          go_wp2_with fail
          try rw [hW]
          clear hW
          refine (HP1 _).mono ?_
          rintro en w2 ⟨rfl, rfl⟩
          go_wp2_with fail
          refine (HP2 _).mono ?_
          rintro en w3 ⟨rfl, rfl⟩
          go_wp2
          exact HN.out _ _ (pc + 1) (s2 ++ b) p a (by unfold Env189.fr fr189; rw [HLV.out]; kernel_rfl) rfl rfl rfl HA.out (by omega) (by rw [hszz]; omega) HR2.out
    · have hS := step_bifn (E := E) (pc := pc) (x := ⟨13, (X : Int), Y1⟩) rfl hp1 (by dsimp only; omega)
      have i1 : (nl : Int) ≤ (X : Int) := by omega
      unfold Env189.fr fr189
      rw [hu1, hu14, hu15, hlv]
      have HE : Hid (E.X.2 = (pc, 25)) := Env189.stop HRun.out HX.out hS
      clear hS hnl hll hlv hp1
      conv => arg 2; whnf
      go_wp2_with fail
      try rw [hW]
      clear hW
      refine (HP1 _).mono ?_
      rintro en w2 ⟨rfl, rfl⟩
      go_wp2_with fail
      refine (vfail_m HA.out.ck 25 pc).mono ?_
      rintro en wV ⟨rfl, hCV, hKV⟩
      have HSV : Hid _ := HA.out.err hKV hCV
      clear hCV hKV
      go_wp2
      exact home_err HH.out rfl rfl HSV.out (by decide) HE.out
set_option maxHeartbeats 8000000 in
theorem c189_tab (ho : x.op = 14) : Case189 E pc st p x := by
  intro wr a c u Q hO hS hx hu1 hu14 hu15 hst hrun hN hNe hH
  obtain ⟨kb, nb, bc, hd⟩ := rd189 hO hS hx
  obtain ⟨c1, c4, f2, d0, d1, d2, hpn, ⟨hnb, hnbe⟩, hA, hX⟩ := hd
  have hlevp : ¬ ((E.lev : Int) ≤ 0) := by have := hO.lev.2; omega
  have HO : Hid _ := hO
  have HN : Hid (Next189 E pc c Q) := hN
  have HNe : Hid (Nerr189 E c Q) := hNe
  have HH : Hid (Home189 E pc Q) := hH
  have HA : Hid _ := hA
  have HX : Hid (E.fn.body[pc]? = some x) := hx
  have HRun : Hid (E.run pc st p) := hrun
  have HI : Hid _ := hX
  clear hO hN hNe hH hA hS hx hnbe hrun hX
  have hlab := HO.out.lab
  have hll : E.labs.length = E.r.length + 1 := by have := hlab.len; simpa using this
  have hl8 : E.labs.length ≤ 8 := by have := HO.out.lev; omega
  have hxr := HI.out.x
  have hyr := HI.out.y
  have hr10 := HO.out.rest
  have hS := stepV_14 (M := E.m.mod) (fn := E.fn) (params := E.params) (pc := pc) (v := E.v st p) (x := x) ho
  have hlab2 : LabR E.labs ((⟨E.o, firstV E.res, E.rest.length, p⟩ : VF) :: E.r) := by
    refine ⟨hlab.len, fun i b hb hi => ?_, hlab.one⟩
    have := hlab.at_ i b hb hi
    rw [← this]
    cases i <;> rfl
  have htl := HO.out.fnk.nt
  have htr := HO.out.fnk.tabs
  have hxo : x.op < 256 := by omega
  have HTB : Hid (∀ u, E.sq u 0 a → Calls Tryz.prog 254 #[.pointer (some ⟨E.cb, 0, none⟩), Ins.val x, .int .i64 (pc : Int), E.lv, .string st, .bool p] u (TbE (tabX E.fn pc (E.v st p) x) pc E.cb E.mb ⟨E.gf, E.fo, none⟩ E.loc E.resF (E.v ByteArray.empty true) u)) := fun u hu => table_m hu.ck hu.fr (fun k hk => hu.nc k (.inr (.inl hk))) hu.lb (fun k hk => hu.nc k (.inr (.inr hk))) hlab2 hl8 (by omega) hxr hyr hxo htl htr
  have HS : Hid _ := hS
  clear hS hlab hlab2 hll hl8 hxr hyr htl htr hxo
  obtain ⟨op, X1, Y1⟩ := x
  dsimp only at ho d0 d1 d2
  subst ho
  unfold Ins.val at HTB
  dsimp only at HTB
  have hdeep : ¬ ((10 : Int) < (E.rest.length : Int)) := by omega
  obtain ⟨W, hW⟩ : ∃ W, wr.alloc (.cells #[.int .u8 14, .int .u32 X1, .int .u64 Y1] 129) = W := ⟨_, rfl⟩
  have hC7 : C3 W wr.heap.size (.int .u8 14) (.int .u32 X1) (.int .u64 Y1) := by rw [← hW]; exact C3.new wr _ _ _ _
  have HC7 : Hid _ := hC7
  have y0 := hC7.c0
  have hcbl : E.cb < wr.heap.size := lt_of_cell c1
  have HA2 : Hid (E.sq (wr.alloc (.cells #[.int .u8 14, .int .u32 X1, .int .u64 Y1] 129)) 0 a) := HA.out
  clear HA
  have HA : Hid _ := HA2.out
  rw [hW] at HA
  clear HA2
  have y1 := hC7.c1
  have y2 := hC7.c2
  clear hC7
  unfold Env189.fr fr189
  rw [hu1, hu14, hu15]
  conv => arg 2; whnf
  go_wp2_with fail
  try rw [hW]
  clear hW
  refine (HTB.out _ HA.out).mono ?_
  rintro en w2 ⟨s2, ok, er, a2, rfl, hC2, hK2, HT2⟩
  have HS2 : Hid _ := HA.out.err hK2 hC2
  clear hC2 hK2
  rcases HT2.out with ⟨rfl, rfl, v2, hv2⟩ | ⟨rfl, her, v2, hv2⟩ | ⟨rfl, rfl, hv2⟩
  · have HE : Hid (E.X.2 = (pc, 27)) := Env189.stop HRun.out HX.out (HS.out.trans hv2)
    clear hv2 HT2
    go_wp2_with fail
    refine (vfail_m HS2.out.ck 27 pc).mono ?_
    rintro en wV ⟨rfl, hCV, hKV⟩
    have HSV : Hid _ := HS2.out.err hKV hCV
    clear hCV hKV
    go_wp2
    exact home_err HH.out rfl rfl HSV.out (by decide) HE.out
  · have HE : Hid (E.X.2 = (a2, er)) := Env189.stop HRun.out HX.out (HS.out.trans hv2)
    have HER : Hid (er ≠ 0) := her
    clear hv2 HT2 her
    go_wp2
    exact HNe.out _ _ (pc + 1) er a2 (by kernel_rfl) rfl HS2.out HER.out HE.out
  · have HR2 : Hid (E.run (pc + 1) ByteArray.empty true) := Env189.next HRun.out HX.out (HS.out.trans hv2)
    clear hv2 HT2
    go_wp2
    exact HN.out _ _ (pc + 1) (⟨#[]⟩ ++ ⟨#[]⟩) true a2 (by kernel_rfl) rfl rfl rfl HS2.out (by omega) (by rw [ba_nil]; exact hr10) (by rw [ba_nil]; exact HR2.out)
end
end Go.Proofs.Qxb6500275aGreatDoor
