import Derived.Test.Qxb6500275aGreatDoorVn0
set_option maxRecDepth 1000000
set_option linter.unusedVariables false
set_option linter.unusedSimpArgs false
namespace Go.Proofs.Qxb6500275aGreatDoor
open Go Go.RowKit
section
variable {w wr w' : World} {cb mb gf fo : Nat} {m : MT} {fn : Fn} {vb vt lv : Value} {labs : List ByteArray} {loc resF : ByteArray} {er : Int} {a : Nat} {E : Env189} {pc : Nat} {st : ByteArray} {p : Bool} {x : Ins}
theorem wp_gen {P : Program} {c : Code} {Q : Exit → Act → World → Prop} {ac : Act} {W : World} {k : Nat} (h : ∀ U, Kp (fun _ => False) W U → Code.wp P c Q ac U) : Code.wp P c Q ac (W.drewN k) := h _ ((Kp.refl _ _).drewM k)
theorem kcellU {W U : World} (hk : Kp (fun _ => False) W U) {p : Addr} {v : Value} (h : W.cell? p = some v) : U.cell? p = some v := by
  rw [hk.cell (lt_of_cell h) (fun h => h)]
  exact h
set_option maxHeartbeats 8000000 in
theorem c189_glob35 (ho : x.op = 35) : Case189 E pc st p x := by
  intro wr a c u Q hO hS hx hu1 hu14 hu15 hst hrun hN hNe hH
  obtain ⟨kb, nb, bc, hd⟩ := rd189 hO hS hx
  obtain ⟨c1, c4, f2, d0, d1, d2, hpn, ⟨hnb, hnbe⟩, hA, hX⟩ := hd
  have hlevp : ¬ ((E.lev : Int) ≤ 0) := by have := hO.lev.2; omega
  have HO : Hid _ := hO
  have HN : Hid (Next189 E pc c Q) := hN
  have HNe : Hid (Nerr189 E c Q) := hNe
  have HH : Hid (Home189 E pc Q) := hH
  have HA : Hid _ := hA
  have HX : Hid (E.fn.body[pc]? = some x) := hx
  have HRun : Hid (E.run pc st p) := hrun
  have HI : Hid _ := hX
  clear hO hN hNe hH hA hS hx hnbe hrun hX
  have HM : Hid _ := HA.out.mw
  have hng := HO.out.mod.ng
  have hxr := HI.out.x
  unfold u32R at hxr
  have hr10 := HO.out.rest
  have hS := step_plain (E := E) (pc := pc) (st := st) (p := p) (x := x) (by omega)
  obtain ⟨op, X0, Y1⟩ := x
  dsimp only at ho d0 d1 d2 hxr
  subst ho
  obtain ⟨X, rfl⟩ := Int.eq_ofNat_of_zero_le hxr.1
  obtain ⟨W, hW⟩ : ∃ W, wr.alloc (.cells #[.int .u8 35, .int .u32 (X : Int), .int .u64 Y1] 129) = W := ⟨_, rfl⟩
  have hC7 : C3 W wr.heap.size (.int .u8 35) (.int .u32 (X : Int)) (.int .u64 Y1) := by rw [← hW]; exact C3.new wr _ _ _ _
  have HC7 : Hid _ := hC7
  have y0 := hC7.c0
  have hcbl : E.cb < wr.heap.size := lt_of_cell c1
  have HA2 : Hid (E.sq (wr.alloc (.cells #[.int .u8 35, .int .u32 (X : Int), .int .u64 Y1] 129)) 0 a) := HA.out
  clear HA
  have HA : Hid _ := HA2.out
  rw [hW] at HA
  clear HA2
  have y1 := hC7.c1
  have e0 : W.cell? ⟨E.cb, 0, none⟩ = some (.pointer (some ⟨E.mb, 0, none⟩)) := HA.out.ck.c0
  obtain ⟨ga, gcp, hgv⟩ := HA.out.mw.slGl
  have e7 : W.cell? ⟨E.mb, 7, none⟩ = some E.m.vg := HA.out.mw.c7
  rw [hgv] at e7
  obtain ⟨ng, hnge⟩ : ∃ n, E.m.globals.length = n := ⟨_, rfl⟩
  have hng2 : ng ≤ 4 := by rw [← hnge]; exact hng
  rw [hnge] at e7
  have n1 := HC7.out.lt
  have n2 : E.cb < W.heap.size := lt_of_cell e0
  have n3 : E.mb < W.heap.size := lt_of_cell e7
  clear hC7 HM
  by_cases hX : X < ng
  · obtain ⟨g, hg⟩ : ∃ g, E.m.globals[X]? = some g := ⟨_, List.getElem?_eq_getElem (by omega)⟩
    obtain ⟨gk, gc2, gv2, gl1, gl2, gl3, gcell⟩ := HA.out.mw.atGl hg
    rw [hgv] at gv2
    simp at gv2
    obtain ⟨rfl, rfl⟩ := gv2
    have z0 : W.cell? ⟨gk, X * 5, none⟩ = some (.int .u8 (g.ty : Int)) := gcell 0 _ rfl
    have z1 : W.cell? ⟨gk, X * 5 + 1, none⟩ = some (.bool g.mu) := gcell 1 _ rfl
    have z2 : W.cell? ⟨gk, X * 5 + 2, none⟩ = some (.int .u8 (g.init.op : Int)) := gcell 2 _ rfl
    have z3 : W.cell? ⟨gk, X * 5 + 3, none⟩ = some (.int .u32 g.init.x) := gcell 3 _ rfl
    have z4 : W.cell? ⟨gk, X * 5 + 4, none⟩ = some (.int .u64 g.init.y) := gcell 4 _ rfl
    have hgm : g ∈ E.m.mod.globals := List.mem_of_getElem? hg
    have hv := (HO.out.mod.globals g hgm).ty
    unfold isVal at hv
    have ht2 : g.ty < 256 := by omega
    have i1 : decide ((ng : Int) ≤ (X : Int)) = false := decide_eq_false (by omega)
    have i2 : (X : Int) < (ng : Int) := by omega
    have HON := fun u => one_m (w := u) g.ty ht2
    obtain ⟨⟨s1, g1, ok1⟩, hp1⟩ : ∃ z, popS st p g.ty = z := ⟨_, rfl⟩
    have hz1 := popS_le hp1
    have HP1 := fun u => vpop_m (w := u) st p g.ty (by omega) ht2
    rw [hp1] at HP1
    unfold encP3 at HP1
    dsimp only at HP1
    rw [plain_glob (g := g) (by simp) (by rw [Int.toNat_natCast]; exact hg) (by omega) hp1] at hS
    obtain ⟨gty, gmu, ⟨gop, gx, gy⟩⟩ := g
    dsimp only at z0 z1 z2 z3 z4 ht2 HON HP1 hS hp1 hv
    rw [if_pos rfl, ← firstV_one ht2] at hS
    unfold Env189.fr fr189
    rw [hu1, hu14, hu15]
    have hT3 := tail3 (E := E) (b := oneB gty) (s1 := st) (ok := true) HRun.out HX.out hS (by rw [oneB_size]; omega) (fun _ => by rw [oneB_at ht2]; omega) (by omega)
    have hszz : (st ++ oneB gty).size = st.size + 1 := by rw [ByteArray.size_append, show (oneB gty).size = 1 from rfl]
    have hsl : ¬ 9223372036854775807 < st.size + (oneB gty).size := by rw [show (oneB gty).size = 1 from rfl]; omega
    by_cases hd : 10 < E.rest.length + (st.size + 1)
    · have HE : Hid (E.X.2 = (pc, 28)) := hT3.2.1 rfl hd
      have hdeep : (10 : Int) < (E.rest.length : Int) + ((st.size : Int) + 1) := by omega
      clear hT3 hd hS hv hp1 hxr hg hgm gcell hgv hnge
      conv => arg 2; whnf
      go_wp2_with fail
      try rw [hW]
      clear hW
      go_quiet (fail)
      go_wp2_with fail
      refine wp_gen ?_
      intro U hKU
      have HAU : Hid _ := HA.out.new hKU
      have u1 := kcellU hKU y1
      have u2 := kcellU hKU e0
      have u3 := kcellU hKU e7
      have v0 := kcellU hKU z0
      have v1 := kcellU hKU z1
      have v2 := kcellU hKU z2
      have v3 := kcellU hKU z3
      have v4 := kcellU hKU z4
      have m1 : wr.heap.size < U.heap.size := lt_of_cell u1
      have m2 : E.cb < U.heap.size := lt_of_cell u2
      have m3 : E.mb < U.heap.size := lt_of_cell u3
      have m4 : gk < U.heap.size := lt_of_cell v0
      have p1 : wr.heap.size ≠ U.heap.size := by omega
      have p2 : E.cb ≠ U.heap.size := by omega
      have p3 : E.mb ≠ U.heap.size := by omega
      have p4 : gk ≠ U.heap.size := by omega
      clear hKU y0 y1 e0 e7 z0 z1 z2 z3 z4
      go_region
      go_wp2_with fail
      refine (HON _).mono ?_
      rintro en w2 ⟨rfl, hk2⟩
      have HA2 : Hid _ := (HAU.out.new (((Kp.refl _ _).alloc _).drew)).new hk2
      clear hk2
      go_wp2_with fail
      refine (vfail_m HA2.out.ck 28 pc).mono ?_
      rintro en wV ⟨rfl, hCV, hKV⟩
      have HSV : Hid _ := HA2.out.err hKV hCV
      clear hCV hKV
      go_wp2
      exact home_err HH.out rfl rfl HSV.out (by decide) HE.out
    · have HR2 : Hid (E.run (pc + 1) (st ++ oneB gty) p) := hT3.2.2 rfl hd
      have hdeep : ¬ (10 : Int) < (E.rest.length : Int) + ((st.size : Int) + 1) := by omega
      have hlast : E.rest.length + (st.size + 1) ≤ 10 := by omega
      clear hT3 hd hS hv hp1 hxr hg hgm gcell hgv hnge
      conv => arg 2; whnf
      go_wp2_with fail
      try rw [hW]
      clear hW
      go_quiet (fail)
      go_wp2_with fail
      refine wp_gen ?_
      intro U hKU
      have HAU : Hid _ := HA.out.new hKU
      have u1 := kcellU hKU y1
      have u2 := kcellU hKU e0
      have u3 := kcellU hKU e7
      have v0 := kcellU hKU z0
      have v1 := kcellU hKU z1
      have v2 := kcellU hKU z2
      have v3 := kcellU hKU z3
      have v4 := kcellU hKU z4
      have m1 : wr.heap.size < U.heap.size := lt_of_cell u1
      have m2 : E.cb < U.heap.size := lt_of_cell u2
      have m3 : E.mb < U.heap.size := lt_of_cell u3
      have m4 : gk < U.heap.size := lt_of_cell v0
      have p1 : wr.heap.size ≠ U.heap.size := by omega
      have p2 : E.cb ≠ U.heap.size := by omega
      have p3 : E.mb ≠ U.heap.size := by omega
      have p4 : gk ≠ U.heap.size := by omega
      clear hKU y0 y1 e0 e7 z0 z1 z2 z3 z4
      go_region
      go_wp2_with fail
      refine (HON _).mono ?_
      rintro en w2 ⟨rfl, hk2⟩
      have HA2 : Hid _ := (HAU.out.new (((Kp.refl _ _).alloc _).drew)).new hk2
      clear hk2
      go_wp2
      exact HN.out _ _ (pc + 1) (st ++ oneB gty) p a (by kernel_rfl) rfl rfl rfl HA2.out (by omega) (by rw [hszz]; omega) HR2.out
  · rw [plain_glob0 (by simp) (by rw [Int.toNat_natCast]; exact List.getElem?_eq_none (by show E.m.globals.length ≤ X; omega))] at hS
    have i1 : decide ((ng : Int) ≤ (X : Int)) = true := decide_eq_true (by omega)
    unfold Env189.fr fr189
    rw [hu1, hu14, hu15]
    have HE : Hid (E.X.2 = (pc, 23)) := Env189.stop HRun.out HX.out (hS.trans (give_err (by decide)))
    clear hS hnge hgv
    conv => arg 2; whnf
    go_wp2_with fail
    try rw [hW]
    clear hW
    go_quiet (fail)
    go_wp2_with fail
    refine (vfail_m (HA.out.new ((Kp.refl _ _).drewM _)).ck 23 pc).mono ?_
    rintro en wV ⟨rfl, hCV, hKV⟩
    have HSV : Hid _ := (HA.out.new ((Kp.refl _ _).drewM _)).err hKV hCV
    clear hCV hKV
    go_wp2
    exact home_err HH.out rfl rfl HSV.out (by decide) HE.out
set_option maxHeartbeats 8000000 in
theorem c189_glob36 (ho : x.op = 36) : Case189 E pc st p x := by
  intro wr a c u Q hO hS hx hu1 hu14 hu15 hst hrun hN hNe hH
  obtain ⟨kb, nb, bc, hd⟩ := rd189 hO hS hx
  obtain ⟨c1, c4, f2, d0, d1, d2, hpn, ⟨hnb, hnbe⟩, hA, hX⟩ := hd
  have hlevp : ¬ ((E.lev : Int) ≤ 0) := by have := hO.lev.2; omega
  have HO : Hid _ := hO
  have HN : Hid (Next189 E pc c Q) := hN
  have HNe : Hid (Nerr189 E c Q) := hNe
  have HH : Hid (Home189 E pc Q) := hH
  have HA : Hid _ := hA
  have HX : Hid (E.fn.body[pc]? = some x) := hx
  have HRun : Hid (E.run pc st p) := hrun
  have HI : Hid _ := hX
  clear hO hN hNe hH hA hS hx hnbe hrun hX
  have HM : Hid _ := HA.out.mw
  have hng := HO.out.mod.ng
  have hxr := HI.out.x
  unfold u32R at hxr
  have hr10 := HO.out.rest
  have hS := step_plain (E := E) (pc := pc) (st := st) (p := p) (x := x) (by omega)
  obtain ⟨op, X0, Y1⟩ := x
  dsimp only at ho d0 d1 d2 hxr
  subst ho
  obtain ⟨X, rfl⟩ := Int.eq_ofNat_of_zero_le hxr.1
  obtain ⟨W, hW⟩ : ∃ W, wr.alloc (.cells #[.int .u8 36, .int .u32 (X : Int), .int .u64 Y1] 129) = W := ⟨_, rfl⟩
  have hC7 : C3 W wr.heap.size (.int .u8 36) (.int .u32 (X : Int)) (.int .u64 Y1) := by rw [← hW]; exact C3.new wr _ _ _ _
  have HC7 : Hid _ := hC7
  have y0 := hC7.c0
  have hcbl : E.cb < wr.heap.size := lt_of_cell c1
  have HA2 : Hid (E.sq (wr.alloc (.cells #[.int .u8 36, .int .u32 (X : Int), .int .u64 Y1] 129)) 0 a) := HA.out
  clear HA
  have HA : Hid _ := HA2.out
  rw [hW] at HA
  clear HA2
  have y1 := hC7.c1
  have e0 : W.cell? ⟨E.cb, 0, none⟩ = some (.pointer (some ⟨E.mb, 0, none⟩)) := HA.out.ck.c0
  obtain ⟨ga, gcp, hgv⟩ := HA.out.mw.slGl
  have e7 : W.cell? ⟨E.mb, 7, none⟩ = some E.m.vg := HA.out.mw.c7
  rw [hgv] at e7
  obtain ⟨ng, hnge⟩ : ∃ n, E.m.globals.length = n := ⟨_, rfl⟩
  have hng2 : ng ≤ 4 := by rw [← hnge]; exact hng
  rw [hnge] at e7
  have n1 := HC7.out.lt
  have n2 : E.cb < W.heap.size := lt_of_cell e0
  have n3 : E.mb < W.heap.size := lt_of_cell e7
  clear hC7 HM
  by_cases hX : X < ng
  · obtain ⟨g, hg⟩ : ∃ g, E.m.globals[X]? = some g := ⟨_, List.getElem?_eq_getElem (by omega)⟩
    obtain ⟨gk, gc2, gv2, gl1, gl2, gl3, gcell⟩ := HA.out.mw.atGl hg
    rw [hgv] at gv2
    simp at gv2
    obtain ⟨rfl, rfl⟩ := gv2
    have z0 : W.cell? ⟨gk, X * 5, none⟩ = some (.int .u8 (g.ty : Int)) := gcell 0 _ rfl
    have z1 : W.cell? ⟨gk, X * 5 + 1, none⟩ = some (.bool g.mu) := gcell 1 _ rfl
    have z2 : W.cell? ⟨gk, X * 5 + 2, none⟩ = some (.int .u8 (g.init.op : Int)) := gcell 2 _ rfl
    have z3 : W.cell? ⟨gk, X * 5 + 3, none⟩ = some (.int .u32 g.init.x) := gcell 3 _ rfl
    have z4 : W.cell? ⟨gk, X * 5 + 4, none⟩ = some (.int .u64 g.init.y) := gcell 4 _ rfl
    have hgm : g ∈ E.m.mod.globals := List.mem_of_getElem? hg
    have hv := (HO.out.mod.globals g hgm).ty
    unfold isVal at hv
    have ht2 : g.ty < 256 := by omega
    have i1 : decide ((ng : Int) ≤ (X : Int)) = false := decide_eq_false (by omega)
    have i2 : (X : Int) < (ng : Int) := by omega
    have HON := fun u => one_m (w := u) g.ty ht2
    obtain ⟨⟨s1, g1, ok1⟩, hp1⟩ : ∃ z, popS st p g.ty = z := ⟨_, rfl⟩
    have hz1 := popS_le hp1
    have HP1 := fun u => vpop_m (w := u) st p g.ty (by omega) ht2
    rw [hp1] at HP1
    unfold encP3 at HP1
    dsimp only at HP1
    rw [plain_glob (g := g) (by simp) (by rw [Int.toNat_natCast]; exact hg) (by omega) hp1] at hS
    obtain ⟨gty, gmu, ⟨gop, gx, gy⟩⟩ := g
    dsimp only at z0 z1 z2 z3 z4 ht2 HON HP1 hS hp1 hv
    rw [if_neg (by simp)] at hS
    unfold Env189.fr fr189
    rw [hu1, hu14, hu15]
    cases gmu with
    | false =>
      have HE : Hid (E.X.2 = (pc, 24)) := Env189.stop HRun.out HX.out (hS.trans (give_err (by decide)))
      clear hS hv hp1 hxr hg hgm gcell hgv hnge
      conv => arg 2; whnf
      go_wp2_with fail
      try rw [hW]
      clear hW
      go_quiet (fail)
      go_wp2_with fail
      refine wp_gen ?_
      intro U hKU
      have HAU : Hid _ := HA.out.new hKU
      have u1 := kcellU hKU y1
      have u2 := kcellU hKU e0
      have u3 := kcellU hKU e7
      have v0 := kcellU hKU z0
      have v1 := kcellU hKU z1
      have v2 := kcellU hKU z2
      have v3 := kcellU hKU z3
      have v4 := kcellU hKU z4
      have m1 : wr.heap.size < U.heap.size := lt_of_cell u1
      have m2 : E.cb < U.heap.size := lt_of_cell u2
      have m3 : E.mb < U.heap.size := lt_of_cell u3
      have m4 : gk < U.heap.size := lt_of_cell v0
      have p1 : wr.heap.size ≠ U.heap.size := by omega
      have p2 : E.cb ≠ U.heap.size := by omega
      have p3 : E.mb ≠ U.heap.size := by omega
      have p4 : gk ≠ U.heap.size := by omega
      clear hKU y0 y1 e0 e7 z0 z1 z2 z3 z4
      go_region
      go_wp2_with fail
      refine (vfail_m (HAU.out.new (((Kp.refl _ _).alloc _).drew)).ck 24 pc).mono ?_
      rintro en wV ⟨rfl, hCV, hKV⟩
      have HSV : Hid _ := (HAU.out.new (((Kp.refl _ _).alloc _).drew)).err hKV hCV
      clear hCV hKV
      go_wp2
      exact home_err HH.out rfl rfl HSV.out (by decide) HE.out
    | true =>
      cases ok1 with
      | false =>
        have HE : Hid (E.X.2 = (pc, 27)) := Env189.stop HRun.out HX.out ((hS).trans (give_err (by show (27 : Int) ≠ 0; decide)))
        clear hS hv hp1 hxr hg hgm gcell hgv hnge
        conv => arg 2; whnf
        go_wp2_with fail
        try rw [hW]
        clear hW
        go_quiet (fail)
        go_wp2_with fail
        refine wp_gen ?_
        intro U hKU
        have HAU : Hid _ := HA.out.new hKU
        have u1 := kcellU hKU y1
        have u2 := kcellU hKU e0
        have u3 := kcellU hKU e7
        have v0 := kcellU hKU z0
        have v1 := kcellU hKU z1
        have v2 := kcellU hKU z2
        have v3 := kcellU hKU z3
        have v4 := kcellU hKU z4
        have m1 : wr.heap.size < U.heap.size := lt_of_cell u1
        have m2 : E.cb < U.heap.size := lt_of_cell u2
        have m3 : E.mb < U.heap.size := lt_of_cell u3
        have m4 : gk < U.heap.size := lt_of_cell v0
        have p1 : wr.heap.size ≠ U.heap.size := by omega
        have p2 : E.cb ≠ U.heap.size := by omega
        have p3 : E.mb ≠ U.heap.size := by omega
        have p4 : gk ≠ U.heap.size := by omega
        clear hKU y0 y1 e0 e7 z0 z1 z2 z3 z4
        go_region
        go_wp2_with fail
        refine (HP1 _).mono ?_
        rintro en w2 ⟨rfl, rfl⟩
        go_wp2_with fail
        refine (vfail_m (HAU.out.new (((Kp.refl _ _).alloc _).drew)).ck 27 pc).mono ?_
        rintro en wV ⟨rfl, hCV, hKV⟩
        have HSV : Hid _ := (HAU.out.new (((Kp.refl _ _).alloc _).drew)).err hKV hCV
        clear hCV hKV
        go_wp2
        exact home_err HH.out rfl rfl HSV.out (by decide) HE.out
      | true =>
        have HR2 : Hid (E.run (pc + 1) s1 p) := Env189.next HRun.out HX.out ((hS).trans give_none)
        have hdeep : ¬ ((10 : Int) < (E.rest.length : Int) + (s1.size : Int)) := by omega
        have hsl : ¬ 9223372036854775807 < s1.size + 0 := by omega
        have hst2 : E.rest.length + s1.size ≤ 10 := by omega
        clear hS hv hp1 hxr hg hgm gcell hgv hnge
        conv => arg 2; whnf
        go_wp2_with fail
        try rw [hW]
        clear hW
        go_quiet (fail)
        go_wp2_with fail
        refine wp_gen ?_
        intro U hKU
        have HAU : Hid _ := HA.out.new hKU
        have u1 := kcellU hKU y1
        have u2 := kcellU hKU e0
        have u3 := kcellU hKU e7
        have v0 := kcellU hKU z0
        have v1 := kcellU hKU z1
        have v2 := kcellU hKU z2
        have v3 := kcellU hKU z3
        have v4 := kcellU hKU z4
        have m1 : wr.heap.size < U.heap.size := lt_of_cell u1
        have m2 : E.cb < U.heap.size := lt_of_cell u2
        have m3 : E.mb < U.heap.size := lt_of_cell u3
        have m4 : gk < U.heap.size := lt_of_cell v0
        have p1 : wr.heap.size ≠ U.heap.size := by omega
        have p2 : E.cb ≠ U.heap.size := by omega
        have p3 : E.mb ≠ U.heap.size := by omega
        have p4 : gk ≠ U.heap.size := by omega
        clear hKU y0 y1 e0 e7 z0 z1 z2 z3 z4
        go_region
        go_wp2_with fail
        refine (HP1 _).mono ?_
        rintro en w2 ⟨rfl, rfl⟩
        go_wp2
        exact HN.out _ _ (pc + 1) (s1 ++ ⟨#[]⟩) p a (by kernel_rfl) rfl rfl rfl (HAU.out.new (((Kp.refl _ _).alloc _).drew)) (by omega) (by rw [ba_nil]; exact hst2) (by rw [ba_nil]; exact HR2.out)
  · rw [plain_glob0 (by simp) (by rw [Int.toNat_natCast]; exact List.getElem?_eq_none (by show E.m.globals.length ≤ X; omega))] at hS
    have i1 : decide ((ng : Int) ≤ (X : Int)) = true := decide_eq_true (by omega)
    unfold Env189.fr fr189
    rw [hu1, hu14, hu15]
    have HE : Hid (E.X.2 = (pc, 23)) := Env189.stop HRun.out HX.out (hS.trans (give_err (by decide)))
    clear hS hnge hgv
    conv => arg 2; whnf
    go_wp2_with fail
    try rw [hW]
    clear hW
    go_quiet (fail)
    go_wp2_with fail
    refine (vfail_m (HA.out.new ((Kp.refl _ _).drewM _)).ck 23 pc).mono ?_
    rintro en wV ⟨rfl, hCV, hKV⟩
    have HSV : Hid _ := (HA.out.new ((Kp.refl _ _).drewM _)).err hKV hCV
    clear hCV hKV
    go_wp2
    exact home_err HH.out rfl rfl HSV.out (by decide) HE.out
end
end Go.Proofs.Qxb6500275aGreatDoor
