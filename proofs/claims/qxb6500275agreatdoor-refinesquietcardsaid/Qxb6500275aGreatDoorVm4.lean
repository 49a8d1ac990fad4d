import Derived.Test.Qxb6500275aGreatDoorVm3
set_option maxRecDepth 100000
set_option linter.unusedVariables false
set_option linter.unusedSimpArgs false
namespace Go.Proofs.Qxb6500275aGreatDoor
open Go Go.RowKit
/- a function of the module, where it lies -/
structure Fnr (w : World) (gf fo : Nat) (fn : Fn) (vb vt : Value) : Prop where
  c2 : w.cell? ⟨gf, fo + 2, none⟩ = some vb
  c3 : w.cell? ⟨gf, fo + 3, none⟩ = some vt
  bo : OR w 129 3 vb fn.body.length (insC fn.body)
  ta : OR w 127 1 vt fn.tabs.length (tabC fn.tabs)
def FnrB (gf : Nat) (vb vt : Value) (k : Nat) : Prop := k = gf ∨ vb.ownBlock = some k ∨ vt.ownBlock = some k
theorem Fnr.keep {w w' : World} {gf fo : Nat} {fn : Fn} {vb vt : Value} {P : Nat → Prop} (h : Fnr w gf fo fn vb vt) (hk : Kp P w w') (hp : ∀ k, FnrB gf vb vt k → ¬ P k) : Fnr w' gf fo fn vb vt := by
  have hlt : gf < w.heap.size := lt_of_cell h.c2
  have ec : ∀ o, w'.cell? ⟨gf, o, none⟩ = w.cell? ⟨gf, o, none⟩ := fun o => hk.cell (p := ⟨gf, o, none⟩) hlt (hp gf (.inl rfl))
  exact ⟨(ec _).trans h.c2, (ec _).trans h.c3, h.bo.keep hk (fun k e => hp k (.inr (.inl e))), h.ta.keep hk (fun k e => hp k (.inr (.inr e)))⟩
/- br_table, of the real's round -/
def tabX (fn : Fn) (pc : Nat) (v : VS) (x : Ins) : VO :=
  if (carryV v 127).2 = true then (if x.y < 1 ∨ (fn.tabs.length : Int) < x.y ∨ (fn.tabs.length : Int) - x.y < x.x then ((carryV v 127).1, some (pc, 11)) else
      if ((carryV v 127).1.ctl.length : Int) ≤ fn.tabs.getD (x.x.toNat + x.y.toNat - 1) 0 then ((carryV v 127).1, some (pc, 25)) else
      tableV (carryV v 127).1 pc fn.tabs (decide (labelV (carryV v 127).1 (fn.tabs.getD (x.x.toNat + x.y.toNat - 1) 0).toNat = 64)) x.y.toNat x.x.toNat)
   else ((carryV v 127).1, some (pc, 27))
theorem stepV_14 {M : Mod} {fn : Fn} {params : ByteArray} {pc : Nat} {v : VS} {x : Ins} (h : x.op = 14) : stepV M fn params pc v x = tabX fn pc v x := by
  unfold stepV tabX
  simp [h]
def TabP (r : VO) (pc : Nat) (v2 : VS) (ok : Bool) (er : Int) (a : Nat) : Prop :=
  (ok = false ∧ er = 0 ∧ ∃ u, r = (u, some (pc, 27))) ∨ (ok = true ∧ er ≠ 0 ∧ ∃ u, r = (u, some (a, er))) ∨ (ok = true ∧ er = 0 ∧ r = (v2, none))
/- how 'table' ends -/
def TbE (r : VO) (pc cb mb : Nat) (pf : Addr) (loc res : ByteArray) (v2 : VS) (w : World) (en : Ending) (w' : World) : Prop :=
  ∃ s2 ok er a, en = .returned (.tuple #[.string s2, .bool ok]) ∧ Ck w' cb mb pf loc res er a ∧ Kp (· = cb) w w' ∧ Hid (TabP r pc v2 ok er a)
theorem firstV_dec {b c : ByteArray} (hb : OneT b) (hc : OneT c) : (decide (firstV b = 64) ≠ decide (firstV c = 64)) ↔ b.size ≠ c.size := by
  have h1 := firstV_64 hb
  have h2 := firstV_64 hc
  have := hb.1
  have := hc.1
  by_cases e1 : b.size = 0
  · by_cases e2 : c.size = 0
    · simp [h1.2 e1, h2.2 e2, e1, e2]
    · have : firstV c ≠ 64 := fun h => e2 (h2.1 h)
      simp [h1.2 e1, this, e1]
      omega
  · have hn : firstV b ≠ 64 := fun h => e1 (h1.1 h)
    by_cases e2 : c.size = 0
    · simp [h2.2 e2, hn, e2]
      exact fun h => e1 (by rw [h]; rfl)
    · have : firstV c ≠ 64 := fun h => e2 (h2.1 h)
      have e3 : b.size = c.size := by omega
      simp [hn, this, e3]
section
variable {w : World} {cb mb gf fo pc : Nat} {loc res : ByteArray} {a : Nat} {fn : Fn} {vb vt lv : Value} {labs : List ByteArray} {o t : Nat} {st : ByteArray} {p : Bool} {rest : List Nat} {r : List VF} {x : Ins}
theorem tabCell {w : World} {vt : Value} {l : List Int} (h : OR w 127 1 vt l.length (tabC l)) {i : Nat} {z : Int} (hi : l[i]? = some z) : ∃ g cap, vt = .slice (some ⟨g, 0, none⟩) l.length cap ∧ g < w.heap.size ∧ w.cell? ⟨g, i, none⟩ = some (.int .u32 z) := by
  have hlt := (List.getElem?_eq_some_iff.1 hi).1
  obtain ⟨g, cap, h1, h2, h3, h4, h5, _⟩ := h.ptr (by omega)
  refine ⟨g, cap, h1, h2, h5 _ _ ?_⟩
  unfold tabC
  rw [List.getElem?_map, hi]
  rfl
theorem labCell {w : World} {v : Value} {l : List ByteArray} (h : Lb w v l) {i : Nat} {z : ByteArray} (hi : l[i]? = some z) : ∃ g cap, v = .slice (some ⟨g, 0, none⟩) l.length cap ∧ g < w.heap.size ∧ w.cell? ⟨g, i, none⟩ = some (.string z) := by
  have hlt := (List.getElem?_eq_some_iff.1 hi).1
  obtain ⟨g, cap, h1, h2, h3, h4, h5, _⟩ := OR.ptr h (by omega)
  refine ⟨g, cap, h1, h2, h5 _ _ ?_⟩
  rw [List.getElem?_map, hi]
  rfl
set_option maxHeartbeats 8000000 in
theorem table_m (hC : Ck w cb mb ⟨gf, fo, none⟩ loc res 0 a) (hF : Fnr w gf fo fn vb vt) (hFc : ∀ k, FnrB gf vb vt k → k ≠ cb) (hL : Lb w lv labs) (hLc : ∀ k, lv.ownBlock = some k → k ≠ cb) (hR : LabR labs ((⟨o, t, rest.length, p⟩ : VF) :: r)) (hl8 : labs.length ≤ 8) (hst : st.size ≤ 100) (hx : u32R x.x) (hy : u64R x.y) (hxo : x.op < 256) (htl : fn.tabs.length ≤ 24) (htr : ∀ z, z ∈ fn.tabs → u32R z) :
    Calls Tryz.prog 254 #[.pointer (some ⟨cb, 0, none⟩), Ins.val x, .int .i64 (pc : Int), lv, .string st, .bool p] w (TbE (tabX fn pc (mkV o t st p rest r) x) pc cb mb ⟨gf, fo, none⟩ loc res (mkV o t ByteArray.empty true rest r) w) := by
  obtain ⟨X, hX⟩ : ∃ X, tabX fn pc (mkV o t st p rest r) x = X := ⟨_, rfl⟩
  rw [hX]
  unfold u32R at hx
  unfold u64R at hy
  obtain ⟨xn, hxn⟩ : ∃ n : Nat, x.x = n := ⟨x.x.toNat, by omega⟩
  obtain ⟨yn, hyn⟩ : ∃ n : Nat, x.y = n := ⟨x.y.toNat, by omega⟩
  have hxb : xn < 4294967296 := by omega
  have hyb : yn < 18446744073709551616 := by omega
  unfold tabX at hX
  rw [carryV_mk (by decide), hxn, hyn] at hX
  dsimp only at hX
  have HX : Hid _ := hX
  have HP := vpop_m (w := w.alloc (.cells #[.int .u8 (x.op : Int), .int .u32 (xn : Int), .int .u64 (yn : Int)] 129)) st p 127 hst (by decide)
  obtain ⟨ps, hps⟩ : ∃ ps, popS st p 127 = ps := ⟨_, rfl⟩
  have hpsz : ps.1.size ≤ 100 := by rw [← hps]; exact Nat.le_trans (popS_size _ _ _) hst
  rw [hps] at HP HX
  obtain ⟨nt, hnt⟩ : ∃ n, fn.tabs.length = n := ⟨_, rfl⟩
  obtain ⟨nl, hnl⟩ : ∃ n, labs.length = n := ⟨_, rfl⟩
  obtain ⟨W, hW⟩ : ∃ W, w.alloc (.cells #[.int .u8 (x.op : Int), .int .u32 (xn : Int), .int .u64 (yn : Int)] 129) = W := ⟨_, rfl⟩
  have hKW : Kp (fun _ => False) w W := by rw [← hW]; exact (Kp.refl _ _).alloc _
  have H7 : C3 W w.heap.size (.int .u8 (x.op : Int)) (.int .u32 (xn : Int)) (.int .u64 (yn : Int)) := by rw [← hW]; exact C3.new w _ _ _ _
  have hCW := hC.keep hKW (fun h => h)
  have hFW := hF.keep hKW (fun _ _ h => h)
  have hLW : Lb W lv labs := OR.keep hL hKW (fun _ _ h => h)
  obtain ⟨ta, tc, htv⟩ := hFW.ta.slice
  obtain ⟨la, lc, hlv⟩ := OR.slice hLW
  have d1 := hCW.c1
  have e3 := hFW.c3
  rw [hnt] at htv
  rw [hnl] at hlv
  rw [htv] at e3
  have hcbl : cb < w.heap.size := lt_of_cell hC.c0
  have HCW : Hid _ := hCW
  have HFW : Hid _ := hFW
  have HLW : Hid (Lb W lv labs) := hLW
  have HKW : Hid _ := hKW
  have HTV : Hid _ := htv
  have HLV : Hid _ := hlv
  have HNT : Hid _ := hnt
  have HNL : Hid _ := hnl
  have HRL : Hid _ := hR
  have HTR : Hid (∀ z, z ∈ fn.tabs → u32R z) := htr
  have HFC : Hid (∀ k, FnrB gf vb vt k → k ≠ cb) := hFc
  have HLC : Hid (∀ k, lv.ownBlock = some k → k ≠ cb) := hLc
  have hctl : nl = r.length + 1 := by rw [← hnl, hR.len]; rfl
  have HCT : Hid _ := hctl
  rw [hnt] at htl
  rw [hnl] at hl8
  unfold Ins.val
  rw [hxn, hyn, hlv]
  obtain ⟨y0, y1, y2, z0, z1, z2⟩ := H7
  rw [hW] at HP
  clear hX hps hnt hnl hC hF hL hR htr hFc hLc hCW hFW hLW hKW htv hlv hctl hxn hyn
  go_enter Tryz.func254, Tryz.ntmps254
  go_wp2_with fail
  clear hW
  refine HP.mono ?_
  rintro en w2 ⟨rfl, rfl⟩
  obtain ⟨s1, got, ok⟩ := ps
  unfold encP3
  dsimp only at hpsz
  cases ok with
  | false =>
    have HE : Hid (TabP X pc (mkV o t ByteArray.empty true rest r) false 0 a) := .inl ⟨rfl, rfl, _, (by have := HX.out; simp at this; exact this.symm)⟩
    clear HX
    go_wp2
    go_ret2
    exact ⟨s1, false, 0, a, rfl, HCW.out, HKW.out.mono (fun _ h => h.elim), HE.out⟩
  | true =>
    have hX2 := HX.out
    dsimp only at hX2
    rw [if_pos rfl] at hX2
    have HX2 : Hid _ := hX2
    have HF11 := fun n => vfail_m (HCW.out.keep ((Kp.refl (fun _ => False) w2).drewM n) (fun h => h)) 11 pc
    by_cases hbd : (yn : Int) < 1 ∨ (fn.tabs.length : Int) < (yn : Int) ∨ (fn.tabs.length : Int) - (yn : Int) < (xn : Int)
    · have HE : Hid (TabP X pc (mkV o t ByteArray.empty true rest r) true 11 pc) := .inr (.inl ⟨rfl, by decide, _, (by rw [← hX2, if_pos hbd])⟩)
      rw [HNT.out] at hbd
      clear HX HX2 hX2
      by_cases b1 : (yn : Int) < 1
      · have g1 : decide ((yn : Int) < 1) = true := by simp; omega
        have g4 : decide (yn < 1) = true := by simp; omega
        clear hbd
        go_wp2_with fail
        go_quiet (fail)
        go_wp2_with fail
        refine (HF11 _).mono ?_
        rintro en w3 ⟨rfl, hC3, hK3⟩
        go_wp2
        go_ret2
        exact ⟨s1, true, 11, pc, rfl, hC3, ((HKW.out.mono (fun _ h => h.elim)).drewM _).trans hK3, HE.out⟩
      have g1 : decide ((yn : Int) < 1) = false := by simp; omega
      have g4 : decide (yn < 1) = false := by simp; omega
      by_cases b2 : (nt : Int) < (yn : Int)
      · have g2 : decide ((nt : Int) < (yn : Int)) = true := by simp; omega
        have g5 : decide (nt < yn) = true := by simp; omega
        clear hbd
        go_wp2_with fail
        go_quiet (fail)
        go_wp2_with fail
        refine (HF11 _).mono ?_
        rintro en w3 ⟨rfl, hC3, hK3⟩
        go_wp2
        go_ret2
        exact ⟨s1, true, 11, pc, rfl, hC3, ((HKW.out.mono (fun _ h => h.elim)).drewM _).trans hK3, HE.out⟩
      have g2 : decide ((nt : Int) < (yn : Int)) = false := by simp; omega
      have g5 : decide (nt < yn) = false := by simp; omega
      have g3 : decide ((nt : Int) - (yn : Int) < (xn : Int)) = true := by simp; omega
      clear hbd
      go_wp2_with fail
      go_quiet (fail)
      go_wp2_with fail
      refine (HF11 _).mono ?_
      rintro en w3 ⟨rfl, hC3, hK3⟩
      go_wp2
      go_ret2
      exact ⟨s1, true, 11, pc, rfl, hC3, ((HKW.out.mono (fun _ h => h.elim)).drewM _).trans hK3, HE.out⟩
    · have hbd' := hbd
      rw [HNT.out] at hbd
      have hyn1 : 1 ≤ yn := by omega
      have hyn2 : yn ≤ nt := by omega
      have hxy : xn + yn ≤ nt := by omega
      rw [if_neg hbd'] at hX2
      have hX3 : Hid _ := hX2
      clear HX HX2 hX2 hbd' HF11
      have g1 : decide ((yn : Int) < 1) = false := by simp; omega
      have g2 : decide ((nt : Int) < (yn : Int)) = false := by simp; omega
      have g3 : decide ((nt : Int) - (yn : Int) < (xn : Int)) = false := by simp; omega
      have g4 : decide (yn < 1) = false := by simp; omega
      have g5 : decide (nt < yn) = false := by simp; omega
      obtain ⟨zd, hzd⟩ : ∃ z, fn.tabs[xn + yn - 1]? = some z := ⟨_, List.getElem?_eq_getElem (by rw [HNT.out]; omega)⟩
      obtain ⟨tg, tcap, htv2, _, tdc⟩ := tabCell HFW.out.ta hzd
      have hzr := HTR.out zd (List.mem_of_getElem? hzd)
      unfold u32R at hzr
      obtain ⟨dn, hdn⟩ : ∃ n : Nat, zd = n := ⟨zd.toNat, by omega⟩
      subst hdn
      have hee := HTV.out.symm.trans htv2
      rw [HNT.out] at hee
      simp at hee
      obtain ⟨hta, htc⟩ := hee
      subst hta htc
      have hgd : fn.tabs.getD (xn + yn - 1) 0 = (dn : Int) := by rw [List.getD_eq_getElem?_getD, hzd]; rfl
      have hX4 := hX3.out
      simp only [Int.toNat_natCast] at hX4
      simp only [hgd, Int.toNat_natCast] at hX4
      have HX4 : Hid _ := hX4
      obtain ⟨i0, hi0⟩ : ∃ i0, xn + yn - 1 = i0 := ⟨_, rfl⟩
      rw [hi0] at tdc
      have hi0i : (xn : Int) + (yn : Int) - 1 = (i0 : Int) := by omega
      have hi0n : (i0 : Int) < (nt : Int) := by omega
      have hi0n2 : i0 < nt := by omega
      have HF25 := fun n => vfail_m (HCW.out.keep ((Kp.refl (fun _ => False) w2).drewM n) (fun h => h)) 25 pc
      have HI0 : Hid _ := hi0
      clear hX4 hX3 hgd htv2 hzd hi0
      by_cases hdl : (nl : Int) ≤ (dn : Int)
      · have HE : Hid (TabP X pc (mkV o t ByteArray.empty true rest r) true 25 pc) := .inr (.inl ⟨rfl, by decide, _, (by rw [← HX4.out, if_pos (by have := HCT.out; show ((r.length + 1 : Nat) : Int) ≤ (dn : Int); omega)])⟩)
        clear hbd
        go_wp2_with fail
        go_quiet (fail)
        go_wp2_with fail
        refine (HF25 _).mono ?_
        rintro en w3 ⟨rfl, hC3, hK3⟩
        go_wp2
        go_ret2
        exact ⟨s1, true, 25, pc, rfl, hC3, ((HKW.out.mono (fun _ h => h.elim)).drewM _).trans hK3, HE.out⟩
      · obtain ⟨bd, hbd1, hbd2, hbd3⟩ := HRL.out.get (i := dn) (by have := HCT.out; show dn < r.length + 1; omega)
        rw [HNL.out] at hbd1
        obtain ⟨lg, lcap, hlv2, _, ldc⟩ := labCell HLW.out hbd1
        have hle := HLV.out.symm.trans hlv2
        rw [HNL.out] at hle
        simp at hle
        obtain ⟨hla, hlc⟩ := hle
        subst hla hlc
        have HX5 : Hid (tableV (mkV o t s1 p rest r) pc fn.tabs (decide (firstV bd = 64)) (yn - 0) (xn + 0) = X) := by
          have := HX4.out
          rw [if_neg (by have := HCT.out; show ¬ ((r.length + 1 : Nat) : Int) ≤ (dn : Int); omega)] at this
          have e2 : labelV (mkV o t s1 p rest r) dn = firstV bd := hbd2
          simp only [e2] at this
          exact this
        obtain ⟨j0, hj0⟩ : ∃ j0, nl - 1 - dn = j0 := ⟨_, rfl⟩
        rw [hj0] at ldc
        have hj0i : (nl : Int) - 1 - (dn : Int) = (j0 : Int) := by omega
        have hj0n : (j0 : Int) < (nl : Int) := by omega
        have hj0n2 : j0 < nl := by omega
        have HBD : Hid (OneT bd) := hbd3
        have hbs : bd.size ≤ 1 := hbd3.1
        clear hbd HX4 hbd1 hbd2 hbd3 hlv2 hj0 HF25
        go_wp2_with fail
        go_quiet (fail)
        go_wp2
        have hdd : decide (nl ≤ dn) = false := by simp; omega
        have hddi : decide ((nl : Int) ≤ (dn : Int)) = false := by simp; omega
        try simp only [hdd]
        try simp only [hddi]
        clear tdc ldc g1 g2 g3 g4 g5 hdd hddi
        go_loopw [20] (fun ii w4 => ∃ (i k : Nat), i ≤ yn ∧ ii = .int .i64 (i : Int) ∧ w4 = w2.drewN k ∧ Hid (tableV (mkV o t s1 p rest r) pc fn.tabs (decide (firstV bd = 64)) (yn - i) (xn + i) = X)) (fun ii _ => yn - (intOf ii).toNat)
        case atStart => exact ⟨0, _, by omega, rfl, rfl, HX5.out⟩
        case round =>
          obtain ⟨i, k, hi, rfl, hwr, hT⟩ := hrel
          subst hwr
          have hKd : Kp (fun _ => False) w2 (w2.drewN k) := (Kp.refl _ _).drewM _
          clear HX5
          by_cases hlt : i < yn
          · have hlti : (i : Int) < (yn : Int) := by omega
            obtain ⟨zl, hzl⟩ : ∃ z, fn.tabs[xn + i]? = some z := ⟨_, List.getElem?_eq_getElem (by rw [HNT.out]; omega)⟩
            obtain ⟨tg2, tcap2, htv2, _, tlc⟩ := tabCell HFW.out.ta hzl
            have hee := HTV.out.symm.trans htv2
            rw [HNT.out] at hee
            simp at hee
            obtain ⟨hta, htcc⟩ := hee
            subst hta
            clear htcc
            have hzr := HTR.out zl (List.mem_of_getElem? hzl)
            unfold u32R at hzr
            obtain ⟨ln, hln⟩ : ∃ n : Nat, zl = n := ⟨zl.toNat, by omega⟩
            subst hln
            have hgd : fn.tabs.getD (xn + i) 0 = (ln : Int) := by rw [List.getD_eq_getElem?_getD, hzl]; rfl
            have hT2 := hT.out
            rw [show yn - i = yn - (i + 1) + 1 by omega, tableV] at hT2
            simp only [hgd, Int.toNat_natCast] at hT2
            have HT2 : Hid _ := hT2
            obtain ⟨i1, hi1⟩ : ∃ i1, xn + i = i1 := ⟨_, rfl⟩
            rw [hi1] at tlc
            have hi1i : (xn : Int) + (i : Int) = (i1 : Int) := by omega
            have hi1n : (i1 : Int) < (nt : Int) := by omega
            have hi1n2 : i1 < nt := by omega
            have hCd := HCW.out.keep hKd (fun h => h)
            have d1k := hCd.c1
            have e3k := (HFW.out.keep hKd (fun _ _ h => h)).c3
            rw [HTV.out] at e3k
            have HF25 := vfail_m hCd 25 pc
            have HI1 : Hid _ := hi1
            clear hT hT2 hgd htv2 hzl hCd hi1
            by_cases hll : (nl : Int) ≤ (ln : Int)
            · have HE : Hid (TabP X pc (mkV o t ByteArray.empty true rest r) true 25 pc) := .inr (.inl ⟨rfl, by decide, _, (by rw [← HT2.out, if_pos (by have := HCT.out; show ((r.length + 1 : Nat) : Int) ≤ (ln : Int); omega)])⟩)
              clear HT2
              go_wp2_with fail
              refine HF25.mono ?_
              rintro en w3 ⟨rfl, hC3, hK3⟩
              go_wp2
              go_ret2
              exact ⟨s1, true, 25, pc, rfl, hC3, ((HKW.out.mono (fun _ h => h.elim)).drewM _).trans hK3, HE.out⟩
            · obtain ⟨bl, hbl1, hbl2, hbl3⟩ := HRL.out.get (i := ln) (by have := HCT.out; show ln < r.length + 1; omega)
              rw [HNL.out] at hbl1
              obtain ⟨lg2, lcap2, hlv2, _, llc⟩ := labCell HLW.out hbl1
              have hle := HLV.out.symm.trans hlv2
              rw [HNL.out] at hle
              simp at hle
              obtain ⟨hla, hlcc⟩ := hle
              subst hla
              clear hlcc
              have hT3 := HT2.out
              rw [if_neg (by have := HCT.out; show ¬ ((r.length + 1 : Nat) : Int) ≤ (ln : Int); omega)] at hT3
              have e2 : labelV (mkV o t s1 p rest r) ln = firstV bl := hbl2
              simp only [e2] at hT3
              have HT3 : Hid _ := hT3
              obtain ⟨j1, hj1⟩ : ∃ j1, nl - 1 - ln = j1 := ⟨_, rfl⟩
              rw [hj1] at llc
              have hj1i : (nl : Int) - 1 - (ln : Int) = (j1 : Int) := by omega
              have hj1n : (j1 : Int) < (nl : Int) := by omega
              have hj1n2 : j1 < nl := by omega
              have HBL : Hid (OneT bl) := hbl3
              have hbls : bl.size ≤ 1 := hbl3.1
              have HFin : Hid (Ck (w2.drewN k) cb mb ⟨gf, fo, none⟩ loc res 0 a ∧ Kp (· = cb) w (w2.drewN k)) := ⟨HCW.out.keep hKd (fun h => h), (HKW.out.mono (fun _ h => h.elim)).drewM _⟩
              clear hbl1 hbl2 hbl3 hlv2 hj1 hT3 HT2 hKd HF25 hll
              by_cases hsz : bl.size = bd.size
              · have hszb : ((bl.size : Int) == (bd.size : Int)) = true := by rw [beq_iff_eq]; omega
                have hszb2 : ((bl.size : Int) != (bd.size : Int)) = false := by simp [bne, hszb]
                have hT4 := HT3.out
                rw [if_neg (by rw [firstV_dec HBL.out HBD.out]; exact fun h => h hsz), fits_text HBL.out] at hT4
                have HT4 : Hid _ := hT4
                have HPs := vpops_m (w := w2.drewN k) s1 p bl hpsz (by omega)
                obtain ⟨pq, hpq⟩ : ∃ pq, popsS p (argsV bl) s1 = pq := ⟨_, rfl⟩
                rw [hpq] at HPs HT4
                clear hT4 HT3 hsz hpq
                obtain ⟨s3, ok3⟩ := pq
                go_wp2_with fail
                refine HPs.mono ?_
                rintro en w5 ⟨rfl, rfl⟩
                unfold encP2
                cases ok3 with
                | true =>
                  have hT5 := HT4.out
                  rw [if_pos (by trivial)] at hT5
                  have HT5 : Hid _ := hT5
                  clear hT5 HT4 hi1i hj1i hszb hszb2 hi0i hj0i llc tlc d1k e3k
                  go_wp2
                  exact ⟨⟨i + 1, k, by omega, by go_num, by trivial, HT5.out⟩, by simp [intOf]; omega⟩
                | false =>
                  have HE : Hid (TabP X pc (mkV o t ByteArray.empty true rest r) false 0 a) := .inl ⟨rfl, rfl, _, (by have := HT4.out; simp at this; exact this.symm)⟩
                  clear HT4
                  go_wp2
                  go_ret2
                  exact ⟨s1, false, 0, a, rfl, HFin.out.1, HFin.out.2, HE.out⟩
              · have hszb : ((bl.size : Int) == (bd.size : Int)) = false := by rw [beq_eq_false_iff_ne]; omega
                have hszb2 : ((bl.size : Int) != (bd.size : Int)) = true := by simp [bne, hszb]
                have HE : Hid (TabP X pc (mkV o t ByteArray.empty true rest r) false 0 a) := .inl ⟨rfl, rfl, _, (by rw [← HT3.out, if_pos ((firstV_dec HBL.out HBD.out).2 hsz)])⟩
                clear HT3 hsz
                go_wp2
                go_ret2
                exact ⟨s1, false, 0, a, rfl, HFin.out.1, HFin.out.2, HE.out⟩
          · have hlti : ¬ (i : Int) < (yn : Int) := by omega
            have hT2 := hT.out
            rw [show yn - i = 0 by omega, tableV, cut_mk] at hT2
            have HE : Hid (TabP X pc (mkV o t ByteArray.empty true rest r) true 0 a) := .inr (.inr ⟨rfl, rfl, hT2.symm⟩)
            have HFin : Hid (Ck (w2.drewN k) cb mb ⟨gf, fo, none⟩ loc res 0 a ∧ Kp (· = cb) w (w2.drewN k)) := ⟨HCW.out.keep hKd (fun h => h), (HKW.out.mono (fun _ h => h.elim)).drewM _⟩
            clear hT hT2 hKd
            go_wp2
            go_ret2
            exact ⟨s1, true, 0, a, rfl, HFin.out.1, HFin.out.2, HE.out⟩
end
end Go.Proofs.Qxb6500275aGreatDoor
