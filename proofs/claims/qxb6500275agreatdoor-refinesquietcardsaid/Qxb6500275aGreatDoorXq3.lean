import Derived.Test.Qxb6500275aGreatDoorXq2
import Derived.Test.Qxb6500275aGreatDoorXoy
import Derived.Test.Qxb6500275aGreatDoorXmf
import Derived.Deep.LoopGhost
set_option maxRecDepth 100000
set_option linter.unusedVariables false
set_option linter.unusedSimpArgs false
namespace Go.Proofs.Qxb6500275aGreatDoor
open Go Go.RowKit
/- how a run ends -/
def RunP (w : World) (N : EN) (M : Mod) (t : Ty) (R : Nat × Xe) (va : Value) (en : Ending) (w' : World) : Prop :=
  ∃ N' vo, en = .returned (.tuple #[vo, .int .i64 (R.1 : Int), .int .i64 (R.2.e : Int)]) ∧ Em w' N' R.1 R.2.S R.2.H ∧ (N'.fs = [] ∧ N'.vf = .slice none 0 0 ∧ N'.xb = N.xb ∧ N'.sb = N.sb ∧ N'.hb = N.hb ∧ N'.mb = N.mb ∧ N'.m = N.m) ∧ Gw w w' (fun k => N.all k ∨ va.ownBlock = some k) N'.all ∧ GlOk M R.2.S ∧
    ((R.2.e ≠ 0 ∧ vo = .slice none 0 0) ∨ (R.2.e = 0 ∧ ∃ vs, OR w' 229 2 vo vs.length (valC vs) ∧ vs.map MV.t = resL t ∧ bitsM vs = R.2.out ∧ ∀ v, v ∈ vs → VOk v))
section
variable {w : World} {N : EN} {n : Nat} {S : Sm} {H : Hm} {va : Option Addr} {vn vc : Nat} {vs : List MV} {C : XC} {t : Ty} {f : Nat} {R : Nat × Xe}
theorem resL_len (h : t.q.size ≤ 1) : (resL t).length = t.q.size := by
  unfold resL
  split
  · simp [*]
  · simp; omega
theorem resL_at (h : t.q.size ≤ 1) {i : Nat} (hi : i < t.q.size) : (resL t)[i]? = some (bAt t.q i) := by
  unfold resL
  have : i = 0 := by omega
  subst this
  rw [if_neg (by omega)]
  rfl
set_option maxHeartbeats 16000000 in
theorem run_pos (h : Em w N n S H) (hf : N.fs = []) (hv : N.vf = .slice none 0 0) (hCM : C.M = N.m.mod) (hnum : C.num = numI) (hK : CodeOk C) (hA : AllF C) (hTy : ∀ j : Nat, j < C.M.imports.length + C.M.funcs.length → ∃ t, C.M.typeOf (j : Int) = some t) (hty : C.M.typeOf (f : Int) = some t) (hvt : vs.map MV.t = tysB t.p) (hvok : ∀ v, v ∈ vs → VOk v) (hE : Env C (bitsM vs) S H) (hgl : GlOk C.M S) {F : Nat} (hF : F < 9223372036854775808) (hR : RunR C F f (bitsM vs) S H R) (hO : OR w 229 2 (.slice va vn vc) vs.length (valC vs)) (hd : ∀ k, (Value.slice va vn vc).ownBlock = some k → ¬ N.all k) :
    Calls Tryz.prog 138 #[.pointer (some ⟨N.xb, 0, none⟩), .int .i64 (f : Int), .slice va vn vc, .int .i64 (F : Int)] w (RunP w N C.M t R (.slice va vn vc)) := by
  have hM : ModOk N.m.mod := hCM ▸ hK.mod
  obtain ⟨p0, j0, m, hcall, hit, hrd⟩ := run_bothB hK hA (by rw [hnum]; exact numI_x w) ld_ok hTy hty hvt hvok hE hgl hR
  rw [hnum] at hit
  have hty2 := hty
  rw [hCM] at hcall hit hty2
  have hT := typeOf_ok hM hty2
  have hfr := typeOf_range hty2
  have hni := hM.ni
  have hnf := hM.nf
  have hf1000 : f < 1000 := by omega
  have hvl : vs.length ≤ 10 := by
    have h1 := congrArg List.length hvt
    rw [tysB_len, List.length_map] at h1
    have := hT.np
    omega
  have HT : Hid (∀ U, Mw U N.mb N.m → Calls Tryz.prog 85 #[.pointer (some ⟨N.mb, 0, none⟩), .int .i64 (f : Int)] U (fun en w' => en = .returned (.tuple #[.string t.text, .bool true]) ∧ Kp (fun _ => False) U w')) := fun U hU => by
    have := typeOf_m hU hM (f : Int) (by omega)
    rw [hty2] at this
    exact this.mono (fun en w' ⟨h1, k, h2⟩ => ⟨h1, by rw [h2]; exact (Kp.refl _ _).drewM k⟩)
  have HSp := fun u => split_kp t hT.p hT.np hT.nq u
  -- ahead of the root
  have eN : ({ N with vf := .slice none 0 0, fs := [] } : EN) = N := by cases N; dsimp only at hf hv; subst hf hv; rfl
  obtain ⟨a1, b1⟩ := h.setFuel F
  obtain ⟨a2, b2⟩ := a1.dropAll
  rw [eN] at a2 b2
  obtain ⟨w2, hw2⟩ : ∃ w2, (w.setCell ⟨N.xb, 4, none⟩ (.int .i64 (F : Int))).setCell ⟨N.xb, 3, none⟩ (.slice none 0 0) = w2 := ⟨_, rfl⟩
  have hk02 : Kp (fun k => k = N.xb) w w2 := by rw [← hw2]; exact (kp_set1 (P := fun k => k = N.xb) w _ rfl).trans (kp_set1 (P := fun k => k = N.xb) _ _ rfl)
  replace a2 : Em w2 N F S H := by rw [← hw2]; exact a2
  have b12 : Gw w w2 N.all N.all := by rw [← hw2]; exact b1.trans b2
  have hO2 := hO.keep hk02 (fun k e e2 => hd k e ⟨0, e2⟩)
  obtain ⟨W, hW⟩ : ∃ W, w2.alloc (.cells #[.int .i64 (-1), .int .i64 0, .slice none 0 0, .slice va vn vc, .slice none 0 0] 301) = W := ⟨_, rfl⟩
  have hkW : Kp (fun _ => False) w2 W := by rw [← hW]; exact (Kp.refl _ _).alloc _
  have hkD : Kp (fun _ => False) w2 W.drew := hkW.drew
  obtain ⟨v', w6, rr1, ⟨ra, rn, rc, hvo⟩, ⟨rr2, rr3⟩, hE7, hG7⟩ := (a2.quiet hkD).pushRoot hf hv (hO2.keep hkD (fun _ _ h => h)) hd
  subst hvo
  obtain ⟨w7, hw7⟩ : ∃ w7, w6.setCell ⟨N.xb, 3, none⟩ (.slice ra rn rc) = w7 := ⟨_, rfl⟩
  rw [hw7] at hE7 hG7
  have HG7 : Hid (Gw w w7 (fun k => N.all k ∨ (Value.slice va vn vc).ownBlock = some k) ({ N with vf := .slice ra rn rc, fs := [(rootM vs, ⟨.slice none 0 0, .slice va vn vc, .slice none 0 0⟩)] } : EN).all) := by
    refine ⟨(b12.kp.mono (fun k e => .inl e)).trans ((hkD.mono (fun _ h => h.elim)).trans hG7.kp), fun k hk => ?_⟩
    rcases hG7.own k hk with e | e
    · exact .inl e
    · exact .inr (Nat.le_trans hk02.size (Nat.le_trans hkD.size e))
  obtain ⟨N1, hN1⟩ : ∃ N1, ({ N with vf := .slice ra rn rc, fs := [(rootM vs, ⟨.slice none 0 0, .slice va vn vc, .slice none 0 0⟩)] } : EN) = N1 := ⟨_, rfl⟩
  have n1x : N1.xb = N.xb := by rw [← hN1]
  have n1s : N1.sb = N.sb := by rw [← hN1]
  have n1h : N1.hb = N.hb := by rw [← hN1]
  have n1m : N1.mb = N.mb := by rw [← hN1]
  have n1M : N1.m = N.m := by rw [← hN1]
  have n1f : N1.fs.map (·.1) = [rootM vs] := by rw [← hN1]; rfl
  rw [hN1] at hE7 HG7
  obtain ⟨g0, cap0, q00, x0', hEw⟩ := Ew.start (fuel := 0) (q := ⟨[rootM vs], F, S, H⟩) hE7 (by rw [n1f]; rfl) (by simp)
  have hx0 := hEw.fr
  simp only [List.cons.injEq] at hx0
  have hq00 : q00.length = 0 := by have := congrArg List.length hx0.2; simpa using this.symm
  have HC : Hid (Calls Tryz.prog 198 #[.pointer (some ⟨N.xb, 0, none⟩), .int .i64 (f : Int)] w7 (Ez w7 N1 (p0.1 : Int) p0.2)) := by
    have := call_w hEw (by rw [n1M]; exact hM) (by rw [← hx0.1]; exact root_FB hvl hvok) (by omega) hE.sm hE.hm (by rw [n1M, ← hCM]; exact hE.bd) hf1000 (e := p0.1) (q' := p0.2) (by rw [n1M]; exact hcall)
    rw [n1x] at this
    exact this
  have HP0 : Hid (p0.2.fr ≠ [] ∧ p0.2.fuel ≤ F) := ⟨callM_ne (e := p0.1) hcall, Nat.le_of_eq (callM_fu (e := p0.1) hcall)⟩
  have HIT : Hid (itB numI N.m.mod j0 p0 m) := hit
  have HSt : Hid (∀ (u : World) (N2 : EN) (q q' : MQ) (e : Nat), Ee w7 u N1 N2 q → q.fuel ≤ F → MB N.m.mod q → stepM numI N.m.mod q = some (e, q') → Calls Tryz.prog 199 #[.pointer (some ⟨N.xb, 0, none⟩)] u (fun en u' => en = .returned (.int .i64 (e : Int)) ∧ ∃ N3, Ee w7 u' N1 N3 q')) := fun u N2 q q' e hu hq hB hs => by
    have e1 : N2.m = N.m := hu.m.trans n1M
    have := step_w hu.em hu.fr (by rw [e1]; exact hM) (by rw [e1]; exact hB) (by omega) (e := e) (q' := q') (by rw [e1]; exact hs)
    rw [hu.xb.trans n1x] at this
    exact this.mono (fun en u' ⟨h1, N3, h3⟩ => ⟨h1, N3, hu.trans h3⟩)
  have HRD : Hid _ := hrd
  have HCM : Hid (C.M = N.m.mod) := hCM
  have HNX : Hid (N1.xb = N.xb ∧ N1.sb = N.sb ∧ N1.hb = N.hb ∧ N1.mb = N.mb ∧ N1.m = N.m) := ⟨n1x, n1s, n1h, n1m, n1M⟩
  have hnq := hT.nq
  -- the root's copy
  have hbW := blk_al w2 #[.int .i64 (-1), .int .i64 0, .slice none 0 0, .slice va vn vc, .slice none 0 0] 301
  rw [hW] at hbW
  have c0 := hbW.cell (i := 0) (by simp)
  have c1 := hbW.cell (i := 1) (by simp)
  have c2 := hbW.cell (i := 2) (by simp)
  have c3 := hbW.cell (i := 3) (by simp)
  have c4 := hbW.cell (i := 4) (by simp)
  have cz0 := hbW.fz (i := 0) (by simp)
  have cz1 := hbW.fz (i := 1) (by simp)
  have cz2 := hbW.fz (i := 2) (by simp)
  have cz3 := hbW.fz (i := 3) (by simp)
  have cz4 := hbW.fz (i := 4) (by simp)
  have x3 : W.cell? ⟨N.xb, 3, none⟩ = some (.slice none 0 0) := by have := (a2.quiet hkW).c.2.2.2.1; rw [hv] at this; exact this
  obtain ⟨V, hV⟩ : ∃ V, W.drew.alloc (.cells #[.int .i64 (-1), .int .i64 0, .slice none 0 0, .slice va vn vc, .slice none 0 0] 301) = V := ⟨_, rfl⟩
  have hKV : Kp (fun _ => False) W V := by rw [← hV]; exact ((Kp.refl _ _).drew).alloc _
  have hbV := hbW.keep hKV (fun h => h)
  have d0 := hbV.cell (i := 0) (by simp)
  have d1 := hbV.cell (i := 1) (by simp)
  have d2 := hbV.cell (i := 2) (by simp)
  have d3 := hbV.cell (i := 3) (by simp)
  have d4 := hbV.cell (i := 4) (by simp)
  have y3 : V.cell? ⟨N.xb, 3, none⟩ = some (.slice none 0 0) := by rw [hKV.cell (p := ⟨N.xb, 3, none⟩) (lt_of_cell x3) (fun h => h)]; exact x3
  have hVV : (W.alloc (.cells #[.int .i64 (-1), .int .i64 0, .slice none 0 0, .slice va vn vc, .slice none 0 0] 301)).drew = V := by rw [← hV]; rfl
  rw [hV] at rr1
  have HR1 : Hid _ := rr1
  have HW7 : Hid (w6.setCell ⟨N.xb, 3, none⟩ (.slice ra rn rc) = w7) := hw7
  have z3 := h.fz 3 (by decide)
  have z4 := h.fz 4 (by decide)
  have z0 := h.c.1
  have zz3 := h.c.2.2.2.1
  have zz4 := h.c.2.2.2.2
  simp only [List.getElem!_toArray, List.getElem!_cons_zero, List.getElem!_cons_succ] at c0 c1 c2 c3 c4 d0 d1 d2 d3 d4
  clear h hf hv hCM hnum hK hA hTy hty hvt hvok hE hgl hR hO hd hM hcall hit hrd hty2 hT hfr hni hnf eN a1 b1 a2 b2 b12 hk02 hO2 hkW hkD hE7 hG7 hw7 hN1 n1x n1s n1h n1m n1M n1f hEw hx0 hq00 rr1 hbW hbV hKV hV hvl
  have HWE : Hid (w2.alloc (.cells #[.int .i64 (-1), .int .i64 0, .slice none 0 0, .slice va vn vc, .slice none 0 0] 301) = W) := hW
  clear hW
  go_enter Tryz.func138, Tryz.ntmps138
  go_wp2_with fail
  try rw [hw2]
  rw [HWE.out]
  clear hw2 HWE z3 z4 z0 zz3 zz4 cz0 cz1 cz2 cz3 cz4
  apply region_one
  case walk =>
    go_region_law (refine step_apq rfl _ _ 143 rfl HR1.out ?_)
    all_goals exact ⟨rfl, rfl⟩
  case key =>
    skip
    rw [HW7.out]
    clear HR1 rr2 rr3 x3 y3 c0 c1 c2 c3 c4 d0 d1 d2 d3 d4 hVV HW7
    go_wp2_with fail
    refine HC.out.mono ?_
    rintro en u1 ⟨rfl, N2, hEe⟩
    have HE0 : Hid _ := hEe
    clear hEe HC
    go_wp2_with fail
    go_loopg [12] j0 (fun j ev u => ∃ (p : Nat × MQ) (N' : EN), ev = .int .i64 (p.1 : Int) ∧ Hid (itB numI N.m.mod j p m) ∧ Hid (p.2.fr ≠ [] ∧ p.2.fuel ≤ F) ∧ Hid (Ee w7 u N1 N' p.2))
    case atStart => exact ⟨p0, N2, rfl, HIT, HP0, HE0⟩
    case round =>
      clear HE0 HP0 HIT
      obtain ⟨⟨e, q⟩, N', rfl, HI, HP, HE⟩ := hrel
      dsimp only at HI HP HE ⊢
      have hxb : N'.xb = N.xb := HE.out.xb.trans HNX.out.1
      have x3 := HE.out.em.c.2.2.2.1
      have x4 := HE.out.em.c.2.2.2.2
      have y3 := HE.out.em.fz 3 (by decide)
      rw [hxb] at x3 x4 y3
      obtain ⟨y, ys, hys⟩ : ∃ y ys, N'.fs = y :: ys := by
        cases hfs : N'.fs with
        | nil =>
          have := HE.out.fr
          rw [hfs] at this
          simp at this
          exact absurd this HP.out.1
        | cons y ys => exact ⟨y, ys, rfl⟩
      have hlen : ys.length + 1 = q.fr.length := by have := congrArg List.length HE.out.fr; rw [hys] at this; simpa using this
      have hfk := HE.out.em.fk
      rw [hys] at hfk
      obtain ⟨g, cap, hvf, hc1, hc2, z3, hfm⟩ := hfk.low
      rw [hvf] at x3
      obtain ⟨L, hL⟩ : ∃ L, ys.length + 1 = L := ⟨_, rfl⟩
      rw [hL] at x3 hc1 hlen
      obtain ⟨oo, hoo⟩ : ∃ o, y.2.o = o := ⟨_, rfl⟩
      rw [hoo] at z3
      have HOO : Hid (y.2.o = oo) := hoo
      have HFM : Hid (FrM wr y) := hfm
      have HYS : Hid (N'.fs = y :: ys) := hys
      have HLN : Hid (L = q.fr.length) := hlen
      have hL0 : (0 : Int) < (L : Int) := by omega
      have hq63 : q.fuel < 9223372036854775808 := by have := HP.out.2; omega
      have HXB : Hid (N'.xb = N.xb) := hxb
      clear hfk hvf hfm hys hlen hL hoo hxb
      have HDROP : Hid (∃ N'', Em (wr.setCell ⟨N.xb, 3, none⟩ (.slice none 0 0)) N'' q.fuel q.S q.H ∧ (N''.fs = [] ∧ N''.vf = .slice none 0 0 ∧ N''.xb = N.xb ∧ N''.sb = N.sb ∧ N''.hb = N.hb ∧ N''.mb = N.mb ∧ N''.m = N.m) ∧ Gw w (wr.setCell ⟨N.xb, 3, none⟩ (.slice none 0 0)) (fun k => N.all k ∨ (Value.slice va vn vc).ownBlock = some k) N''.all) := by
        obtain ⟨d1, d2⟩ := HE.out.em.dropAll
        obtain ⟨N'', hN''⟩ : ∃ N'', ({ N' with vf := .slice none 0 0, fs := [] } : EN) = N'' := ⟨_, rfl⟩
        have q1 : N''.fs = [] ∧ N''.vf = .slice none 0 0 ∧ N''.xb = N'.xb ∧ N''.sb = N'.sb ∧ N''.hb = N'.hb ∧ N''.mb = N'.mb ∧ N''.m = N'.m := by rw [← hN'']; exact ⟨rfl, rfl, rfl, rfl, rfl, rfl, rfl⟩
        rw [hN''] at d1 d2
        rw [HXB.out] at d1 d2
        obtain ⟨a1, a2, a3, a4, a5, a6, a7⟩ := q1
        obtain ⟨b1, b2, b3, b4, b5⟩ := HNX.out
        exact ⟨N'', d1, ⟨a1, a2, a3.trans HXB.out, a4.trans (HE.out.sb.trans b2), a5.trans (HE.out.hb.trans b3), a6.trans (HE.out.mb.trans b4), a7.trans (HE.out.m.trans b5)⟩, HG7.out.trans (HE.out.gw.trans d2)⟩
      cases gk with
      | zero =>
        obtain ⟨hm, hstop⟩ := HI.out
        dsimp only at hstop
        have hrd := HRD.out
        rw [hm] at hrd
        have HRE : Hid (e = R.2.e ∧ q.fuel = R.1 ∧ q.S = R.2.S ∧ q.H = R.2.H ∧ GlOk C.M q.S) := ⟨hrd.e, hrd.fuel, hrd.S, hrd.H, hrd.gl⟩
        have HROK : Hid _ := hrd.ok
        obtain ⟨fq, hfq⟩ : ∃ fq, q.fuel = fq := ⟨_, rfl⟩
        rw [hfq] at x4 hq63
        have HFQ : Hid _ := hfq
        clear hm hrd HI HRD hfq
        by_cases he : e = 0
        · subst he
          obtain ⟨root, hr1, hr2, hr3, hr4⟩ := HROK.out HRE.out.1.symm
          dsimp only at hr1
          have hL1 : L = 1 := by rw [HLN.out, hr1]; rfl
          subst hL1
          have hy1 : y.1 = root ∧ ys = [] := by
            have := HE.out.fr
            rw [HYS.out, hr1] at this
            simp at this
            exact this
          obtain ⟨rfl, rfl⟩ := hy1
          have hoN := HFM.out.o
          rw [HOO.out] at hoN
          obtain ⟨oa, oc, hov⟩ := hoN.slice
          have hrl : y.1.ops.length = t.q.size := by
            have := congrArg List.length hr2
            rw [List.length_map, resL_len hnq] at this
            exact this
          have HRL : Hid _ := hrl
          rw [hov] at z3
          rw [hrl] at z3
          obtain ⟨nq, hnqe⟩ : ∃ n, t.q.size = n := ⟨_, rfl⟩
          rw [hnqe] at z3 hnq
          have HNQ : Hid (t.q.size = nq) := hnqe
          have HOR : Hid _ := hoN
          have HOV : Hid _ := hov
          have HR2 : Hid _ := hr2
          have HR3 : Hid _ := hr3
          have HR4 : Hid _ := hr4
          obtain ⟨N'', g1, g2, g3⟩ := HDROP.out
          have HEM : Hid _ := g1
          have HNN : Hid _ := g2
          have HGW : Hid _ := g3
          have HO2 : Hid (OR (wr.setCell ⟨N.xb, 3, none⟩ (.slice none 0 0)) 229 2 oo y.1.ops.length (valC y.1.ops)) := by
            have hk : Kp (fun k => k = N.xb) wr (wr.setCell ⟨N.xb, 3, none⟩ (.slice none 0 0)) := kp_set1 wr _ rfl
            refine hoN.keep hk (fun k e e2 => ?_)
            refine HE.out.em.ap 4 0 k (by decide) (.inr ⟨y, by rw [HYS.out]; simp, .inr (.inl (by rw [HOO.out]; exact e))⟩) ?_
            show k = N'.xb
            rw [HXB.out]
            exact e2
          obtain ⟨w8, hw8⟩ : ∃ w8, wr.setCell ⟨N.xb, 3, none⟩ (.slice none 0 0) = w8 := ⟨_, rfl⟩
          rw [hw8] at HEM HGW HO2
          have q0 := HEM.out.c.1
          rw [HNN.out.2.2.1, HNN.out.2.2.2.2.2.1] at q0
          have hTT := HT.out w8 (by have := HEM.out.mw; rw [HNN.out.2.2.2.2.2.1, HNN.out.2.2.2.2.2.2] at this; exact this)
          clear hoN hrl hov hnqe hr1 hr2 hr3 hr4 g1 g2 g3 hstop HDROP HROK
          have HX4 : Hid (∀ u, Kp (fun _ => False) w8 u → u.cell? ⟨N.xb, 4, none⟩ = some (.int .i64 (fq : Int))) := fun u hu => by
            have h4 := (HEM.out.quiet hu).c.2.2.2.2
            rw [HNN.out.2.2.1, HFQ.out] at h4
            exact h4
          rcases (by omega : nq = 0 ∨ nq = 1) with rfl | rfl
          · have hnq2 : True := trivial
            go_wp2_with fail
            try rw [hw8]
            clear hw8
            refine hTT.mono ?_
            rintro en9 w9 ⟨rfl, k9⟩
            go_wp2_with fail
            refine (HSp _).mono ?_
            rintro en10 w10 ⟨rfl, k10⟩
            have HK10 : Hid (Kp (fun _ => False) w8 w10) := k9.trans k10
            have hps := HNQ.out
            clear k9 k10 hTT x3 x4 y3 z3 q0
            go_wp2_with fail
            go_loopw [18] (fun ii u1 => ∃ i : Nat, i ≤ 0 ∧ ii = .int .i64 i ∧ Hid (Kp (fun _ => False) w10 u1)) (fun ii _ => 0 + 1 - (intOf ii).toNat)
            case atStart => exact ⟨0, by omega, rfl, Kp.refl _ _⟩
            case round =>
              obtain ⟨i, hi, rfl, HKu⟩ := hrel
              obtain rfl : i = 0 := by omega
              have x4' := HX4.out _ (HK10.out.trans HKu.out)
              go_wp2_with fail
              go_quiet (fail)
              go_wp2_with fail
              refine bodyPost_ret (v := .tuple #[.slice oa 0 oc, .int .i64 (fq : Int), .int .i64 0]) (by simp [results, Tryz.results138, go_sem]) rfl ?_
              obtain ⟨r1, r2, r3, r4, r5⟩ := HRE.out
              refine ⟨N'', .slice oa 0 oc, by first | (rw [← r1, ← r2, HFQ.out]; done) | (rw [← r1, ← r2, HFQ.out]; rfl), ?_, HNN.out, HGW.out.quiet (HK10.out.trans (HKu.out.trans ((Kp.refl _ _).drewM _))), by rw [← r3]; exact r5, .inr ⟨r1.symm, y.1.ops, ?_, HR2.out, HR3.out, HR4.out⟩⟩
              · rw [← r2, ← r3, ← r4]
                exact HEM.out.quiet (HK10.out.trans (HKu.out.trans ((Kp.refl _ _).drewM _)))
              · have hO := HO2.out
                rw [HOV.out, HRL.out, HNQ.out] at hO
                rw [HRL.out, HNQ.out]
                exact hO.keep (HK10.out.trans (HKu.out.trans ((Kp.refl _ _).drewM _))) (fun _ _ h => h)
          · have hnq2 : True := trivial
            obtain ⟨og, oc2, hov2, o1, o2, o3, o4, o5⟩ := HO2.out.ptr (by rw [HRL.out, HNQ.out]; omega)
            rw [HOV.out, HRL.out, HNQ.out] at hov2
            simp at hov2
            obtain ⟨rfl, rfl⟩ := hov2
            obtain ⟨v, hv0⟩ : ∃ v, y.1.ops[0]? = some v := ⟨_, List.getElem?_eq_getElem (by rw [HRL.out, HNQ.out]; omega)⟩
            have t0 := o4 _ _ (valC_at hv0).1
            have hvt : v.t = bAt t.q 0 := by
              have h1 := congrArg (fun l => l[0]?) HR2.out
              skip
              rw [List.getElem?_map, hv0, resL_at (by rw [HNQ.out]; omega) (by rw [HNQ.out]; omega)] at h1
              simpa using h1
            have hbg : ((t.q[0]'(by rw [HNQ.out]; omega)).toNat : Int) = (bAt t.q 0 : Int) := by rw [bAt_get t.q 0 (by rw [HNQ.out]; omega)]
            rw [hvt] at t0
            have HT0 : Hid (∀ u, Kp (fun _ => False) w8 u → u.cell? ⟨og, 0, none⟩ = some (.int .u8 (bAt t.q 0 : Int))) := fun u hu => (hu.cell (p := ⟨og, 0, none⟩) (lt_of_cell t0) (fun h => h)).trans t0
            clear o4 o5 hv0 hvt t0 o1
            go_wp2_with fail
            try rw [hw8]
            clear hw8
            refine hTT.mono ?_
            rintro en9 w9 ⟨rfl, k9⟩
            go_wp2_with fail
            refine (HSp _).mono ?_
            rintro en10 w10 ⟨rfl, k10⟩
            have HK10 : Hid (Kp (fun _ => False) w8 w10) := k9.trans k10
            have hps := HNQ.out
            clear k9 k10 hTT x3 x4 y3 z3 q0
            go_wp2_with fail
            go_loopw [18] (fun ii u1 => ∃ i : Nat, i ≤ 1 ∧ ii = .int .i64 i ∧ Hid (Kp (fun _ => False) w10 u1)) (fun ii _ => 1 + 1 - (intOf ii).toNat)
            case atStart => exact ⟨0, by omega, rfl, Kp.refl _ _⟩
            case round =>
              obtain ⟨i, hi, rfl, HKu⟩ := hrel
              by_cases hlt : i < 1
              · obtain rfl : i = 0 := by omega
                have t0 := HT0.out _ (HK10.out.trans HKu.out)
                have hne : ((bAt t.q 0 : Int) != (bAt t.q 0 : Int)) = false := by simp
                have hlti : (0 : Int) < 1 := by decide
                go_wp2_with fail
                go_quiet (fail)
                go_wp2_with fail
                go_roundw
                case rel => exact ⟨1, by omega, by go_num, HKu.out.trans ((Kp.refl _ _).drewM _)⟩
                case measure => simp [intOf]
              obtain rfl : i = 1 := by omega
              clear hlt
              have x4' := HX4.out _ (HK10.out.trans HKu.out)
              go_wp2_with fail
              go_quiet (fail)
              go_wp2_with fail
              refine bodyPost_ret (v := .tuple #[.slice (some ⟨og, 0, none⟩) 1 oc, .int .i64 (fq : Int), .int .i64 0]) (by simp [results, Tryz.results138, go_sem]) rfl ?_
              obtain ⟨r1, r2, r3, r4, r5⟩ := HRE.out
              refine ⟨N'', .slice (some ⟨og, 0, none⟩) 1 oc, by first | (rw [← r1, ← r2, HFQ.out]; done) | (rw [← r1, ← r2, HFQ.out]; rfl), ?_, HNN.out, HGW.out.quiet (HK10.out.trans (HKu.out.trans ((Kp.refl _ _).drewM _))), by rw [← r3]; exact r5, .inr ⟨r1.symm, y.1.ops, ?_, HR2.out, HR3.out, HR4.out⟩⟩
              · rw [← r2, ← r3, ← r4]
                exact HEM.out.quiet (HK10.out.trans (HKu.out.trans ((Kp.refl _ _).drewM _)))
              · have hO := HO2.out
                rw [HOV.out, HRL.out, HNQ.out] at hO
                rw [HRL.out, HNQ.out]
                exact hO.keep (HK10.out.trans (HKu.out.trans ((Kp.refl _ _).drewM _))) (fun _ _ h => h)
        · have hei : ((e : Int) == 0) = false := by rw [beq_eq_false_iff_ne]; omega
          have hei2 : ((e : Int) != 0) = true := by simp [bne, hei]
          have hE : Hid (e ≠ 0) := he
          clear he hstop HROK
          go_wp2_with fail
          go_quiet (fail)
          go_wp2_with fail
          refine bodyPost_ret (v := .tuple #[.slice none 0 0, .int .i64 (fq : Int), .int .i64 (e : Int)]) (by simp [results, Tryz.results138, go_sem]) rfl ?_
          obtain ⟨N'', g1, g2, g3⟩ := HDROP.out
          obtain ⟨r1, r2, r3, r4, r5⟩ := HRE.out
          refine ⟨N'', _, by rw [← r1, ← r2, HFQ.out], ?_, g2, g3.quiet ((Kp.refl _ _).drewM _), by rw [← r3]; exact r5, .inl ⟨by rw [← r1]; exact hE.out, rfl⟩⟩
          rw [← r2, ← r3, ← r4]
          exact g1.quiet ((Kp.refl _ _).drewM _)
      | succ j =>
        obtain ⟨he, h1, hB, p', hst, hi⟩ := HI.out
        dsimp only at he h1
        subst he
        have hLi : (1 : Int) < (L : Int) := by have := HLN.out; omega
        have hstp := HSt.out _ N' q p'.2 p'.1 HE.out HP.out.2 hB hst
        have HNX2 : Hid (itB numI N.m.mod j p' m ∧ p'.2.fr ≠ [] ∧ p'.2.fuel ≤ F) := ⟨hi, stepM_ne (e := p'.1) hst, Nat.le_trans (stepM_fu (e := p'.1) hst) HP.out.2⟩
        clear h1 hB hst hi HI HDROP
        go_wp2_with fail
        refine hstp.mono ?_
        rintro en u2 ⟨rfl, N3, hE3⟩
        have HE3 : Hid _ := hE3
        clear hE3 hstp
        go_wp2_with fail
        go_roundg j
        case measure => omega
        case rel => exact ⟨p', N3, rfl, HNX2.out.1, HNX2.out.2, HE3⟩
set_option maxHeartbeats 16000000 in
theorem run_neg (h : Em w N n S H) (hf : N.fs = []) (hv : N.vf = .slice none 0 0) (hCM : C.M = N.m.mod) (hnum : C.num = numI) (hK : CodeOk C) (hA : AllF C) (hTy : ∀ j : Nat, j < C.M.imports.length + C.M.funcs.length → ∃ t, C.M.typeOf (j : Int) = some t) (hty : C.M.typeOf (f : Int) = some t) (hvt : vs.map MV.t = tysB t.p) (hvok : ∀ v, v ∈ vs → VOk v) (hE : Env C (bitsM vs) S H) (hgl : GlOk C.M S) {fz : Int} (hfz : fz < 0) (hR : RunR C 0 f (bitsM vs) S H R) (hO : OR w 229 2 (.slice va vn vc) vs.length (valC vs)) (hd : ∀ k, (Value.slice va vn vc).ownBlock = some k → ¬ N.all k) :
    Calls Tryz.prog 138 #[.pointer (some ⟨N.xb, 0, none⟩), .int .i64 (f : Int), .slice va vn vc, .int .i64 fz] w (RunP w N C.M t R (.slice va vn vc)) := by
  have hM : ModOk N.m.mod := hCM ▸ hK.mod
  obtain ⟨p0, j0, m, hcall, hit, hrd⟩ := run_bothB hK hA (by rw [hnum]; exact numI_x w) ld_ok hTy hty hvt hvok hE hgl hR
  rw [hnum] at hit
  have hty2 := hty
  rw [hCM] at hcall hit hty2
  have hT := typeOf_ok hM hty2
  have hfr := typeOf_range hty2
  have hni := hM.ni
  have hnf := hM.nf
  have hf1000 : f < 1000 := by omega
  have hvl : vs.length ≤ 10 := by
    have h1 := congrArg List.length hvt
    rw [tysB_len, List.length_map] at h1
    have := hT.np
    omega
  have HT : Hid (∀ U, Mw U N.mb N.m → Calls Tryz.prog 85 #[.pointer (some ⟨N.mb, 0, none⟩), .int .i64 (f : Int)] U (fun en w' => en = .returned (.tuple #[.string t.text, .bool true]) ∧ Kp (fun _ => False) U w')) := fun U hU => by
    have := typeOf_m hU hM (f : Int) (by omega)
    rw [hty2] at this
    exact this.mono (fun en w' ⟨h1, k, h2⟩ => ⟨h1, by rw [h2]; exact (Kp.refl _ _).drewM k⟩)
  have HSp := fun u => split_kp t hT.p hT.np hT.nq u
  -- ahead of the root
  have eN : ({ N with vf := .slice none 0 0, fs := [] } : EN) = N := by cases N; dsimp only at hf hv; subst hf hv; rfl
  obtain ⟨a1, b1⟩ := h.setFuel 0
  obtain ⟨a2, b2⟩ := a1.dropAll
  rw [eN] at a2 b2
  obtain ⟨w2, hw2⟩ : ∃ w2, (w.setCell ⟨N.xb, 4, none⟩ (.int .i64 0)).setCell ⟨N.xb, 3, none⟩ (.slice none 0 0) = w2 := ⟨_, rfl⟩
  have hk02 : Kp (fun k => k = N.xb) w w2 := by rw [← hw2]; exact (kp_set1 (P := fun k => k = N.xb) w _ rfl).trans (kp_set1 (P := fun k => k = N.xb) _ _ rfl)
  replace a2 : Em w2 N 0 S H := by rw [← hw2]; exact a2
  have b12 : Gw w w2 N.all N.all := by rw [← hw2]; exact b1.trans b2
  have hO2 := hO.keep hk02 (fun k e e2 => hd k e ⟨0, e2⟩)
  obtain ⟨W, hW⟩ : ∃ W, w2.alloc (.cells #[.int .i64 (-1), .int .i64 0, .slice none 0 0, .slice va vn vc, .slice none 0 0] 301) = W := ⟨_, rfl⟩
  have hkW : Kp (fun _ => False) w2 W := by rw [← hW]; exact (Kp.refl _ _).alloc _
  have hkD : Kp (fun _ => False) w2 W.drew := hkW.drew
  obtain ⟨v', w6, rr1, ⟨ra, rn, rc, hvo⟩, ⟨rr2, rr3⟩, hE7, hG7⟩ := (a2.quiet hkD).pushRoot hf hv (hO2.keep hkD (fun _ _ h => h)) hd
  subst hvo
  obtain ⟨w7, hw7⟩ : ∃ w7, w6.setCell ⟨N.xb, 3, none⟩ (.slice ra rn rc) = w7 := ⟨_, rfl⟩
  rw [hw7] at hE7 hG7
  have HG7 : Hid (Gw w w7 (fun k => N.all k ∨ (Value.slice va vn vc).ownBlock = some k) ({ N with vf := .slice ra rn rc, fs := [(rootM vs, ⟨.slice none 0 0, .slice va vn vc, .slice none 0 0⟩)] } : EN).all) := by
    refine ⟨(b12.kp.mono (fun k e => .inl e)).trans ((hkD.mono (fun _ h => h.elim)).trans hG7.kp), fun k hk => ?_⟩
    rcases hG7.own k hk with e | e
    · exact .inl e
    · exact .inr (Nat.le_trans hk02.size (Nat.le_trans hkD.size e))
  obtain ⟨N1, hN1⟩ : ∃ N1, ({ N with vf := .slice ra rn rc, fs := [(rootM vs, ⟨.slice none 0 0, .slice va vn vc, .slice none 0 0⟩)] } : EN) = N1 := ⟨_, rfl⟩
  have n1x : N1.xb = N.xb := by rw [← hN1]
  have n1s : N1.sb = N.sb := by rw [← hN1]
  have n1h : N1.hb = N.hb := by rw [← hN1]
  have n1m : N1.mb = N.mb := by rw [← hN1]
  have n1M : N1.m = N.m := by rw [← hN1]
  have n1f : N1.fs.map (·.1) = [rootM vs] := by rw [← hN1]; rfl
  rw [hN1] at hE7 HG7
  obtain ⟨g0, cap0, q00, x0', hEw⟩ := Ew.start (fuel := 0) (q := ⟨[rootM vs], 0, S, H⟩) hE7 (by rw [n1f]; rfl) (by simp)
  have hx0 := hEw.fr
  simp only [List.cons.injEq] at hx0
  have hq00 : q00.length = 0 := by have := congrArg List.length hx0.2; simpa using this.symm
  have HC : Hid (Calls Tryz.prog 198 #[.pointer (some ⟨N.xb, 0, none⟩), .int .i64 (f : Int)] w7 (Ez w7 N1 (p0.1 : Int) p0.2)) := by
    have := call_w hEw (by rw [n1M]; exact hM) (by rw [← hx0.1]; exact root_FB hvl hvok) (by omega) hE.sm hE.hm (by rw [n1M, ← hCM]; exact hE.bd) hf1000 (e := p0.1) (q' := p0.2) (by rw [n1M]; exact hcall)
    rw [n1x] at this
    exact this
  have HP0 : Hid (p0.2.fr ≠ [] ∧ p0.2.fuel ≤ 0) := ⟨callM_ne (e := p0.1) hcall, Nat.le_of_eq (callM_fu (e := p0.1) hcall)⟩
  have HIT : Hid (itB numI N.m.mod j0 p0 m) := hit
  have HSt : Hid (∀ (u : World) (N2 : EN) (q q' : MQ) (e : Nat), Ee w7 u N1 N2 q → q.fuel ≤ 0 → MB N.m.mod q → stepM numI N.m.mod q = some (e, q') → Calls Tryz.prog 199 #[.pointer (some ⟨N.xb, 0, none⟩)] u (fun en u' => en = .returned (.int .i64 (e : Int)) ∧ ∃ N3, Ee w7 u' N1 N3 q')) := fun u N2 q q' e hu hq hB hs => by
    have e1 : N2.m = N.m := hu.m.trans n1M
    have := step_w hu.em hu.fr (by rw [e1]; exact hM) (by rw [e1]; exact hB) (by omega) (e := e) (q' := q') (by rw [e1]; exact hs)
    rw [hu.xb.trans n1x] at this
    exact this.mono (fun en u' ⟨h1, N3, h3⟩ => ⟨h1, N3, hu.trans h3⟩)
  have HRD : Hid _ := hrd
  have HCM : Hid (C.M = N.m.mod) := hCM
  have HNX : Hid (N1.xb = N.xb ∧ N1.sb = N.sb ∧ N1.hb = N.hb ∧ N1.mb = N.mb ∧ N1.m = N.m) := ⟨n1x, n1s, n1h, n1m, n1M⟩
  have hnq := hT.nq
  -- the root's copy
  have hbW := blk_al w2 #[.int .i64 (-1), .int .i64 0, .slice none 0 0, .slice va vn vc, .slice none 0 0] 301
  rw [hW] at hbW
  have c0 := hbW.cell (i := 0) (by simp)
  have c1 := hbW.cell (i := 1) (by simp)
  have c2 := hbW.cell (i := 2) (by simp)
  have c3 := hbW.cell (i := 3) (by simp)
  have c4 := hbW.cell (i := 4) (by simp)
  have cz0 := hbW.fz (i := 0) (by simp)
  have cz1 := hbW.fz (i := 1) (by simp)
  have cz2 := hbW.fz (i := 2) (by simp)
  have cz3 := hbW.fz (i := 3) (by simp)
  have cz4 := hbW.fz (i := 4) (by simp)
  have x3 : W.cell? ⟨N.xb, 3, none⟩ = some (.slice none 0 0) := by have := (a2.quiet hkW).c.2.2.2.1; rw [hv] at this; exact this
  obtain ⟨V, hV⟩ : ∃ V, W.drew.alloc (.cells #[.int .i64 (-1), .int .i64 0, .slice none 0 0, .slice va vn vc, .slice none 0 0] 301) = V := ⟨_, rfl⟩
  have hKV : Kp (fun _ => False) W V := by rw [← hV]; exact ((Kp.refl _ _).drew).alloc _
  have hbV := hbW.keep hKV (fun h => h)
  have d0 := hbV.cell (i := 0) (by simp)
  have d1 := hbV.cell (i := 1) (by simp)
  have d2 := hbV.cell (i := 2) (by simp)
  have d3 := hbV.cell (i := 3) (by simp)
  have d4 := hbV.cell (i := 4) (by simp)
  have y3 : V.cell? ⟨N.xb, 3, none⟩ = some (.slice none 0 0) := by rw [hKV.cell (p := ⟨N.xb, 3, none⟩) (lt_of_cell x3) (fun h => h)]; exact x3
  have hVV : (W.alloc (.cells #[.int .i64 (-1), .int .i64 0, .slice none 0 0, .slice va vn vc, .slice none 0 0] 301)).drew = V := by rw [← hV]; rfl
  rw [hV] at rr1
  have HR1 : Hid _ := rr1
  have HW7 : Hid (w6.setCell ⟨N.xb, 3, none⟩ (.slice ra rn rc) = w7) := hw7
  have z3 := h.fz 3 (by decide)
  have z4 := h.fz 4 (by decide)
  have z0 := h.c.1
  have zz3 := h.c.2.2.2.1
  have zz4 := h.c.2.2.2.2
  simp only [List.getElem!_toArray, List.getElem!_cons_zero, List.getElem!_cons_succ] at c0 c1 c2 c3 c4 d0 d1 d2 d3 d4
  clear h hf hv hCM hnum hK hA hTy hty hvt hvok hE hgl hR hO hd hM hcall hit hrd hty2 hT hfr hni hnf eN a1 b1 a2 b2 b12 hk02 hO2 hkW hkD hE7 hG7 hw7 hN1 n1x n1s n1h n1m n1M n1f hEw hx0 hq00 rr1 hbW hbV hKV hV hvl
  have HWE : Hid (w2.alloc (.cells #[.int .i64 (-1), .int .i64 0, .slice none 0 0, .slice va vn vc, .slice none 0 0] 301) = W) := hW
  clear hW
  go_enter Tryz.func138, Tryz.ntmps138
  go_wp2_with fail
  try rw [hw2]
  rw [HWE.out]
  clear hw2 HWE z3 z4 z0 zz3 zz4 cz0 cz1 cz2 cz3 cz4
  apply region_one
  case walk =>
    go_region_law (refine step_apq rfl _ _ 143 rfl HR1.out ?_)
    all_goals exact ⟨rfl, rfl⟩
  case key =>
    skip
    rw [HW7.out]
    clear HR1 rr2 rr3 x3 y3 c0 c1 c2 c3 c4 d0 d1 d2 d3 d4 hVV HW7
    go_wp2_with fail
    refine HC.out.mono ?_
    rintro en u1 ⟨rfl, N2, hEe⟩
    have HE0 : Hid _ := hEe
    clear hEe HC
    go_wp2_with fail
    go_loopg [12] j0 (fun j ev u => ∃ (p : Nat × MQ) (N' : EN), ev = .int .i64 (p.1 : Int) ∧ Hid (itB numI N.m.mod j p m) ∧ Hid (p.2.fr ≠ [] ∧ p.2.fuel ≤ 0) ∧ Hid (Ee w7 u N1 N' p.2))
    case atStart => exact ⟨p0, N2, rfl, HIT, HP0, HE0⟩
    case round =>
      clear HE0 HP0 HIT
      obtain ⟨⟨e, q⟩, N', rfl, HI, HP, HE⟩ := hrel
      dsimp only at HI HP HE ⊢
      have hxb : N'.xb = N.xb := HE.out.xb.trans HNX.out.1
      have x3 := HE.out.em.c.2.2.2.1
      have x4 := HE.out.em.c.2.2.2.2
      have y3 := HE.out.em.fz 3 (by decide)
      rw [hxb] at x3 x4 y3
      obtain ⟨y, ys, hys⟩ : ∃ y ys, N'.fs = y :: ys := by
        cases hfs : N'.fs with
        | nil =>
          have := HE.out.fr
          rw [hfs] at this
          simp at this
          exact absurd this HP.out.1
        | cons y ys => exact ⟨y, ys, rfl⟩
      have hlen : ys.length + 1 = q.fr.length := by have := congrArg List.length HE.out.fr; rw [hys] at this; simpa using this
      have hfk := HE.out.em.fk
      rw [hys] at hfk
      obtain ⟨g, cap, hvf, hc1, hc2, z3, hfm⟩ := hfk.low
      rw [hvf] at x3
      obtain ⟨L, hL⟩ : ∃ L, ys.length + 1 = L := ⟨_, rfl⟩
      rw [hL] at x3 hc1 hlen
      obtain ⟨oo, hoo⟩ : ∃ o, y.2.o = o := ⟨_, rfl⟩
      rw [hoo] at z3
      have HOO : Hid (y.2.o = oo) := hoo
      have HFM : Hid (FrM wr y) := hfm
      have HYS : Hid (N'.fs = y :: ys) := hys
      have HLN : Hid (L = q.fr.length) := hlen
      have hL0 : (0 : Int) < (L : Int) := by omega
      have hq63 : q.fuel < 9223372036854775808 := by have := HP.out.2; omega
      have HXB : Hid (N'.xb = N.xb) := hxb
      clear hfk hvf hfm hys hlen hL hoo hxb
      have HDROP : Hid (∃ N'', Em (wr.setCell ⟨N.xb, 3, none⟩ (.slice none 0 0)) N'' q.fuel q.S q.H ∧ (N''.fs = [] ∧ N''.vf = .slice none 0 0 ∧ N''.xb = N.xb ∧ N''.sb = N.sb ∧ N''.hb = N.hb ∧ N''.mb = N.mb ∧ N''.m = N.m) ∧ Gw w (wr.setCell ⟨N.xb, 3, none⟩ (.slice none 0 0)) (fun k => N.all k ∨ (Value.slice va vn vc).ownBlock = some k) N''.all) := by
        obtain ⟨d1, d2⟩ := HE.out.em.dropAll
        obtain ⟨N'', hN''⟩ : ∃ N'', ({ N' with vf := .slice none 0 0, fs := [] } : EN) = N'' := ⟨_, rfl⟩
        have q1 : N''.fs = [] ∧ N''.vf = .slice none 0 0 ∧ N''.xb = N'.xb ∧ N''.sb = N'.sb ∧ N''.hb = N'.hb ∧ N''.mb = N'.mb ∧ N''.m = N'.m := by rw [← hN'']; exact ⟨rfl, rfl, rfl, rfl, rfl, rfl, rfl⟩
        rw [hN''] at d1 d2
        rw [HXB.out] at d1 d2
        obtain ⟨a1, a2, a3, a4, a5, a6, a7⟩ := q1
        obtain ⟨b1, b2, b3, b4, b5⟩ := HNX.out
        exact ⟨N'', d1, ⟨a1, a2, a3.trans HXB.out, a4.trans (HE.out.sb.trans b2), a5.trans (HE.out.hb.trans b3), a6.trans (HE.out.mb.trans b4), a7.trans (HE.out.m.trans b5)⟩, HG7.out.trans (HE.out.gw.trans d2)⟩
      cases gk with
      | zero =>
        obtain ⟨hm, hstop⟩ := HI.out
        dsimp only at hstop
        have hrd := HRD.out
        rw [hm] at hrd
        have HRE : Hid (e = R.2.e ∧ q.fuel = R.1 ∧ q.S = R.2.S ∧ q.H = R.2.H ∧ GlOk C.M q.S) := ⟨hrd.e, hrd.fuel, hrd.S, hrd.H, hrd.gl⟩
        have HROK : Hid _ := hrd.ok
        obtain ⟨fq, hfq⟩ : ∃ fq, q.fuel = fq := ⟨_, rfl⟩
        rw [hfq] at x4 hq63
        have HFQ : Hid _ := hfq
        clear hm hrd HI HRD hfq
        by_cases he : e = 0
        · subst he
          obtain ⟨root, hr1, hr2, hr3, hr4⟩ := HROK.out HRE.out.1.symm
          dsimp only at hr1
          have hL1 : L = 1 := by rw [HLN.out, hr1]; rfl
          subst hL1
          have hy1 : y.1 = root ∧ ys = [] := by
            have := HE.out.fr
            rw [HYS.out, hr1] at this
            simp at this
            exact this
          obtain ⟨rfl, rfl⟩ := hy1
          have hoN := HFM.out.o
          rw [HOO.out] at hoN
          obtain ⟨oa, oc, hov⟩ := hoN.slice
          have hrl : y.1.ops.length = t.q.size := by
            have := congrArg List.length hr2
            rw [List.length_map, resL_len hnq] at this
            exact this
          have HRL : Hid _ := hrl
          rw [hov] at z3
          rw [hrl] at z3
          obtain ⟨nq, hnqe⟩ : ∃ n, t.q.size = n := ⟨_, rfl⟩
          rw [hnqe] at z3 hnq
          have HNQ : Hid (t.q.size = nq) := hnqe
          have HOR : Hid _ := hoN
          have HOV : Hid _ := hov
          have HR2 : Hid _ := hr2
          have HR3 : Hid _ := hr3
          have HR4 : Hid _ := hr4
          obtain ⟨N'', g1, g2, g3⟩ := HDROP.out
          have HEM : Hid _ := g1
          have HNN : Hid _ := g2
          have HGW : Hid _ := g3
          have HO2 : Hid (OR (wr.setCell ⟨N.xb, 3, none⟩ (.slice none 0 0)) 229 2 oo y.1.ops.length (valC y.1.ops)) := by
            have hk : Kp (fun k => k = N.xb) wr (wr.setCell ⟨N.xb, 3, none⟩ (.slice none 0 0)) := kp_set1 wr _ rfl
            refine hoN.keep hk (fun k e e2 => ?_)
            refine HE.out.em.ap 4 0 k (by decide) (.inr ⟨y, by rw [HYS.out]; simp, .inr (.inl (by rw [HOO.out]; exact e))⟩) ?_
            show k = N'.xb
            rw [HXB.out]
            exact e2
          obtain ⟨w8, hw8⟩ : ∃ w8, wr.setCell ⟨N.xb, 3, none⟩ (.slice none 0 0) = w8 := ⟨_, rfl⟩
          rw [hw8] at HEM HGW HO2
          have q0 := HEM.out.c.1
          rw [HNN.out.2.2.1, HNN.out.2.2.2.2.2.1] at q0
          have hTT := HT.out w8 (by have := HEM.out.mw; rw [HNN.out.2.2.2.2.2.1, HNN.out.2.2.2.2.2.2] at this; exact this)
          clear hoN hrl hov hnqe hr1 hr2 hr3 hr4 g1 g2 g3 hstop HDROP HROK
          have HX4 : Hid (∀ u, Kp (fun _ => False) w8 u → u.cell? ⟨N.xb, 4, none⟩ = some (.int .i64 (fq : Int))) := fun u hu => by
            have h4 := (HEM.out.quiet hu).c.2.2.2.2
            rw [HNN.out.2.2.1, HFQ.out] at h4
            exact h4
          rcases (by omega : nq = 0 ∨ nq = 1) with rfl | rfl
          · have hnq2 : True := trivial
            go_wp2_with fail
            try rw [hw8]
            clear hw8
            refine hTT.mono ?_
            rintro en9 w9 ⟨rfl, k9⟩
            go_wp2_with fail
            refine (HSp _).mono ?_
            rintro en10 w10 ⟨rfl, k10⟩
            have HK10 : Hid (Kp (fun _ => False) w8 w10) := k9.trans k10
            have hps := HNQ.out
            clear k9 k10 hTT x3 x4 y3 z3 q0
            go_wp2_with fail
            go_loopw [18] (fun ii u1 => ∃ i : Nat, i ≤ 0 ∧ ii = .int .i64 i ∧ Hid (Kp (fun _ => False) w10 u1)) (fun ii _ => 0 + 1 - (intOf ii).toNat)
            case atStart => exact ⟨0, by omega, rfl, Kp.refl _ _⟩
            case round =>
              obtain ⟨i, hi, rfl, HKu⟩ := hrel
              obtain rfl : i = 0 := by omega
              have x4' := HX4.out _ (HK10.out.trans HKu.out)
              go_wp2_with fail
              go_quiet (fail)
              go_wp2_with fail
              refine bodyPost_ret (v := .tuple #[.slice oa 0 oc, .int .i64 (fq : Int), .int .i64 0]) (by simp [results, Tryz.results138, go_sem]) rfl ?_
              obtain ⟨r1, r2, r3, r4, r5⟩ := HRE.out
              refine ⟨N'', .slice oa 0 oc, by first | (rw [← r1, ← r2, HFQ.out]; done) | (rw [← r1, ← r2, HFQ.out]; rfl), ?_, HNN.out, HGW.out.quiet (HK10.out.trans (HKu.out.trans ((Kp.refl _ _).drewM _))), by rw [← r3]; exact r5, .inr ⟨r1.symm, y.1.ops, ?_, HR2.out, HR3.out, HR4.out⟩⟩
              · rw [← r2, ← r3, ← r4]
                exact HEM.out.quiet (HK10.out.trans (HKu.out.trans ((Kp.refl _ _).drewM _)))
              · have hO := HO2.out
                rw [HOV.out, HRL.out, HNQ.out] at hO
                rw [HRL.out, HNQ.out]
                exact hO.keep (HK10.out.trans (HKu.out.trans ((Kp.refl _ _).drewM _))) (fun _ _ h => h)
          · have hnq2 : True := trivial
            obtain ⟨og, oc2, hov2, o1, o2, o3, o4, o5⟩ := HO2.out.ptr (by rw [HRL.out, HNQ.out]; omega)
            rw [HOV.out, HRL.out, HNQ.out] at hov2
            simp at hov2
            obtain ⟨rfl, rfl⟩ := hov2
            obtain ⟨v, hv0⟩ : ∃ v, y.1.ops[0]? = some v := ⟨_, List.getElem?_eq_getElem (by rw [HRL.out, HNQ.out]; omega)⟩
            have t0 := o4 _ _ (valC_at hv0).1
            have hvt : v.t = bAt t.q 0 := by
              have h1 := congrArg (fun l => l[0]?) HR2.out
              skip
              rw [List.getElem?_map, hv0, resL_at (by rw [HNQ.out]; omega) (by rw [HNQ.out]; omega)] at h1
              simpa using h1
            have hbg : ((t.q[0]'(by rw [HNQ.out]; omega)).toNat : Int) = (bAt t.q 0 : Int) := by rw [bAt_get t.q 0 (by rw [HNQ.out]; omega)]
            rw [hvt] at t0
            have HT0 : Hid (∀ u, Kp (fun _ => False) w8 u → u.cell? ⟨og, 0, none⟩ = some (.int .u8 (bAt t.q 0 : Int))) := fun u hu => (hu.cell (p := ⟨og, 0, none⟩) (lt_of_cell t0) (fun h => h)).trans t0
            clear o4 o5 hv0 hvt t0 o1
            go_wp2_with fail
            try rw [hw8]
            clear hw8
            refine hTT.mono ?_
            rintro en9 w9 ⟨rfl, k9⟩
            go_wp2_with fail
            refine (HSp _).mono ?_
            rintro en10 w10 ⟨rfl, k10⟩
            have HK10 : Hid (Kp (fun _ => False) w8 w10) := k9.trans k10
            have hps := HNQ.out
            clear k9 k10 hTT x3 x4 y3 z3 q0
            go_wp2_with fail
            go_loopw [18] (fun ii u1 => ∃ i : Nat, i ≤ 1 ∧ ii = .int .i64 i ∧ Hid (Kp (fun _ => False) w10 u1)) (fun ii _ => 1 + 1 - (intOf ii).toNat)
            case atStart => exact ⟨0, by omega, rfl, Kp.refl _ _⟩
            case round =>
              obtain ⟨i, hi, rfl, HKu⟩ := hrel
              by_cases hlt : i < 1
              · obtain rfl : i = 0 := by omega
                have t0 := HT0.out _ (HK10.out.trans HKu.out)
                have hne : ((bAt t.q 0 : Int) != (bAt t.q 0 : Int)) = false := by simp
                have hlti : (0 : Int) < 1 := by decide
                go_wp2_with fail
                go_quiet (fail)
                go_wp2_with fail
                go_roundw
                case rel => exact ⟨1, by omega, by go_num, HKu.out.trans ((Kp.refl _ _).drewM _)⟩
                case measure => simp [intOf]
              obtain rfl : i = 1 := by omega
              clear hlt
              have x4' := HX4.out _ (HK10.out.trans HKu.out)
              go_wp2_with fail
              go_quiet (fail)
              go_wp2_with fail
              refine bodyPost_ret (v := .tuple #[.slice (some ⟨og, 0, none⟩) 1 oc, .int .i64 (fq : Int), .int .i64 0]) (by simp [results, Tryz.results138, go_sem]) rfl ?_
              obtain ⟨r1, r2, r3, r4, r5⟩ := HRE.out
              refine ⟨N'', .slice (some ⟨og, 0, none⟩) 1 oc, by first | (rw [← r1, ← r2, HFQ.out]; done) | (rw [← r1, ← r2, HFQ.out]; rfl), ?_, HNN.out, HGW.out.quiet (HK10.out.trans (HKu.out.trans ((Kp.refl _ _).drewM _))), by rw [← r3]; exact r5, .inr ⟨r1.symm, y.1.ops, ?_, HR2.out, HR3.out, HR4.out⟩⟩
              · rw [← r2, ← r3, ← r4]
                exact HEM.out.quiet (HK10.out.trans (HKu.out.trans ((Kp.refl _ _).drewM _)))
              · have hO := HO2.out
                rw [HOV.out, HRL.out, HNQ.out] at hO
                rw [HRL.out, HNQ.out]
                exact hO.keep (HK10.out.trans (HKu.out.trans ((Kp.refl _ _).drewM _))) (fun _ _ h => h)
        · have hei : ((e : Int) == 0) = false := by rw [beq_eq_false_iff_ne]; omega
          have hei2 : ((e : Int) != 0) = true := by simp [bne, hei]
          have hE : Hid (e ≠ 0) := he
          clear he hstop HROK
          go_wp2_with fail
          go_quiet (fail)
          go_wp2_with fail
          refine bodyPost_ret (v := .tuple #[.slice none 0 0, .int .i64 (fq : Int), .int .i64 (e : Int)]) (by simp [results, Tryz.results138, go_sem]) rfl ?_
          obtain ⟨N'', g1, g2, g3⟩ := HDROP.out
          obtain ⟨r1, r2, r3, r4, r5⟩ := HRE.out
          refine ⟨N'', _, by rw [← r1, ← r2, HFQ.out], ?_, g2, g3.quiet ((Kp.refl _ _).drewM _), by rw [← r3]; exact r5, .inl ⟨by rw [← r1]; exact hE.out, rfl⟩⟩
          rw [← r2, ← r3, ← r4]
          exact g1.quiet ((Kp.refl _ _).drewM _)
      | succ j =>
        obtain ⟨he, h1, hB, p', hst, hi⟩ := HI.out
        dsimp only at he h1
        subst he
        have hLi : (1 : Int) < (L : Int) := by have := HLN.out; omega
        have hstp := HSt.out _ N' q p'.2 p'.1 HE.out HP.out.2 hB hst
        have HNX2 : Hid (itB numI N.m.mod j p' m ∧ p'.2.fr ≠ [] ∧ p'.2.fuel ≤ 0) := ⟨hi, stepM_ne (e := p'.1) hst, Nat.le_trans (stepM_fu (e := p'.1) hst) HP.out.2⟩
        clear h1 hB hst hi HI HDROP
        go_wp2_with fail
        refine hstp.mono ?_
        rintro en u2 ⟨rfl, N3, hE3⟩
        have HE3 : Hid _ := hE3
        clear hE3 hstp
        go_wp2_with fail
        go_roundg j
        case measure => omega
        case rel => exact ⟨p', N3, rfl, HNX2.out.1, HNX2.out.2, HE3⟩
theorem run_w (h : Em w N n S H) (hf : N.fs = []) (hv : N.vf = .slice none 0 0) (hCM : C.M = N.m.mod) (hnum : C.num = numI) (hK : CodeOk C) (hA : AllF C) (hTy : ∀ j : Nat, j < C.M.imports.length + C.M.funcs.length → ∃ t, C.M.typeOf (j : Int) = some t) (hty : C.M.typeOf (f : Int) = some t) (hvt : vs.map MV.t = tysB t.p) (hvok : ∀ v, v ∈ vs → VOk v) (hE : Env C (bitsM vs) S H) (hgl : GlOk C.M S) {fz : Int} (hfz : fz < 9223372036854775808) (hR : RunR C fz.toNat f (bitsM vs) S H R) (hO : OR w 229 2 (.slice va vn vc) vs.length (valC vs)) (hd : ∀ k, (Value.slice va vn vc).ownBlock = some k → ¬ N.all k) :
    Calls Tryz.prog 138 #[.pointer (some ⟨N.xb, 0, none⟩), .int .i64 (f : Int), .slice va vn vc, .int .i64 fz] w (RunP w N C.M t R (.slice va vn vc)) := by
  by_cases h0 : fz < 0
  · have e : fz.toNat = 0 := by omega
    rw [e] at hR
    exact run_neg h hf hv hCM hnum hK hA hTy hty hvt hvok hE hgl h0 hR hO hd
  · obtain ⟨F, rfl⟩ : ∃ F : Nat, fz = (F : Int) := ⟨fz.toNat, by omega⟩
    rw [Int.toNat_natCast] at hR
    exact run_pos h hf hv hCM hnum hK hA hTy hty hvt hvok hE hgl (by omega) hR hO hd
end
end Go.Proofs.Qxb6500275aGreatDoor
