import Derived.Test.Qxb6500275aGreatDoorXq6
import Derived.Test.Qxb6500275aGreatDoorXq3
import Derived.Test.Qxb6500275aGreatDoorSt3
set_option maxRecDepth 100000
set_option linter.unusedVariables false
set_option linter.unusedSimpArgs false
namespace Go.Proofs.Qxb6500275aGreatDoor
open Go Go.RowKit
theorem resetS_gl {mm mx tm : Int} {ng : Nat} {S : Sm} (h : resetS mm mx tm ng = some S) : S.gl.length = ng := by
  unfold resetS at h
  repeat' (split at h)
  all_goals first | (simp at h; done) | (simp only [Option.some.injEq] at h; subst h; simp)
def encLn (a : Lan) : Value := .tuple #[.int .i64 a.n, .int .i64 a.m, .int .i64 a.e]
/- how a load ends -/
def LdP (w : World) (xb : Nat) (B : Nat → Prop) (a : Lan) (st : Ma) (en : Ending) (w' : World) : Prop := en = .returned (encLn a) ∧ ∃ N' A', N'.xb = xb ∧ MdM w' N' A' st ∧ Gw w w' B A'
section
variable {w : World} {N : EN} {mb : Nat} {m : MT} {S : Sm} {H : Hm} {fs : List FF} {a : Lan} {st : Ma}
theorem load_all {k : Nat} (hk : (N.load mb m).all k) : N.bas k ∨ MwB mb m k := by
  obtain ⟨i, hi⟩ := hk
  match i, hi with
  | 0, hi => exact .inl ⟨0, by decide, hi⟩
  | 1, hi => exact .inl ⟨1, by decide, hi⟩
  | 2, hi => exact .inl ⟨2, by decide, hi⟩
  | 3, hi => exact .inr hi
  | 4, hi => exact (fsB_nil hi).elim
  | n + 5, hi => exact hi.elim
theorem Sda.c0 {w0 : World} (h : Sda w0 w N mb m S H) : w.cell? ⟨N.xb, 0, none⟩ = some (.pointer none) ∧ w.frozen? ⟨N.xb, 0, none⟩ = false := by
  obtain ⟨N', n, h1, ⟨e1, e2, e3⟩, h3, h4, h5⟩ := h
  rw [← e1]
  exact ⟨h1.c.1, h1.fz 0 (by decide)⟩
theorem Sda.loaded {w0 : World} (h : Sda w0 w N mb m S H) : ∃ N' n, Em (w.setCell ⟨N.xb, 0, none⟩ (.pointer (some ⟨mb, 0, none⟩))) (EN.load N' mb m) n S H ∧ N'.xb = N.xb ∧ Gw w0 (w.setCell ⟨N.xb, 0, none⟩ (.pointer (some ⟨mb, 0, none⟩))) (fun k => N.bas k ∨ MwB mb m k) (N'.load mb m).all := by
  obtain ⟨N', n, h1, ⟨e1, e2, e3⟩, h3, h4, h5⟩ := h
  obtain ⟨k1, k2⟩ := h1.setM (.pointer (some ⟨mb, 0, none⟩))
  obtain ⟨k3, k4⟩ := h1.app h3 h4 k2
  rw [e1] at k1 k2 k3
  have hg := h5.trans k2
  refine ⟨N', n, k1.em k3 k4, e1, ⟨hg.kp.mono (fun k e => .inl e), fun k hk => ?_⟩⟩
  rcases load_all hk with e | e
  · rcases hg.own k e with e2 | e2
    · exact .inl (.inl e2)
    · exact .inr e2
  · exact .inl (.inr e)
theorem Sda.fail {u : World} {w : World} (h : Sda w u N mb m S H) (hm : st.m = none) (hh : st.H = H) : ∃ N' A', N'.xb = N.xb ∧ MdM u N' A' st ∧ Gw w u (fun k => N.bas k ∨ MwB mb m k) A' := by
  obtain ⟨N', n, h1, h2, h3, h4, h5⟩ := h
  refine ⟨N', N'.bas, h2.1, .inl ⟨hm, ⟨n, S, by rw [hh]; exact h1⟩, rfl⟩, ⟨h5.kp.mono (fun k e => .inl e), fun k hk => ?_⟩⟩
  rcases h5.own k hk with e | e
  · exact .inl (.inl e)
  · exact .inr e
set_option maxHeartbeats 32000000 in
theorem adopt_w (h : Sda w w N mb m S H) (hM : ModOk m.mod) (hG : SegOk m.mod) {S0 : Sm} (hres : resetS m.mod.memMin m.mod.memMax m.mod.tabMin m.mod.globals.length = some S0) (hGC : GoodC numI ⟨m.mod, fs, numI⟩) (hA : AllF ⟨m.mod, fs, numI⟩) (hU : ExU m.mod) (hH : HmOk H) (hgl : (settleS m.mod S (clearS H)).e = 0 → GlOk m.mod (settleS m.mod S (clearS H)).S)
    {fz : Int} (hfz : fz < 9223372036854775808) (hL : LoadS numI m.mod fs fz.toNat (settleS m.mod S (clearS H)) a st) :
    Calls Tryz.prog 135 #[.pointer (some ⟨N.xb, 0, none⟩), .pointer (some ⟨mb, 0, none⟩), .int .i64 fz] w (LdP w N.xb (fun k => N.bas k ∨ MwB mb m k) a st) := by
  have HENV : Hid ((settleS m.mod S (clearS H)).e = 0 → SRok m.mod (settleS m.mod S (clearS H))) := fun he => settleS_ok hM hG (clearS_ok hH) rfl he
  have HGL : Hid _ := hgl
  clear hgl
  rw [settleS_b] at hL HENV HGL
  obtain ⟨R, hR⟩ : ∃ R, bind2 m.mod S (bindL (clearS H) m.mod.imports 0) = R := ⟨_, rfl⟩
  rw [hR] at hL HENV HGL
  have HS : Hid (R = bind2 m.mod S (bindL (clearS H) (m.imports.drop 0) 0)) := hR.symm
  have HL : Hid _ := hL
  obtain ⟨S1, hS1⟩ : ∃ S1, w.setCell ⟨N.xb, 0, none⟩ (.pointer none) = S1 := ⟨_, rfl⟩
  have HD0 : Hid (Sda w (w.setCell ⟨N.xb, 0, none⟩ (.pointer none)) N mb m S H) := by
    obtain ⟨N', n, h1, ⟨e1, e2, e3⟩, h3, h4, h5⟩ := h
    obtain ⟨k1, k2⟩ := h1.setM (.pointer none)
    rw [e1] at k1 k2
    obtain ⟨k3, k4⟩ := h1.app h3 h4 k2
    exact ⟨N', n, k1, ⟨e1, e2, e3⟩, k3, k4, h5.trans k2⟩
  have HC0 := HD0.out.clearC
  obtain ⟨x1, x2⟩ := HD0.out.c
  have HM : Hid _ := hM
  have HG : Hid _ := hG
  have HGC : Hid _ := hGC
  have HAF : Hid _ := hA
  have HEU : Hid _ := hU
  obtain ⟨ni, hni⟩ : ∃ n, m.imports.length = n := ⟨_, rfl⟩
  have HNI : Hid _ := hni
  have hni4 : ni ≤ 4 := by rw [← hni]; exact hM.ni
  obtain ⟨ng, hng⟩ : ∃ n, m.globals.length = n := ⟨_, rfl⟩
  have HNG : Hid _ := hng
  have hng4 : ng ≤ 4 := by rw [← hng]; exact hM.ng
  have hres' : resetS m.memMin m.memMax m.tabMin ng = some S0 := by rw [← hng]; exact hres
  have HRES : Hid _ := hres'
  have HFZ : Hid _ := hfz
  have hz0 := (HD0.out)
  have y0 : w.frozen? ⟨N.xb, 0, none⟩ = false := by
    obtain ⟨N', n, h1, ⟨e1, e2, e3⟩, h3, h4, h5⟩ := h
    rw [← e1]
    exact h1.fz 0 (by decide)
  have y1 : w.cell? ⟨N.xb, 0, none⟩ = some (.pointer none) := by
    obtain ⟨N', n, h1, ⟨e1, e2, e3⟩, h3, h4, h5⟩ := h
    rw [← e1]
    exact h1.c.1
  have y2 : w.cell? ⟨N.xb, 2, none⟩ = some (.pointer (some ⟨N.hb, 0, none⟩)) := h.c.2
  clear hR h hM hG hA hU hGC hni hng hres hres' hfz hL hS1 hz0 hH x1
  go_enter Tryz.func135, Tryz.ntmps135
  go_wp2_with fail
  refine HC0.mono ?_
  rintro en w1 ⟨rfl, hD1⟩
  have HD1 : Hid _ := hD1
  clear hD1 HC0 HD0 x2 y0 y1 y2
  go_wp2_with fail
  go_loopw [9] (fun ii w1 => ∃ (i : Nat) (H1 : Hm), i ≤ ni ∧ ii = .int .i64 i ∧ Hid (Sda w w1 N mb m S H1) ∧ Hid (H1.bd.length = i) ∧ Hid (R = bind2 m.mod S (bindL H1 (m.imports.drop i) i))) (fun ii _ => ni + 1 - (intOf ii).toNat)
  case atStart => exact ⟨0, clearS H, by omega, rfl, HD1, rfl, HS⟩
  case round =>
    clear HS HD1
    obtain ⟨i, H1, hi, rfl, HD, HBD, HS⟩ := hrel
    obtain ⟨x1, x2⟩ := HD.out.c
    have m1 := HD.out.mw.c1
    by_cases hlt : i < ni
    · obtain ⟨y, hy⟩ : ∃ y, m.imports[i]? = some y := ⟨_, List.getElem?_eq_getElem (by rw [HNI.out]; exact hlt)⟩
      obtain ⟨ig, icap, hiv, ig1, ig2, ig3, ic⟩ := HD.out.mw.atIm hy
      rw [HNI.out] at hiv ig2
      rw [hiv] at m1
      have d1 := ic 1 _ rfl
      have hyo := HM.out.imports y (List.mem_of_getElem? hy)
      have hcal := HD.out.drew.bindC y.name (by have := hyo.name; omega) (by rw [HBD.out]; omega)
      have HLEN : Hid ((bindS H1 y.name).1 = 0 → (bindS H1 y.name).2.bd.length = i + 1) := fun e => by rw [bindS_len e, HBD.out]
      have hib : (i : Int) < (ni : Int) := by omega
      rw [drop_cons hy, bindL] at HS
      obtain ⟨r, hr⟩ : ∃ r, bindS H1 y.name = r := ⟨_, rfl⟩
      rw [hr] at hcal HS HLEN
      obtain ⟨e, H2⟩ := r
      clear hy hyo hr hiv ic
      go_wp2_with fail
      go_still_tail 12, (by kernel_rfl)
      go_wp2_with fail
      refine hcal.mono ?_
      rintro en w2 ⟨rfl, hD2⟩
      have HD2 : Hid (Sda w w2 N mb m S H2) := hD2
      clear hcal hD2 HD m1 x1 x2 d1 ig1 ig2 ig3
      dsimp only at HS HLEN ⊢
      by_cases he : e = 0
      · subst he
        rw [if_pos rfl] at HS
        go_wp2_with fail
        go_roundw
        case rel => exact ⟨i + 1, H2, by omega, by go_num, HD2, HLEN.out rfl, HS⟩
        case measure => simp [intOf]; omega
      · rw [if_neg he] at HS
        have hen : ((e : Int) == 0) = false := by rw [beq_eq_false_iff_ne]; omega
        obtain ⟨x1, x2⟩ := HD2.out.c
        have hcl := HD2.out.clearC
        go_wp2_with fail
        refine hcl.mono ?_
        rintro en w3 ⟨rfl, hD3⟩
        have HD3 : Hid _ := hD3
        clear hD3 hcl x1 x2
        go_wp2_with fail
        have hl := HL.out
        rw [HS.out] at hl
        have hl2 : a = ⟨(i : Int), 0, 30⟩ ∧ st = ⟨none, clearS H2⟩ := by
          rcases hl with ⟨_, h1, h2⟩ | ⟨h1, _⟩ | ⟨h1, _⟩
          · exact ⟨h1, h2⟩
          · simp [bind2] at h1
          · simp [bind2] at h1
        refine bodyPost_ret (v := encLn ⟨(i : Int), 0, 30⟩) (by simp [results, Tryz.results135, go_sem, encLn]) rfl ?_
        obtain ⟨rfl, rfl⟩ := hl2
        exact ⟨rfl, HD3.out.fail rfl rfl⟩
    · have hie : i = ni := by omega
      subst hie
      obtain ⟨ia, icp, hiv⟩ := HD.out.mw.slIm
      rw [HNI.out] at hiv
      rw [hiv] at m1
      rw [List.drop_eq_nil_of_le (by rw [HNI.out]; exact Nat.le_refl _), bindL] at HS
      have HS1 : Hid (R = settle1 m.mod S H1) := HS.out
      unfold settle1 at HS1
      clear HS hiv
      have m3 := HD.out.mw.c3
      have m5 := HD.out.mw.c5
      have m6 := HD.out.mw.c6
      have m7 := HD.out.mw.c7
      obtain ⟨ga, gcp, hgv⟩ := HD.out.mw.slGl
      rw [HNG.out] at hgv
      rw [hgv] at m7
      have hcal := HD.out.drew.resetC m.memMin m.memMax m.tabMin ng hng4 ⟨HM.out.memMin.1, HM.out.memMin.2, HM.out.memMax.1, HM.out.memMax.2, HM.out.tabMin.1, HM.out.tabMin.2⟩ HRES.out
      have hr2 : resetS m.mod.memMin m.mod.memMax m.mod.tabMin m.mod.globals.length = some S0 := by have := HRES.out; rw [← HNG.out] at this; exact this
      rw [hr2] at HS1
      dsimp only at HS1
      have HSM1 : Hid (SmOk S0 ∧ S0.gl.length = ng) := ⟨resetS_ok hng4 HRES.out, resetS_gl HRES.out⟩
      generalize m.memMin = mmin at *
      generalize m.memMax = mmax at *
      generalize m.tabMin = tmin at *
      clear hr2 hgv x2
      go_wp2_with fail
      go_still_tail 21, (by kernel_rfl)
      go_wp2_with fail
      refine hcal.mono ?_
      rintro en w2 ⟨rfl, hD2⟩
      have HD3 : Hid (Sda w w2 N mb m S0 H1) := hD2
      have HS2 : Hid (R = settle2 m.mod (globL S0 (m.globals.drop 0) 0) H1) := HS1.out
      clear hcal hD2 HD m1 m3 m5 m6 m7 x1 HS1
      go_wp2_with fail
      go_loopw [12] (fun ii w1 => ∃ (i : Nat) (S2 : Sm), i ≤ ng ∧ ii = .int .i64 i ∧ Hid (Sda w w1 N mb m S2 H1 ∧ SmOk S2 ∧ S2.gl.length = ng) ∧ Hid (R = settle2 m.mod (globL S2 (m.globals.drop i) i) H1)) (fun ii _ => ng + 1 - (intOf ii).toNat)
      case atStart => exact ⟨0, S0, by omega, rfl, ⟨HD3.out, HSM1.out⟩, HS2⟩
      case round =>
        clear HS2 HD3 HSM1
        obtain ⟨j, S2, hj, rfl, HD, HS⟩ := hrel
        obtain ⟨x1, x2⟩ := HD.out.1.c
        have m7 := HD.out.1.mw.c7
        by_cases hlt : j < ng
        · obtain ⟨y, hy⟩ : ∃ y, m.globals[j]? = some y := ⟨_, List.getElem?_eq_getElem (by rw [HNG.out]; exact hlt)⟩
          obtain ⟨gg, gcap, hgv, gg1, gg2, gg3, gc⟩ := HD.out.1.mw.atGl hy
          rw [HNG.out] at hgv gg2
          rw [hgv] at m7
          have d4 := gc 4 _ rfl
          have hyo := HM.out.globals y (List.mem_of_getElem? hy)
          have hcal := HD.out.1.drew.globC HD.out.2.1 j (by rw [HD.out.2.2]; exact hlt) y.init.y
          have hib : (j : Int) < (ng : Int) := by omega
          rw [drop_cons hy, globL] at HS
          have HOK : Hid (SmOk { S2 with gl := S2.gl.set j y.init.y } ∧ ({ S2 with gl := S2.gl.set j y.init.y } : Sm).gl.length = ng) := by
            have h2 := HD.out.2.1
            have hy2 := hyo.init.ok.y
            unfold u64R at hy2
            refine ⟨⟨h2.m, h2.b, h2.no, h2.t, by simp; exact h2.g.1, fun x hx => by
              rcases List.mem_or_eq_of_mem_set hx with h1 | h1
              · exact h2.g.2 x h1
              · rw [h1]; exact hy2⟩, by simp; exact HD.out.2.2⟩
          clear hy hyo hgv gc x2
          go_wp2_with fail
          go_still_tail 14, (by kernel_rfl)
          go_wp2_with fail
          refine hcal.mono ?_
          rintro en w4 ⟨rfl, hD4⟩
          have HD4 : Hid _ := hD4
          clear hcal hD4 HD m7 d4 x1 gg1 gg2 gg3
          go_wp2_with fail
          go_roundw
          case rel => exact ⟨j + 1, _, by omega, by go_num, ⟨HD4.out, HOK.out⟩, HS⟩
          case measure => simp [intOf]; omega
        · have hje : j = ng := by omega
          subst hje
          obtain ⟨ga, gcp, hgv⟩ := HD.out.1.mw.slGl
          rw [HNG.out] at hgv
          rw [hgv] at m7
          rw [List.drop_eq_nil_of_le (by rw [HNG.out]; exact Nat.le_refl _), globL] at HS
          obtain ⟨tl, htl⟩ : ∃ n, S2.tab.length = n := ⟨_, rfl⟩
          have htl8 : tl ≤ 8 := by rw [← htl]; exact HD.out.2.1.t.1
          have HS3 : Hid (R = match elemT tl ((m.es.map (·.1)).drop 0) 0 with
            | some i => ⟨i, 0, 31, S2, H1⟩
            | none => match dataT S2.bs.length m.datas 0 with
              | some i => ⟨i, 1, 31, S2, H1⟩
              | none => ⟨0, 0, 0, dataL (elemL S2 (m.es.map (·.1))) m.datas, H1⟩) := by rw [← htl]; exact HS.out
          have HTL : Hid (S2.tab.length = tl) := htl
          obtain ⟨ne, hne⟩ : ∃ n, m.es.length = n := ⟨_, rfl⟩
          have HNE : Hid _ := hne
          have hne3 : ne ≤ 3 := by rw [← hne]; have := HM.out.nel; unfold MT.mod at this; simpa using this
          have HD3 : Hid (Sda w wr N mb m S2 H1) := HD.out.1
          have HSM3 : Hid (SmOk S2) := HD.out.2.1
          clear hgv x1 x2 HS htl hne HD
          go_wp2_with fail
          clear m7
          go_loopw [13] (fun ii w1 => ∃ (i : Nat), i ≤ ne ∧ ii = .int .i64 i ∧ Hid (Sda w w1 N mb m S2 H1) ∧ Hid (R = match elemT tl ((m.es.map (·.1)).drop i) i with
            | some i => ⟨i, 0, 31, S2, H1⟩
            | none => match dataT S2.bs.length m.datas 0 with
              | some i => ⟨i, 1, 31, S2, H1⟩
              | none => ⟨0, 0, 0, dataL (elemL S2 (m.es.map (·.1))) m.datas, H1⟩)) (fun ii _ => ne + 1 - (intOf ii).toNat)
          case atStart => exact ⟨0, by omega, rfl, HD3, HS3⟩
          case round =>
            clear HS3 HD3
            obtain ⟨j3, hj3, rfl, HD, HS⟩ := hrel
            obtain ⟨x1, x2⟩ := HD.out.c
            have m10 := HD.out.mw.c10
            by_cases hlt : j3 < ne
            · obtain ⟨y, hy⟩ : ∃ y, m.es[j3]? = some y := ⟨_, List.getElem?_eq_getElem (by rw [HNE.out]; exact hlt)⟩
              obtain ⟨eg, ecap, hev, eg1, eg2, eg3, ec⟩ := HD.out.mw.atEl hy
              rw [HNE.out] at hev eg2
              rw [hev] at m10
              have d2 := ec 2 _ rfl
              have d3 := ec 3 _ rfl
              have hym : y.1 ∈ m.mod.elems := List.mem_map.2 ⟨y, List.mem_of_getElem? hy, rfl⟩
              have hyo := HM.out.elems y.1 hym
              have hy0 := hyo.off.ok.y.1
              have hy1 := hyo.off.i32 (HG.out.elems y.1 hym).1
              have hn6 := hyo.n
              obtain ⟨fa, fcp, hfv⟩ := (HD.out.mw.fns (List.mem_of_getElem? hy)).slice
              have hfr := OR.capR (HD.out.mw.fns (List.mem_of_getElem? hy)) hfv
              have hib : (j3 : Int) < (ne : Int) := by omega
              rw [drop_cons (show (m.es.map (·.1))[j3]? = some y.1 by rw [List.getElem?_map, hy]; rfl), elemT] at HS
              obtain ⟨nn, hnn⟩ : ∃ n, y.1.fns.length = n := ⟨_, rfl⟩
              obtain ⟨yy, hyy⟩ : ∃ n : Nat, y.1.off.y = (n : Int) := ⟨y.1.off.y.toNat, by omega⟩
              rw [hnn] at HS hn6 hfv hfr
              rw [hfv] at d3
              rw [hyy] at HS d2 hy1
              have hw1 : IntKind.u64.wrap (nn : Int) = (nn : Int) := u64id (by omega) (by omega)
              have hw2 : IntKind.u64.wrap ((yy : Int) + (nn : Int)) = (yy : Int) + (nn : Int) := u64id (by omega) (by omega)
              have hw3 : IntKind.u64.wrap (tl : Int) = (tl : Int) := u64id (by omega) (by omega)
              have HTC : Hid (∀ (U : World) (k : Nat), Sda w U N mb m S2 H1 → Calls Tryz.prog 194 #[.pointer (some ⟨N.sb, 0, none⟩)] (U.drewN k) (Qm (U.drewN k) (.int .i64 (tl : Int)))) := fun U k hU => by have := hU.tabC_ k; rw [HTL.out] at this; exact this
              clear hy hym hyo hy0 hnn hyy hev ec hfv
              by_cases hbig : (tl : Int) < (yy : Int) + (nn : Int)
              · rw [if_pos hbig] at HS
                have hbd : decide ((tl : Int) < (yy : Int) + (nn : Int)) = true := decide_eq_true hbig
                have hbd2 : decide (tl < yy + nn) = true := decide_eq_true (by omega)
                clear hbig
                go_wp2_with fail
                go_quiet ((go_at_call 194; exact Calls.quiet_of_same (HTC.out _ _ HD.out)))
                try rw [hbd2]
                try rw [hbd]
                clear hbd hbd2 hw1 hw2 hw3
                go_wp2_with fail
                refine ((HD.out.drewN _).clearC).mono ?_
                rintro en w5 ⟨rfl, hD5⟩
                have HD5 : Hid _ := hD5
                clear hD5
                go_wp2_with fail
                have hl := HL.out
                rw [HS.out] at hl
                have hl2 : a = ⟨(j3 : Int), 0, 31⟩ ∧ st = ⟨none, clearS H1⟩ := by
                  rcases hl with ⟨_, h1, h2⟩ | ⟨h1, _⟩ | ⟨h1, _⟩
                  · exact ⟨h1, h2⟩
                  · simp at h1
                  · simp at h1
                refine bodyPost_ret (v := encLn ⟨(j3 : Int), 0, 31⟩) (by simp [results, Tryz.results135, go_sem, encLn]) rfl ?_
                obtain ⟨rfl, rfl⟩ := hl2
                exact ⟨rfl, HD5.out.fail rfl rfl⟩
              · rw [if_neg hbig] at HS
                have hbd : decide ((tl : Int) < (yy : Int) + (nn : Int)) = false := decide_eq_false hbig
                have hbd2 : decide (tl < yy + nn) = false := decide_eq_false (by omega)
                clear hbig
                go_wp2_with fail
                go_quiet ((go_at_call 194; exact Calls.quiet_of_same (HTC.out _ _ HD.out)))
                try rw [hbd2]
                try rw [hbd]
                clear hbd hbd2 hw1 hw2 hw3
                go_wp2_with fail
                go_roundw
                case rel => exact ⟨j3 + 1, by omega, by go_num, HD.out.drewN _, HS⟩
                case measure => simp [intOf]; omega
            · have hje : j3 = ne := by omega
              subst hje
              obtain ⟨ea, ecp, hev⟩ := HD.out.mw.slEl
              rw [HNE.out] at hev
              rw [hev] at m10
              rw [List.drop_eq_nil_of_le (by rw [List.length_map, HNE.out]; exact Nat.le_refl _), elemT] at HS
              have HS4 : Hid (R = match dataT S2.bs.length (m.datas.drop 0) 0 with
                | some i => ⟨i, 1, 31, S2, H1⟩
                | none => ⟨0, 0, 0, dataL (elemL S2 (m.es.map (·.1))) m.datas, H1⟩) := HS.out
              obtain ⟨nd, hnd⟩ : ∃ n, m.datas.length = n := ⟨_, rfl⟩
              have HND : Hid _ := hnd
              have hnd3 : nd ≤ 3 := by rw [← hnd]; exact HM.out.nd
              have HD3 : Hid (Sda w wr N mb m S2 H1) := HD.out
              clear HS hnd hev x1 x2 HD
              go_wp2_with fail
              clear m10
              go_loopw [14] (fun ii w1 => ∃ (i : Nat), i ≤ nd ∧ ii = .int .i64 i ∧ Hid (Sda w w1 N mb m S2 H1) ∧ Hid (R = match dataT S2.bs.length (m.datas.drop i) i with
                | some i => ⟨i, 1, 31, S2, H1⟩
                | none => ⟨0, 0, 0, dataL (elemL S2 (m.es.map (·.1))) m.datas, H1⟩)) (fun ii _ => nd + 1 - (intOf ii).toNat)
              case atStart => exact ⟨0, by omega, rfl, HD3, HS4⟩
              case round =>
                clear HS4 HD3
                obtain ⟨j4, hj4, rfl, HD, HS⟩ := hrel
                obtain ⟨x1, x2⟩ := HD.out.c
                have m11 := HD.out.mw.c11
                by_cases hlt : j4 < nd
                · obtain ⟨y, hy⟩ : ∃ y, m.datas[j4]? = some y := ⟨_, List.getElem?_eq_getElem (by rw [HND.out]; exact hlt)⟩
                  obtain ⟨dg, dcap, hdv, dg1, dg2, dg3, dc⟩ := HD.out.mw.atDa hy
                  rw [HND.out] at hdv dg2
                  rw [hdv] at m11
                  have d2 := dc 2 _ rfl
                  have d3 := dc 3 _ rfl
                  have hym := List.mem_of_getElem? hy
                  have hyo := HM.out.datas y hym
                  have hy0 := hyo.off.ok.y.1
                  have hy1 := hyo.off.i32 (HG.out.datas y hym)
                  have hn6 := hyo.n
                  have hib : (j4 : Int) < (nd : Int) := by omega
                  rw [drop_cons hy, dataT] at HS
                  obtain ⟨yy, hyy⟩ : ∃ n : Nat, y.off.y = (n : Int) := ⟨y.off.y.toNat, by omega⟩
                  rw [hyy] at HS d2 hy1
                  rw [Int.toNat_natCast] at HS
                  have hw1 : IntKind.u32.wrap (yy : Int) = (yy : Int) := u32id (by omega) hy1
                  have hcal := HD.out.drew.fitsC HSM3.out yy y.bytes.size (by omega) (by omega)
                  clear hy hym hyo hy0 hyy hdv dc
                  go_wp2_with fail
                  go_still_tail 23, (by kernel_rfl)
                  go_wp2_with fail
                  refine hcal.mono ?_
                  rintro en w5 ⟨rfl, rfl⟩
                  clear hcal m11 d2 d3 x1
                  by_cases hbig : yy + y.bytes.size ≤ S2.bs.length
                  · rw [if_pos hbig] at HS
                    rw [decide_eq_true hbig]
                    go_wp2_with fail
                    go_roundw
                    case rel => exact ⟨j4 + 1, by omega, by go_num, HD.out.drew, HS⟩
                    case measure => simp [intOf]; omega
                  · rw [if_neg hbig] at HS
                    rw [decide_eq_false hbig]
                    go_wp2_with fail
                    refine (HD.out.drew.clearC).mono ?_
                    rintro en w6 ⟨rfl, hD5⟩
                    have HD5 : Hid _ := hD5
                    clear hD5 x2
                    go_wp2_with fail
                    have hl := HL.out
                    rw [HS.out] at hl
                    have hl2 : a = ⟨(j4 : Int), 1, 31⟩ ∧ st = ⟨none, clearS H1⟩ := by
                      rcases hl with ⟨_, h1, h2⟩ | ⟨h1, _⟩ | ⟨h1, _⟩
                      · exact ⟨h1, h2⟩
                      · simp at h1
                      · simp at h1
                    refine bodyPost_ret (v := encLn ⟨(j4 : Int), 1, 31⟩) (by simp [results, Tryz.results135, go_sem, encLn]) rfl ?_
                    obtain ⟨rfl, rfl⟩ := hl2
                    exact ⟨rfl, HD5.out.fail rfl rfl⟩
                · have hje : j4 = nd := by omega
                  subst hje
                  obtain ⟨da, dcp, hdv⟩ := HD.out.mw.slDa
                  rw [HND.out] at hdv
                  rw [hdv] at m11
                  rw [List.drop_eq_nil_of_le (by rw [HND.out]; exact Nat.le_refl _), dataT] at HS
                  have HS5 : Hid (R = ⟨0, 0, 0, dataL (elemL S2 ((m.es.map (·.1)).drop 0)) m.datas, H1⟩) := HS.out
                  have HD3 : Hid (Sda w wr N mb m S2 H1 ∧ SmOk S2) := ⟨HD.out, HSM3.out⟩
                  clear HS x1 x2 hdv HD
                  go_wp2_with fail
                  clear m11
                  go_loopw [15] (fun ii w1 => ∃ (i : Nat) (S3 : Sm), i ≤ j3 ∧ ii = .int .i64 i ∧ Hid (Sda w w1 N mb m S3 H1 ∧ SmOk S3) ∧ Hid (R = ⟨0, 0, 0, dataL (elemL S3 ((m.es.map (·.1)).drop i)) m.datas, H1⟩)) (fun ii _ => j3 + 1 - (intOf ii).toNat)
                  case atStart => exact ⟨0, S2, by omega, rfl, HD3, HS5⟩
                  case round =>
                    clear HS5 HD3 HSM3
                    obtain ⟨j5, S3, hj5, rfl, HD, HS⟩ := hrel
                    have m10 := HD.out.1.mw.c10
                    by_cases hlt : j5 < j3
                    · obtain ⟨y, hy⟩ : ∃ y, m.es[j5]? = some y := ⟨_, List.getElem?_eq_getElem (by rw [HNE.out]; exact hlt)⟩
                      obtain ⟨eg, ecap, hev, eg1, eg2, eg3, ec⟩ := HD.out.1.mw.atEl hy
                      rw [HNE.out] at hev eg2
                      rw [hev] at m10
                      have hym : y.1 ∈ m.mod.elems := List.mem_map.2 ⟨y, List.mem_of_getElem? hy, rfl⟩
                      have hyo := HM.out.elems y.1 hym
                      have hy0 := hyo.off.ok.y.1
                      have hy1 := hyo.off.i32 (HG.out.elems y.1 hym).1
                      have HYG : Hid _ := (HG.out.elems y.1 hym).2
                      have HYO : Hid _ := hyo
                      have hn6 := hyo.n
                      have hib : (j5 : Int) < (j3 : Int) := by omega
                      rw [drop_cons (show (m.es.map (·.1))[j5]? = some y.1 by rw [List.getElem?_map, hy]; rfl), elemL] at HS
                      obtain ⟨nn, hnn⟩ : ∃ n, y.1.fns.length = n := ⟨_, rfl⟩
                      have HNN : Hid _ := hnn
                      obtain ⟨yy, hyy⟩ : ∃ n : Nat, y.1.off.y = (n : Int) := ⟨y.1.off.y.toNat, by omega⟩
                      have HYY : Hid _ := hyy
                      rw [hnn] at hn6
                      rw [hyy] at HS hy1
                      rw [Int.toNat_natCast] at HS
                      have hw1 : IntKind.u32.wrap (yy : Int) = (yy : Int) := u32id (by omega) hy1
                      have HY : Hid _ := hy
                      have HS6 : Hid (R = ⟨0, 0, 0, dataL (elemL (fnsW S3 yy (y.1.fns.drop 0) 0) ((m.es.map (·.1)).drop (j5 + 1))) m.datas, H1⟩) := HS.out
                      have HD3 : Hid _ := HD.out
                      clear hy hym hyo hy0 hnn hyy hev ec HD HS
                      go_wp2_with fail
                      clear m10
                      go_loopw [16] (fun ii w1 => ∃ (i : Nat) (S4 : Sm), i ≤ nn ∧ ii = .int .i64 i ∧ Hid (Sda w w1 N mb m S4 H1 ∧ SmOk S4) ∧ Hid (R = ⟨0, 0, 0, dataL (elemL (fnsW S4 yy (y.1.fns.drop i) i) ((m.es.map (·.1)).drop (j5 + 1))) m.datas, H1⟩)) (fun ii _ => nn + 1 - (intOf ii).toNat)
                      case atStart => exact ⟨0, S3, by omega, rfl, HD3, HS6⟩
                      case round =>
                        clear HS6 HD3 eg1 eg2 eg3
                        obtain ⟨j6, S4, hj6, rfl, HD, HS⟩ := hrel
                        obtain ⟨x1, x2⟩ := HD.out.1.c
                        have m10 := HD.out.1.mw.c10
                        obtain ⟨eg', ecap', hev, eg1, eg2, eg3, ec⟩ := HD.out.1.mw.atEl HY.out
                        rw [HNE.out] at hev eg2
                        rw [hev] at m10
                        have d2 := ec 2 _ rfl
                        have d3 := ec 3 _ rfl
                        rw [HYY.out] at d2
                        have hfo := HD.out.1.mw.fns (List.mem_of_getElem? HY.out)
                        by_cases hlt6 : j6 < nn
                        · obtain ⟨f, hf⟩ : ∃ f, y.1.fns[j6]? = some f := ⟨_, List.getElem?_eq_getElem (by rw [HNN.out]; exact hlt6)⟩
                          obtain ⟨fg, fcap, hfv, fg1, fg2, fg3, fg4, fg5⟩ := hfo.ptr (by rw [HNN.out]; omega)
                          rw [HNN.out] at hfv fg2
                          rw [hfv] at d3
                          have e0 := fg4 j6 (.int .u32 f) (by unfold tabC; rw [List.getElem?_map, hf]; rfl)
                          have hfm := List.mem_of_getElem? hf
                          have hf0 := HYO.out.fns f hfm
                          unfold u32R at hf0
                          have hfn := HYG.out f hfm
                          have hn12 : m.mod.imports.length + m.mod.funcs.length ≤ 12 := by have := HM.out.ni; have := HM.out.nf; omega
                          have hf1000 : f < 1000 := by omega
                          rw [drop_cons hf, fnsW] at HS
                          have hcal := HD.out.1.drew.elemC HD.out.2 ((yy + j6) % 4294967296) (Nat.mod_lt _ (by decide)) f
                          have HOK : Hid (SmOk (setElemS S4 ((yy + j6) % 4294967296) f).2) := setElem_sm HD.out.2 _ hf1000
                          generalize setElemS S4 ((yy + j6) % 4294967296) f = sr at hcal HS HOK
                          have hib6 : (j6 : Int) < (nn : Int) := by omega
                          have hib5 : (j5 : Int) < (j3 : Int) := by omega
                          have hw2 : IntKind.u32.wrap (j6 : Int) = (j6 : Int) := u32id (by omega) (by omega)
                          have hw3 : IntKind.u32.wrap ((yy : Int) + (j6 : Int)) = (((yy + j6) % 4294967296 : Nat) : Int) := u32add
                          have hw4 : IntKind.i64.wrap f = f := iwr (by omega) (by omega)
                          obtain ⟨af, haf⟩ : ∃ af, (yy + j6) % 4294967296 = af := ⟨_, rfl⟩
                          rw [haf] at hcal hw3
                          clear hf hfm hf0 hfn hn12 hf1000 x2 haf hev ec hfo hfv fg4 fg5
                          go_wp2_with fail
                          go_still_tail 29, (by kernel_rfl)
                          go_wp2_with fail
                          refine hcal.mono ?_
                          rintro en w6 ⟨rfl, hD6⟩
                          have HD6 : Hid _ := hD6
                          clear hcal hD6 HD m10 d2 d3 e0 x1 eg1 eg2 eg3 fg1 fg2 fg3
                          go_wp2_with fail
                          go_roundw
                          case rel => exact ⟨j6 + 1, _, by omega, by go_num, ⟨HD6.out, HOK.out⟩, HS⟩
                          case measure => simp [intOf]; omega
                        · have hje : j6 = nn := by omega
                          subst hje
                          obtain ⟨fa, fcp, hfv⟩ := hfo.slice
                          rw [HNN.out] at hfv
                          rw [hfv] at d3
                          rw [List.drop_eq_nil_of_le (by rw [HNN.out]; exact Nat.le_refl _), fnsW] at HS
                          have hib5 : (j5 : Int) < (j3 : Int) := by omega
                          clear hev ec hfo hfv x1 x2 d2
                          go_wp2_with fail
                          go_roundw
                          case rel => exact ⟨j5 + 1, S4, by omega, by go_num, HD, HS⟩
                          case measure => simp [intOf]; omega
                    · have hje : j5 = j3 := by omega
                      subst hje
                      obtain ⟨ea, ecp, hev⟩ := HD.out.1.mw.slEl
                      rw [HNE.out] at hev
                      rw [hev] at m10
                      rw [List.drop_eq_nil_of_le (by rw [List.length_map, HNE.out]; exact Nat.le_refl _), elemL] at HS
                      have HS5 : Hid (R = ⟨0, 0, 0, dataL S3 (m.datas.drop 0), H1⟩) := HS.out
                      have HD3 : Hid _ := HD.out
                      clear HS hev HD
                      go_wp2_with fail
                      clear m10
                      go_loopw [17] (fun ii w1 => ∃ (i : Nat) (S5 : Sm), i ≤ j4 ∧ ii = .int .i64 i ∧ Hid (Sda w w1 N mb m S5 H1 ∧ SmOk S5) ∧ Hid (R = ⟨0, 0, 0, dataL S5 (m.datas.drop i), H1⟩)) (fun ii _ => j4 + 1 - (intOf ii).toNat)
                      case atStart => exact ⟨0, S3, by omega, rfl, HD3, HS5⟩
                      case round =>
                        clear HS5 HD3
                        obtain ⟨j7, S5, hj7, rfl, HD, HS⟩ := hrel
                        obtain ⟨x1, x2⟩ := HD.out.1.c
                        have m11 := HD.out.1.mw.c11
                        by_cases hlt : j7 < j4
                        · obtain ⟨y, hy⟩ : ∃ y, m.datas[j7]? = some y := ⟨_, List.getElem?_eq_getElem (by rw [HND.out]; exact hlt)⟩
                          obtain ⟨dg, dcap, hdv, dg1, dg2, dg3, dc⟩ := HD.out.1.mw.atDa hy
                          rw [HND.out] at hdv dg2
                          rw [hdv] at m11
                          have d2 := dc 2 _ rfl
                          have d3 := dc 3 _ rfl
                          have hym := List.mem_of_getElem? hy
                          have hyo := HM.out.datas y hym
                          have hy0 := hyo.off.ok.y.1
                          have hy1 := hyo.off.i32 (HG.out.datas y hym)
                          have hn6 := hyo.n
                          have hib : (j7 : Int) < (j4 : Int) := by omega
                          rw [drop_cons hy, dataL] at HS
                          obtain ⟨yy, hyy⟩ : ∃ n : Nat, y.off.y = (n : Int) := ⟨y.off.y.toNat, by omega⟩
                          rw [hyy] at HS d2 hy1
                          rw [Int.toNat_natCast] at HS
                          have hw1 : IntKind.u32.wrap (yy : Int) = (yy : Int) := u32id (by omega) hy1
                          have hcal := HD.out.1.drew.writeC HD.out.2 yy (by omega) y.bytes (by omega)
                          have HOK : Hid (SmOk (writeS S5 yy y.bytes).2) := writeS_ok HD.out.2 _ _
                          generalize writeS S5 yy y.bytes = sr at hcal HS HOK
                          clear hy hym hyo hy0 hyy x2 hdv dc
                          go_wp2_with fail
                          go_still_tail 22, (by kernel_rfl)
                          go_wp2_with fail
                          refine hcal.mono ?_
                          rintro en w6 ⟨rfl, hD6⟩
                          have HD6 : Hid _ := hD6
                          clear hcal hD6 HD m11 d2 d3 x1 dg1 dg2 dg3
                          go_wp2_with fail
                          go_roundw
                          case rel => exact ⟨j7 + 1, _, by omega, by go_num, ⟨HD6.out, HOK.out⟩, HS⟩
                          case measure => simp [intOf]; omega
                        · have hje : j7 = j4 := by omega
                          subst hje
                          obtain ⟨da, dcp, hdv⟩ := HD.out.1.mw.slDa
                          rw [HND.out] at hdv
                          rw [hdv] at m11
                          rw [List.drop_eq_nil_of_le (by rw [HND.out]; exact Nat.le_refl _), dataL] at HS
                          have hHS := HS.out
                          obtain ⟨N', n', hEm, hNx, hGw⟩ := HD.out.1.loaded
                          obtain ⟨y0, z0⟩ := HD.out.1.c0
                          obtain ⟨w8, hw8⟩ : ∃ w8, wr.setCell ⟨N.xb, 0, none⟩ (.pointer (some ⟨mb, 0, none⟩)) = w8 := ⟨_, rfl⟩
                          rw [hw8] at hEm hGw
                          have m9 : w8.cell? ⟨mb, 9, none⟩ = some (.int .i64 m.start) := hEm.mw.c9
                          have HEM : Hid _ := hEm
                          have HGW : Hid _ := hGw
                          have HNX : Hid (N'.xb = N.xb) := hNx
                          have hl := HL.out
                          rw [hHS] at hl
                          have HGL5 : Hid (GlOk m.mod S5) := by have := HGL.out; rw [hHS] at this; exact this rfl
                          have HSR : Hid (SRok m.mod ⟨0, 0, 0, S5, H1⟩) := by have := HENV.out; rw [hHS] at this; exact this rfl
                          clear hdv hEm hGw hNx hHS HGL HENV HD HS
                          rcases hl with ⟨h1, _⟩ | ⟨_, hst, ha, hs⟩ | ⟨_, hst, R2, hR2, ha, hs⟩
                          · exact absurd rfl h1
                          · have hsti : m.start < 0 := hst
                            have HF : Hid (∀ u, Kp (fun _ => False) w8 u → LdP w N.xb (fun k => N.bas k ∨ MwB mb m k) a st (.returned (encLn a)) u) := fun u hu => by
                              refine ⟨rfl, N'.load mb m, _, HNX.out, .inr ⟨⟨⟨m.mod, fs, numI⟩, S5⟩, n', by rw [hs], ?_, ⟨rfl, rfl⟩, rfl, ⟨HAF.out, HGL5.out, HEU.out⟩, rfl⟩, HGW.out.quiet hu⟩
                              rw [hs]
                              exact HEM.out.quiet hu
                            by_cases hz : fz < 0
                            · have HFE : Hid (a = ⟨0, 0, 0⟩) := by show _ = _; rw [ha, show fz.toNat = 0 by omega]; rfl
                              clear ha hs hst
                              go_wp2_with fail
                              refine bodyPost_ret (v := encLn ⟨0, 0, 0⟩) (by simp [results, Tryz.results135, go_sem, encLn]) rfl ?_
                              have hq := HF.out _ (Kp.refl _ _)
                              rw [HFE.out] at hq ⊢
                              exact hq
                            · have HFE : Hid (a = ⟨fz, 0, 0⟩) := by show _ = _; rw [ha, show ((fz.toNat : Nat) : Int) = fz by omega]
                              have hz0 : 0 ≤ fz := by omega
                              have hzd : decide (fz < 0) = false := decide_eq_false hz
                              clear ha hs hst hz
                              go_wp2_with fail
                              refine bodyPost_ret (v := encLn ⟨fz, 0, 0⟩) (by simp [results, Tryz.results135, go_sem, encLn]) rfl ?_
                              have hq := HF.out _ (Kp.refl _ _)
                              rw [HFE.out] at hq ⊢
                              exact hq
                          · have hst0 : 0 ≤ m.start := hst
                            obtain ⟨sn, hsn⟩ : ∃ sn : Nat, m.start = (sn : Int) := ⟨m.start.toNat, by omega⟩
                            obtain ⟨t, ht1, ht2, ht3⟩ : ∃ t, m.mod.typeOf (sn : Int) = some t ∧ t.p.size = 0 ∧ t.q.size = 0 := by
                              rcases HG.out.start with e | ⟨t, h1, h2, h3⟩
                              · have e2 : m.start = -1 := e
                                omega
                              · have e2 : m.mod.start = (sn : Int) := hsn
                                rw [e2] at h1
                                exact ⟨t, h1, h2, h3⟩
                            have hR3 : RunR ⟨m.mod, fs, numI⟩ fz.toNat sn (bitsM []) S5 H1 R2 := by
                              have e2 : m.mod.start.toNat = sn := by show m.start.toNat = sn; rw [hsn]; rfl
                              rw [e2] at hR2
                              exact hR2
                            have hrun := run_w (C := ⟨m.mod, fs, numI⟩) (vs := []) (va := none) (vn := 0) (vc := 0) (f := sn) (t := t) HEM.out rfl rfl rfl rfl HGC.out.ok HAF.out HGC.out.ty ht1 (by
                              have h0 : (tysB t.p).length = 0 := by rw [tysB_len]; exact ht2
                              rw [List.length_eq_zero_iff.1 h0]; rfl) (fun v hv => by simp at hv) ⟨fun v hv => by simp [bitsM] at hv, HSR.out.sm, HSR.out.hm, HSR.out.tab, HSR.out.bd⟩ HGL5.out HFZ.out hR3 (OR.nil _ _ _) (fun k e => (nil_own2 e).elim)
                            have hxe : (EN.load N' mb m).xb = N.xb := HNX.out
                            rw [hxe] at hrun
                            rw [hsn] at m9
                            have HA_ : Hid _ := ha
                            have HS_ : Hid _ := hs
                            clear ha hs hst hst0 hsn ht1 ht2 ht3 hR2 hR3 hxe
                            go_wp2_with fail
                            refine hrun.mono ?_
                            rintro en9 w9 ⟨N9, vo, rfl, e9, ⟨f1, f2, f3, f4, f5, f6, f7⟩, g9, gl9, _⟩
                            have hx9 : N9.xb = N.xb := f3.trans HNX.out
                            have HG9 : Hid (Gw w w9 (fun k => N.bas k ∨ MwB mb m k) N9.all) := by
                              have hg := HGW.out
                              refine ⟨hg.kp.later g9.kp (fun k e => ?_), fun k hk => ?_⟩
                              · rcases e with e | e
                                · rcases hg.own k e with e2 | e2
                                  · exact .inl e2
                                  · exact .inr e2
                                · exact (nil_own2 e).elim
                              · rcases g9.own k hk with e | e
                                · rcases e with e | e
                                  · exact hg.own k e
                                  · exact (nil_own2 e).elim
                                · exact .inr (Nat.le_trans hg.kp.size e)
                            have HE9 : Hid _ := e9
                            have HF9 : Hid (N9.fs = [] ∧ N9.vf = .slice none 0 0 ∧ N9.mb = mb ∧ N9.m = m) := ⟨f1, f2, f6, f7⟩
                            have HX9 : Hid (N9.xb = N.xb) := hx9
                            have HL9 : Hid _ := gl9
                            obtain ⟨R1, hR1⟩ : ∃ R1, R2.1 = R1 := ⟨_, rfl⟩
                            obtain ⟨Re, hRe⟩ : ∃ Re, R2.2.e = Re := ⟨_, rfl⟩
                            rw [hR1, hRe] at HA_ ⊢
                            rw [hRe] at HS_
                            clear hrun e9 f1 f2 f3 f4 f5 f6 f7 g9 gl9 hx9 hRe m9 y0 z0 hw8 m11
                            by_cases he : Re = 0
                            · have HST : Hid (st = ⟨some ⟨⟨m.mod, fs, numI⟩, R2.2.S⟩, R2.2.H⟩) := by show _ = _; rw [HS_.out, if_pos he]
                              subst he
                              go_wp2_with fail
                              refine bodyPost_ret (v := encLn ⟨(R1 : Int), 0, 0⟩) (by simp [results, Tryz.results135, go_sem, encLn]) rfl ?_
                              rw [HA_.out, HST.out]
                              exact ⟨rfl, N9, N9.all, HX9.out, .inr ⟨⟨⟨m.mod, fs, numI⟩, R2.2.S⟩, R2.1, rfl, HE9.out, ⟨HF9.out.1, HF9.out.2.1⟩, by rw [HF9.out.2.2.2], ⟨HAF.out, HL9.out, HEU.out⟩, rfl⟩, HG9.out⟩
                            · have hen : ((Re : Int) == 0) = false := by rw [beq_eq_false_iff_ne]; omega
                              have hen2 : ((Re : Int) != 0) = true := by simp [bne, hen]
                              have HST : Hid (st = ⟨none, clearS R2.2.H⟩) := by show _ = _; rw [HS_.out, if_neg he]
                              have her := HE9.out.er HF9.out.2.1
                              obtain ⟨c0, c1, c2, _⟩ := her.c
                              have zf := her.fz 0 (by decide)
                              obtain ⟨k1, k2⟩ := her.setM (.pointer none)
                              have hcl := hclear_m k1.h
                              rw [HX9.out] at c0 c2 zf k1 k2 hcl
                              have HK1 : Hid _ := k1
                              have HK2 : Hid _ := k2
                              clear he her k1 k2 c1
                              go_wp2_with fail
                              refine hcl.mono ?_
                              rintro en10 w10 ⟨rfl, vk, vp, hh, hg⟩
                              obtain ⟨q1, q2⟩ := HK1.out.host hh hg
                              have HQ1 : Hid _ := q1
                              have HQ2 : Hid _ := HK2.out.trans q2
                              clear q1 q2 hh hg hcl c0 c2 zf
                              go_wp2_with fail
                              refine bodyPost_ret (v := encLn ⟨(R1 : Int), 0, (Re : Int)⟩) (by simp [results, Tryz.results135, go_sem, encLn]) rfl ?_
                              rw [HA_.out, HST.out]
                              refine ⟨rfl, { N9 with vk := vk, vp := vp }, _, HX9.out, .inl ⟨rfl, ⟨_, _, HQ1.out⟩, rfl⟩, ?_⟩
                              have hg := HQ2.out
                              have hb : ∀ k, N9.bas k → N9.all k := fun k ⟨i, _, hi⟩ => ⟨i, hi⟩
                              refine ⟨HG9.out.kp.later hg.kp (fun k e => HG9.out.own k (hb k e)), fun k hk => ?_⟩
                              rcases hg.own k hk with e | e
                              · exact HG9.out.own k (hb k e)
                              · exact .inr (Nat.le_trans HG9.out.kp.size e)
end
end Go.Proofs.Qxb6500275aGreatDoor
