import Derived.Test.Qxb6500275aGreatDoorSt2
import Derived.StillTailTactics
import Derived.Deep.QuietTactic
import Derived.BigQuiet
set_option maxRecDepth 100000
set_option linter.unusedVariables false
set_option linter.unusedSimpArgs false
namespace Go.Proofs.Qxb6500275aGreatDoor
open Go Go.RowKit
section
variable {w w' w1 w2 : World} {X : Mx} {T T' T1 : Nat → Prop} {V V' : Vm} {S S' : Sm} {H H' : Hm} {P : Nat → Prop} {mb : Nat} {M : Mod}
def encSt (r : SR) : Value := .tuple #[.int .i64 (r.i : Int), .int .i64 (r.k : Int), .int .i64 (r.e : Int)]
theorem u32id {y : Int} (h : 0 ≤ y) (h2 : y < 4294967296) : IntKind.u32.wrap y = y := by simp [IntKind.wrap, IntKind.bits, IntKind.signed]; omega
theorem u64id {y : Int} (h : 0 ≤ y) (h2 : y < 18446744073709551616) : IntKind.u64.wrap y = y := by simp [IntKind.wrap, IntKind.bits, IntKind.signed]; omega
def bind2 (M : Mod) (S : Sm) (p : Option Nat × Hm) : SR := match p with
  | (some i, H') => ⟨i, 0, 30, S, H'⟩
  | (none, H') => settle1 M S H'
theorem settleS_b (M : Mod) (S : Sm) (H : Hm) : settleS M S H = bind2 M S (bindL H M.imports 0) := rfl
theorem setElem_sm {S : Sm} (h : SmOk S) (i : Nat) {f : Int} (hf : f < 1000) : SmOk (setElemS S i f).2 := by
  unfold setElemS
  split
  · exact h
  split
  · exact h
  · refine ⟨h.m, h.b, h.no, ⟨by simp; exact h.t.1, fun x hx => ?_⟩, h.g⟩
    rcases List.mem_or_eq_of_mem_set hx with h1 | h1
    · exact h.t.2 x h1
    · rw [h1]; omega
theorem u32add {a j : Nat} : IntKind.u32.wrap ((a : Int) + (j : Int)) = (((a + j) % 4294967296 : Nat) : Int) := by simp [IntKind.wrap, IntKind.bits, IntKind.signed]
set_option maxHeartbeats 16000000 in
theorem settle_calls (hA : Ax X) (h : Xb w X T V S H) (hT : ∀ k, T k → X.hi ≤ k) (hM : ModOk M) (hG : SegOk M) (hmd : Md w mb M) (hlt : X.hi ≤ mb) (hS : SmOk S) :
    Calls Tryz.prog 39 #[.pointer (some ⟨X.xb, 0, none⟩), .pointer (some ⟨mb, 0, none⟩)] w (fun en w' => en = .returned (encSt (settleS M S H)) ∧ ∃ T', Sdt w w' X T T' V (settleS M S H).S (settleS M S H).H) := by
  rw [settleS_b]
  obtain ⟨R, hR⟩ : ∃ R, bind2 M S (bindL H M.imports 0) = R := ⟨_, rfl⟩
  rw [hR]
  have HS : Hid (R = bind2 M S (bindL H (M.imports.drop 0) 0)) := hR.symm
  have HD0 : Hid (Sdt w w X T T V S H) := ⟨Kp.refl _ _, Tx.refl _ _ _, h⟩
  have HA : Hid _ := hA
  have HTT : Hid _ := hT
  have HM : Hid _ := hM
  have HG : Hid _ := hG
  have HMD : Hid _ := hmd
  have HLT : Hid _ := hlt
  have hwl : X.hi ≤ w.heap.size := Nat.le_trans hlt (Nat.le_of_lt hmd.lt)
  have HWL : Hid _ := hwl
  obtain ⟨ni, hni⟩ : ∃ n, M.imports.length = n := ⟨_, rfl⟩
  have HNI : Hid _ := hni
  have hni4 : ni ≤ 4 := by rw [← hni]; exact hM.ni
  have HSM : Hid _ := hS
  clear hR h hA hT hM hG hmd hlt hwl hni hS
  go_enter Tryz.func39, Tryz.ntmps39
  go_wp2
  go_loopw [7] (fun ii w1 => ∃ (i : Nat) (T1 : Nat → Prop) (H1 : Hm), i ≤ ni ∧ ii = .int .i64 i ∧ Hid (Sdt w w1 X T T1 V S H1) ∧ Hid (R = bind2 M S (bindL H1 (M.imports.drop i) i))) (fun ii _ => ni + 1 - (intOf ii).toNat)
  case atStart => exact ⟨0, T, H, by omega, rfl, HD0, HS⟩
  case round =>
    clear HS HD0
    obtain ⟨i, T1, H1, hi, rfl, HD, HS⟩ := hrel
    obtain ⟨x3, x4⟩ := HD.out.c
    have hmd1 := HD.out.md HA.out HMD.out HLT.out
    obtain ⟨ia, m1, iat⟩ := hmd1.imps
    rw [HNI.out] at m1
    by_cases hlt : i < ni
    · obtain ⟨y, hy⟩ : ∃ y, M.imports[i]? = some y := ⟨_, List.getElem?_eq_getElem (by rw [HNI.out]; exact hlt)⟩
      obtain ⟨k, rfl, d1⟩ := iat i y hy
      have hyo := HM.out.imports y (List.mem_of_getElem? hy)
      have hcal := bind_calls (HD.out.drew HA.out).xb.hw y.name (by have := hyo.name; omega)
      have hib : (i : Int) < (ni : Int) := by omega
      rw [drop_cons hy, bindL] at HS
      obtain ⟨r, hr⟩ : ∃ r, bindS H1 y.name = r := ⟨_, rfl⟩
      rw [hr] at hcal HS
      obtain ⟨e, H2⟩ := r
      clear hmd1 iat hy hyo hr
      go_wp2_with fail
      go_still_tail 12, (by kernel_rfl)
      go_wp2_with fail
      refine hcal.mono ?_
      rintro en w2 ⟨rfl, k2, T2, tx2, hw2⟩
      have HD2 : Hid (Sdt w w2 X T T2 V S H2) := (HD.out.drew HA.out).bind HA.out k2 tx2 hw2
      clear hcal k2 tx2 hw2 HD m1 x3 x4 d1
      dsimp only at HS ⊢
      by_cases he : e = 0
      · subst he
        rw [if_pos rfl] at HS
        go_wp2_with fail
        go_roundw
        case rel => exact ⟨i + 1, T2, H2, by omega, by go_num, HD2, HS⟩
        case measure => simp [intOf]; omega
      · rw [if_neg he] at HS
        have hen : ((e : Int) == 0) = false := by rw [beq_eq_false_iff_ne]; omega
        go_wp2_with fail
        refine bodyPost_ret (v := encSt ⟨i, 0, 30, S, H2⟩) (by simp [results, Tryz.results39, go_sem, encSt]) rfl ?_
        rw [HS.out]
        exact ⟨rfl, T2, HD2.out⟩
    · have hie : i = ni := by omega
      subst hie
      rw [List.drop_eq_nil_of_le (by rw [HNI.out]; exact Nat.le_refl _), bindL] at HS
      have HS1 : Hid (R = settle1 M S H1) := HS.out
      unfold settle1 at HS1
      clear HS iat
      obtain ⟨ga, xa, ea, da, c3, c4, c5, c6, c7, c8, c9, c10, c11, gat, xat, eat, dat⟩ := hmd1.rest
      obtain ⟨ng, hng⟩ : ∃ n, M.globals.length = n := ⟨_, rfl⟩
      have HNG : Hid _ := hng
      have hng4 : ng ≤ 4 := by rw [← hng]; exact HM.out.ng
      rw [hng] at HS1 c7
      have hcal := reset_calls (HD.out.drew HA.out).xb.mm M.memMin M.memMax M.tabMin ng hng4 ⟨HM.out.memMin.1, HM.out.memMin.2, HM.out.memMax.1, HM.out.memMax.2, HM.out.tabMin.1, HM.out.tabMin.2⟩
      obtain ⟨r, hr⟩ : ∃ r, resetS M.memMin M.memMax M.tabMin ng = r := ⟨_, rfl⟩
      have hrok := resetS_ok (S := (r.getD S)) (mm := M.memMin) (mx := M.memMax) (tm := M.tabMin) hng4
      rw [hr] at hcal HS1 hrok
      generalize M.memMin = mmin at *
      generalize M.memMax = mmax at *
      generalize M.tabMin = tmin at *
      clear hmd1 hng hr c4 c8 c9 c10 c11 gat xat eat dat
      go_wp2_with fail
      go_still_tail 21, (by kernel_rfl)
      go_wp2_with fail
      refine hcal.mono ?_
      rintro en w2 ⟨rfl, k2, mm2⟩
      have HD2 : Hid (Sdt w w2 X T T1 V (r.getD S) H1) := (HD.out.drew HA.out).store HA.out HTT.out HWL.out k2 mm2
      clear hcal k2 mm2 HD c3 c5 c6 c7 x3 x4 m1
      cases r with
      | none =>
        dsimp only at HS1
        unfold encRs
        go_wp2_with fail
        refine bodyPost_ret (v := encSt ⟨0, 0, 36, S, H1⟩) (by simp [results, Tryz.results39, go_sem, encSt]) rfl ?_
        rw [HS1.out]
        exact ⟨rfl, T1, HD2.out⟩
      | some S1 =>
        dsimp only at HS1
        unfold encRs
        have HSM1 : Hid (SmOk S1) := hrok rfl
        have HS2 : Hid (R = settle2 M (globL S1 (M.globals.drop 0) 0) H1) := HS1.out
        have HD3 : Hid (Sdt w w2 X T T1 V S1 H1) := HD2.out
        clear HD2 HS1 hrok
        go_wp2_with fail
        go_loopw [10] (fun ii w1 => ∃ (i : Nat) (S2 : Sm), i ≤ ng ∧ ii = .int .i64 i ∧ Hid (Sdt w w1 X T T1 V S2 H1 ∧ SmOk S2) ∧ Hid (R = settle2 M (globL S2 (M.globals.drop i) i) H1)) (fun ii _ => ng + 1 - (intOf ii).toNat)
        case atStart => exact ⟨0, S1, by omega, rfl, ⟨HD3.out, HSM1.out⟩, HS2⟩
        case round =>
          clear HS2 HD3 HSM1
          obtain ⟨j, S2, hj, rfl, HD, HS⟩ := hrel
          obtain ⟨x3, x4⟩ := HD.out.1.c
          have hmd1 := HD.out.1.md HA.out HMD.out HLT.out
          obtain ⟨ga, xa, ea, da, c3, c4, c5, c6, c7, c8, c9, c10, c11, gat, xat, eat, dat⟩ := hmd1.rest
          rw [HNG.out] at c7
          by_cases hlt : j < ng
          · obtain ⟨y, hy⟩ : ∃ y, M.globals[j]? = some y := ⟨_, List.getElem?_eq_getElem (by rw [HNG.out]; exact hlt)⟩
            obtain ⟨k, rfl, d0, d1, d2, d3, d4⟩ := gat j y hy
            have hyo := HM.out.globals y (List.mem_of_getElem? hy)
            have hcal := setGlobal_any (HD.out.1.drew HA.out).xb.mm HD.out.2 j y.init.y
            have hib : (j : Int) < (ng : Int) := by omega
            rw [drop_cons hy, globL] at HS
            have HOK : Hid (SmOk { S2 with gl := S2.gl.set j y.init.y }) := by
              have h2 := HD.out.2
              have hy2 := hyo.init.ok.y
              unfold u64R at hy2
              exact ⟨h2.m, h2.b, h2.no, h2.t, by simp; exact h2.g.1, fun x hx => by
                rcases List.mem_or_eq_of_mem_set hx with h1 | h1
                · exact h2.g.2 x h1
                · rw [h1]; exact hy2⟩
            clear hmd1 c3 c4 c5 c6 c8 c9 c10 c11 gat xat eat dat hy hyo d0 d1 d2 d3 x4
            go_wp2_with fail
            go_still_tail 14, (by kernel_rfl)
            go_wp2_with fail
            refine hcal.mono ?_
            rintro en w4 ⟨⟨rv, rfl⟩, k4, mm4⟩
            have HD4 : Hid (Sdt w w4 X T T1 V { S2 with gl := S2.gl.set j y.init.y } H1) := (HD.out.1.drew HA.out).store HA.out HTT.out HWL.out (k4.mono (fun _ e => .inl e)) mm4
            clear hcal k4 mm4 HD c7 d4 x3
            go_wp2_with fail
            go_roundw
            case rel => exact ⟨j + 1, _, by omega, by go_num, ⟨HD4.out, HOK.out⟩, HS⟩
            case measure => simp [intOf]; omega
          · have hje : j = ng := by omega
            subst hje
            rw [List.drop_eq_nil_of_le (by rw [HNG.out]; exact Nat.le_refl _), globL] at HS
            have HS3 : Hid (R = match elemT S2.tab.length (M.elems.drop 0) 0 with
              | some i => ⟨i, 0, 31, S2, H1⟩
              | none => match dataT S2.bs.length M.datas 0 with
                | some i => ⟨i, 1, 31, S2, H1⟩
                | none => ⟨0, 0, 0, dataL (elemL S2 M.elems) M.datas, H1⟩) := HS.out
            have hcal := tabLen_calls HD.out.1.xb.mm
            obtain ⟨tl, htl⟩ : ∃ n, S2.tab.length = n := ⟨_, rfl⟩
            have htl8 : tl ≤ 8 := by rw [← htl]; exact HD.out.2.t.1
            rw [htl] at hcal HS3
            have HTL : Hid _ := htl
            obtain ⟨ne, hne⟩ : ∃ n, M.elems.length = n := ⟨_, rfl⟩
            have HNE : Hid _ := hne
            have hne3 : ne ≤ 3 := by rw [← hne]; exact HM.out.nel
            clear hmd1 c3 c4 c5 c6 c8 c9 c10 c11 gat xat eat dat HS htl hne
            go_wp2_with fail
            refine hcal.mono ?_
            rintro en w4 ⟨rfl, rfl⟩
            clear hcal c7 x3 x4
            go_wp2_with fail
            have HD3 : Hid (Sdt w w4 X T T1 V S2 H1) := HD.out.1
            have HSM3 : Hid (SmOk S2) := HD.out.2
            clear HD
            go_loopw [12] (fun ii w1 => ∃ (i : Nat), i ≤ ne ∧ ii = .int .i64 i ∧ Hid (Sdt w w1 X T T1 V S2 H1) ∧ Hid (R = match elemT tl (M.elems.drop i) i with
              | some i => ⟨i, 0, 31, S2, H1⟩
              | none => match dataT S2.bs.length M.datas 0 with
                | some i => ⟨i, 1, 31, S2, H1⟩
                | none => ⟨0, 0, 0, dataL (elemL S2 M.elems) M.datas, H1⟩)) (fun ii _ => ne + 1 - (intOf ii).toNat)
            case atStart => exact ⟨0, by omega, rfl, HD3, HS3⟩
            case round =>
              clear HS3 HD3
              obtain ⟨j3, hj3, rfl, HD, HS⟩ := hrel
              have hmd1 := HD.out.md HA.out HMD.out HLT.out
              obtain ⟨ga, xa, ea, da, c3, c4, c5, c6, c7, c8, c9, c10, c11, gat, xat, eat, dat⟩ := hmd1.rest
              rw [HNE.out] at c10
              by_cases hlt : j3 < ne
              · obtain ⟨y, hy⟩ : ∃ y, M.elems[j3]? = some y := ⟨_, List.getElem?_eq_getElem (by rw [HNE.out]; exact hlt)⟩
                obtain ⟨k, fa, rfl, d0, d1, d2, d3, fat⟩ := eat j3 y hy
                have hym := List.mem_of_getElem? hy
                have hyo := HM.out.elems y hym
                have hy0 := hyo.off.ok.y.1
                have hy1 := hyo.off.i32 (HG.out.elems y hym).1
                have hn6 := hyo.n
                have hib : (j3 : Int) < (ne : Int) := by omega
                rw [drop_cons hy, elemT] at HS
                obtain ⟨nn, hnn⟩ : ∃ n, y.fns.length = n := ⟨_, rfl⟩
                obtain ⟨yy, hyy⟩ : ∃ n : Nat, y.off.y = (n : Int) := ⟨y.off.y.toNat, by omega⟩
                rw [hnn] at HS d3 hn6
                rw [hyy] at HS d2 hy1
                have hw1 : IntKind.u64.wrap (nn : Int) = (nn : Int) := u64id (by omega) (by omega)
                have hw2 : IntKind.u64.wrap ((yy : Int) + (nn : Int)) = (yy : Int) + (nn : Int) := u64id (by omega) (by omega)
                have hw3 : IntKind.u64.wrap (tl : Int) = (tl : Int) := u64id (by omega) (by omega)
                clear hmd1 c3 c4 c5 c6 c7 c8 c9 c11 gat xat eat dat hy hym hyo d0 d1 hy0 fat hnn hyy
                by_cases hbig : (tl : Int) < (yy : Int) + (nn : Int)
                · rw [if_pos hbig] at HS
                  go_wp2_with fail
                  go_quiet (fail)
                  go_wp2_with fail
                  refine bodyPost_ret (v := encSt ⟨j3, 0, 31, S2, H1⟩) (by simp [results, Tryz.results39, go_sem, encSt]) rfl ?_
                  rw [HS.out]
                  exact ⟨rfl, T1, HD.out.drewN HA.out _⟩
                · rw [if_neg hbig] at HS
                  have hbd : decide ((tl : Int) < (yy : Int) + (nn : Int)) = false := decide_eq_false hbig
                  clear hbig
                  go_wp2_with fail
                  go_quiet (fail)
                  go_wp2_with fail
                  go_roundw
                  case rel => exact ⟨j3 + 1, by omega, by go_num, HD.out.drewN HA.out _, HS⟩
                  case measure => simp [intOf]; omega
              · have hje : j3 = ne := by omega
                subst hje
                rw [List.drop_eq_nil_of_le (by rw [HNE.out]; exact Nat.le_refl _), elemT] at HS
                have HS4 : Hid (R = match dataT S2.bs.length (M.datas.drop 0) 0 with
                  | some i => ⟨i, 1, 31, S2, H1⟩
                  | none => ⟨0, 0, 0, dataL (elemL S2 M.elems) M.datas, H1⟩) := HS.out
                obtain ⟨nd, hnd⟩ : ∃ n, M.datas.length = n := ⟨_, rfl⟩
                have HND : Hid _ := hnd
                have hnd3 : nd ≤ 3 := by rw [← hnd]; exact HM.out.nd
                clear hmd1 c3 c4 c5 c6 c7 c8 c9 c11 gat xat eat dat HS hnd
                go_wp2_with fail
                have HD3 : Hid _ := HD.out
                clear HD c10
                go_loopw [13] (fun ii w1 => ∃ (i : Nat), i ≤ nd ∧ ii = .int .i64 i ∧ Hid (Sdt w w1 X T T1 V S2 H1) ∧ Hid (R = match dataT S2.bs.length (M.datas.drop i) i with
                  | some i => ⟨i, 1, 31, S2, H1⟩
                  | none => ⟨0, 0, 0, dataL (elemL S2 M.elems) M.datas, H1⟩)) (fun ii _ => nd + 1 - (intOf ii).toNat)
                case atStart => exact ⟨0, by omega, rfl, HD3, HS4⟩
                case round =>
                  clear HS4 HD3
                  obtain ⟨j4, hj4, rfl, HD, HS⟩ := hrel
                  have hmd1 := HD.out.md HA.out HMD.out HLT.out
                  obtain ⟨x3, x4⟩ := HD.out.c
                  obtain ⟨ga, xa, ea, da, c3, c4, c5, c6, c7, c8, c9, c10, c11, gat, xat, eat, dat⟩ := hmd1.rest
                  rw [HND.out] at c11
                  by_cases hlt : j4 < nd
                  · obtain ⟨y, hy⟩ : ∃ y, M.datas[j4]? = some y := ⟨_, List.getElem?_eq_getElem (by rw [HND.out]; exact hlt)⟩
                    obtain ⟨k, rfl, d0, d1, d2, d3⟩ := dat j4 y hy
                    have hym := List.mem_of_getElem? hy
                    have hyo := HM.out.datas y hym
                    have hy0 := hyo.off.ok.y.1
                    have hy1 := hyo.off.i32 (HG.out.datas y hym)
                    have hn6 := hyo.n
                    have hib : (j4 : Int) < (nd : Int) := by omega
                    rw [drop_cons hy, dataT] at HS
                    obtain ⟨yy, hyy⟩ : ∃ n : Nat, y.off.y = (n : Int) := ⟨y.off.y.toNat, by omega⟩
                    rw [hyy] at HS d2 hy1
                    rw [Int.toNat_natCast] at HS
                    have hw1 : IntKind.u32.wrap (yy : Int) = (yy : Int) := u32id (by omega) hy1
                    have hcal := mfits_calls (HD.out.drew HA.out).xb.mm HSM3.out yy y.bytes.size (by omega) (by omega)
                    clear hmd1 c3 c4 c5 c6 c7 c8 c9 c10 gat xat eat dat hy hym hyo d0 d1 hy0 hyy x4
                    go_wp2_with fail
                    go_still_tail 23, (by kernel_rfl)
                    go_wp2_with fail
                    refine hcal.mono ?_
                    rintro en w5 ⟨rfl, rfl⟩
                    clear hcal c11 d2 d3 x3
                    by_cases hbig : yy + y.bytes.size ≤ S2.bs.length
                    · rw [if_pos hbig] at HS
                      rw [decide_eq_true hbig]
                      go_wp2_with fail
                      go_roundw
                      case rel => exact ⟨j4 + 1, by omega, by go_num, HD.out.drew HA.out, HS⟩
                      case measure => simp [intOf]; omega
                    · rw [if_neg hbig] at HS
                      rw [decide_eq_false hbig]
                      go_wp2_with fail
                      refine bodyPost_ret (v := encSt ⟨j4, 1, 31, S2, H1⟩) (by simp [results, Tryz.results39, go_sem, encSt]) rfl ?_
                      rw [HS.out]
                      exact ⟨rfl, T1, HD.out.drew HA.out⟩
                  · have hje : j4 = nd := by omega
                    subst hje
                    rw [List.drop_eq_nil_of_le (by rw [HND.out]; exact Nat.le_refl _), dataT] at HS
                    have HS5 : Hid (R = ⟨0, 0, 0, dataL (elemL S2 (M.elems.drop 0)) M.datas, H1⟩) := HS.out
                    clear hmd1 c3 c4 c5 c6 c7 c8 c9 c10 gat xat eat dat HS x3 x4
                    go_wp2_with fail
                    have HD3 : Hid _ := HD.out
                    clear HD c11
                    go_loopw [15] (fun ii w1 => ∃ (i : Nat) (S3 : Sm), i ≤ j3 ∧ ii = .int .i64 i ∧ Hid (Sdt w w1 X T T1 V S3 H1 ∧ SmOk S3) ∧ Hid (R = ⟨0, 0, 0, dataL (elemL S3 (M.elems.drop i)) M.datas, H1⟩)) (fun ii _ => j3 + 1 - (intOf ii).toNat)
                    case atStart => exact ⟨0, S2, by omega, rfl, ⟨HD3.out, HSM3.out⟩, HS5⟩
                    case round =>
                      clear HS5 HD3 HSM3
                      obtain ⟨j5, S3, hj5, rfl, HD, HS⟩ := hrel
                      have hmd1 := HD.out.1.md HA.out HMD.out HLT.out
                      obtain ⟨ga, xa, ea, da, c3, c4, c5, c6, c7, c8, c9, c10, c11, gat, xat, eat, dat⟩ := hmd1.rest
                      rw [HNE.out] at c10
                      by_cases hlt : j5 < j3
                      · obtain ⟨y, hy⟩ : ∃ y, M.elems[j5]? = some y := ⟨_, List.getElem?_eq_getElem (by rw [HNE.out]; exact hlt)⟩
                        obtain ⟨k, fa, rfl, d0, d1, d2, d3, fat⟩ := eat j5 y hy
                        have hym := List.mem_of_getElem? hy
                        have hyo := HM.out.elems y hym
                        have hy0 := hyo.off.ok.y.1
                        have hy1 := hyo.off.i32 (HG.out.elems y hym).1
                        have HYG : Hid _ := (HG.out.elems y hym).2
                        have HYO : Hid _ := hyo
                        have hn6 := hyo.n
                        have hib : (j5 : Int) < (j3 : Int) := by omega
                        rw [drop_cons hy, elemL] at HS
                        obtain ⟨nn, hnn⟩ : ∃ n, y.fns.length = n := ⟨_, rfl⟩
                        have HNN : Hid _ := hnn
                        obtain ⟨yy, hyy⟩ : ∃ n : Nat, y.off.y = (n : Int) := ⟨y.off.y.toNat, by omega⟩
                        rw [hnn] at d3 hn6
                        rw [hyy] at HS d2 hy1
                        rw [Int.toNat_natCast] at HS
                        have hw1 : IntKind.u32.wrap (yy : Int) = (yy : Int) := u32id (by omega) hy1
                        have HY : Hid _ := hy
                        clear hmd1 c3 c4 c5 c6 c7 c8 c9 c11 gat xat eat dat hy hym hyo d0 d1 hy0 fat hnn hyy
                        go_wp2_with fail
                        have HD3 : Hid _ := HD.out
                        have HS6 : Hid (R = ⟨0, 0, 0, dataL (elemL (fnsW S3 yy (y.fns.drop 0) 0) (M.elems.drop (j5 + 1))) M.datas, H1⟩) := HS.out
                        clear HD HS c10 d2 d3
                        go_loopw [17] (fun ii w1 => ∃ (i : Nat) (S4 : Sm), i ≤ nn ∧ ii = .int .i64 i ∧ Hid (Sdt w w1 X T T1 V S4 H1 ∧ SmOk S4) ∧ Hid (R = ⟨0, 0, 0, dataL (elemL (fnsW S4 yy (y.fns.drop i) i) (M.elems.drop (j5 + 1))) M.datas, H1⟩)) (fun ii _ => nn + 1 - (intOf ii).toNat)
                        case atStart => exact ⟨0, S3, by omega, rfl, HD3, HS6⟩
                        case round =>
                          clear HS6 HD3
                          obtain ⟨j6, S4, hj6, rfl, HD, HS⟩ := hrel
                          have hmd1 := HD.out.1.md HA.out HMD.out HLT.out
                          obtain ⟨x3, x4⟩ := HD.out.1.c
                          obtain ⟨ga, xa, ea, da, c3, c4, c5, c6, c7, c8, c9, c10, c11, gat, xat, eat, dat⟩ := hmd1.rest
                          rw [HNE.out] at c10
                          obtain ⟨k', fa', rfl, d0, d1, d2, d3, fat⟩ := eat j5 y HY.out
                          rw [HNN.out] at d3
                          by_cases hlt6 : j6 < nn
                          · obtain ⟨f, hf⟩ : ∃ f, y.fns[j6]? = some f := ⟨_, List.getElem?_eq_getElem (by rw [HNN.out]; exact hlt6)⟩
                            obtain ⟨k2, rfl, e0⟩ := fat j6 f hf
                            have hfm := List.mem_of_getElem? hf
                            have hf0 := HYO.out.fns f hfm
                            unfold u32R at hf0
                            have hfn := HYG.out f hfm
                            have hn12 : M.imports.length + M.funcs.length ≤ 12 := by have := HM.out.ni; have := HM.out.nf; omega
                            have hf1000 : f < 1000 := by omega
                            rw [drop_cons hf, fnsW] at HS
                            have hcal := setElem_calls (HD.out.1.drew HA.out).xb.mm HD.out.2 ((yy + j6) % 4294967296) (Nat.mod_lt _ (by decide)) f
                            have HOK : Hid (SmOk (setElemS S4 ((yy + j6) % 4294967296) f).2) := setElem_sm HD.out.2 _ hf1000
                            generalize setElemS S4 ((yy + j6) % 4294967296) f = sr at hcal HS HOK
                            have hib6 : (j6 : Int) < (nn : Int) := by omega
                            have hib5 : (j5 : Int) < (j3 : Int) := by omega
                            have hw2 : IntKind.u32.wrap (j6 : Int) = (j6 : Int) := u32id (by omega) (by omega)
                            have hw3 : IntKind.u32.wrap ((yy : Int) + (j6 : Int)) = (((yy + j6) % 4294967296 : Nat) : Int) := u32add
                            have hw4 : IntKind.i64.wrap f = f := iwr (by omega) (by omega)
                            obtain ⟨af, haf⟩ : ∃ af, (yy + j6) % 4294967296 = af := ⟨_, rfl⟩
                            rw [haf] at hcal hw3
                            clear hmd1 c3 c4 c5 c6 c7 c8 c9 c11 gat xat eat dat d0 d1 d2 fat hf hfm hf0 hfn hn12 hf1000 x4 haf
                            go_wp2_with fail
                            go_still_tail 20, (by kernel_rfl)
                            go_wp2_with fail
                            refine hcal.mono ?_
                            rintro en w6 ⟨rfl, k6, mm6⟩
                            have HD6 : Hid (Sdt w w6 X T T1 V sr.2 H1) := (HD.out.1.drew HA.out).store HA.out HTT.out HWL.out (k6.mono (fun _ e => .inl e)) mm6
                            clear hcal k6 mm6 HD c10 d3 e0 x3
                            go_wp2_with fail
                            go_roundw
                            case rel => exact ⟨j6 + 1, _, by omega, by go_num, ⟨HD6.out, HOK.out⟩, HS⟩
                            case measure => simp [intOf]; omega
                          · have hje : j6 = nn := by omega
                            subst hje
                            rw [List.drop_eq_nil_of_le (by rw [HNN.out]; exact Nat.le_refl _), fnsW] at HS
                            have hib5 : (j5 : Int) < (j3 : Int) := by omega
                            clear hmd1 c3 c4 c5 c6 c7 c8 c9 c11 gat xat eat dat d0 d1 d2 fat x3 x4
                            go_wp2_with fail
                            go_roundw
                            case rel => exact ⟨j5 + 1, S4, by omega, by go_num, HD, HS⟩
                            case measure => simp [intOf]; omega
                      · have hje : j5 = j3 := by omega
                        subst hje
                        rw [List.drop_eq_nil_of_le (by rw [HNE.out]; exact Nat.le_refl _), elemL] at HS
                        have HS5 : Hid (R = ⟨0, 0, 0, dataL S3 (M.datas.drop 0), H1⟩) := HS.out
                        clear hmd1 c3 c4 c5 c6 c7 c8 c9 c11 gat xat eat dat HS
                        go_wp2_with fail
                        have HD3 : Hid _ := HD.out
                        clear HD c10
                        go_loopw [18] (fun ii w1 => ∃ (i : Nat) (S5 : Sm), i ≤ j4 ∧ ii = .int .i64 i ∧ Hid (Sdt w w1 X T T1 V S5 H1 ∧ SmOk S5) ∧ Hid (R = ⟨0, 0, 0, dataL S5 (M.datas.drop i), H1⟩)) (fun ii _ => j4 + 1 - (intOf ii).toNat)
                        case atStart => exact ⟨0, S3, by omega, rfl, HD3, HS5⟩
                        case round =>
                          clear HS5 HD3
                          obtain ⟨j7, S5, hj7, rfl, HD, HS⟩ := hrel
                          have hmd1 := HD.out.1.md HA.out HMD.out HLT.out
                          obtain ⟨x3, x4⟩ := HD.out.1.c
                          obtain ⟨ga, xa, ea, da, c3, c4, c5, c6, c7, c8, c9, c10, c11, gat, xat, eat, dat⟩ := hmd1.rest
                          rw [HND.out] at c11
                          by_cases hlt : j7 < j4
                          · obtain ⟨y, hy⟩ : ∃ y, M.datas[j7]? = some y := ⟨_, List.getElem?_eq_getElem (by rw [HND.out]; exact hlt)⟩
                            obtain ⟨k, rfl, d0, d1, d2, d3⟩ := dat j7 y hy
                            have hym := List.mem_of_getElem? hy
                            have hyo := HM.out.datas y hym
                            have hy0 := hyo.off.ok.y.1
                            have hy1 := hyo.off.i32 (HG.out.datas y hym)
                            have hn6 := hyo.n
                            have hib : (j7 : Int) < (j4 : Int) := by omega
                            rw [drop_cons hy, dataL] at HS
                            obtain ⟨yy, hyy⟩ : ∃ n : Nat, y.off.y = (n : Int) := ⟨y.off.y.toNat, by omega⟩
                            rw [hyy] at HS d2 hy1
                            rw [Int.toNat_natCast] at HS
                            have hw1 : IntKind.u32.wrap (yy : Int) = (yy : Int) := u32id (by omega) hy1
                            have hcal := write_calls (HD.out.1.drew HA.out).xb.mm HD.out.2 yy (by omega) y.bytes (by omega)
                            have HOK : Hid (SmOk (writeS S5 yy y.bytes).2) := writeS_ok HD.out.2 _ _
                            generalize writeS S5 yy y.bytes = sr at hcal HS HOK
                            clear hmd1 c3 c4 c5 c6 c7 c8 c9 c10 gat xat eat dat hy hym hyo d0 d1 hy0 hyy x4
                            go_wp2_with fail
                            go_still_tail 22, (by kernel_rfl)
                            go_wp2_with fail
                            refine hcal.mono ?_
                            rintro en w6 ⟨rfl, k6, mm6⟩
                            have HD6 : Hid (Sdt w w6 X T T1 V sr.2 H1) := (HD.out.1.drew HA.out).store HA.out HTT.out HWL.out (k6.mono (fun _ e => .inr e)) mm6
                            clear hcal k6 mm6 HD c11 d2 d3 x3
                            go_wp2_with fail
                            go_roundw
                            case rel => exact ⟨j7 + 1, _, by omega, by go_num, ⟨HD6.out, HOK.out⟩, HS⟩
                            case measure => simp [intOf]; omega
                          · have hje : j7 = j4 := by omega
                            subst hje
                            rw [List.drop_eq_nil_of_le (by rw [HND.out]; exact Nat.le_refl _), dataL] at HS
                            clear hmd1 c3 c4 c5 c6 c7 c8 c9 c10 gat xat eat dat x3 x4
                            go_wp2_with fail
                            refine bodyPost_ret (v := encSt ⟨0, 0, 0, S5, H1⟩) (by simp [results, Tryz.results39, go_sem, encSt]) rfl ?_
                            rw [HS.out]
                            exact ⟨rfl, T1, HD.out.1⟩
end
end Go.Proofs.Qxb6500275aGreatDoor
