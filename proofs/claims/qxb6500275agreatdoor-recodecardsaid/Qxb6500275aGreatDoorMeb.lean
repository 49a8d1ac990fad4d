import Derived.Test.Qxb6500275aGreatDoorAp5
import Derived.Test.Qxb6500275aGreatDoorVc1
set_option maxRecDepth 100000
set_option linter.unusedVariables false
set_option linter.unusedSimpArgs false
namespace Go.Proofs.Qxb6500275aGreatDoor
open Go Go.RowKit
/- the store, spelt -/
def tabB : List Int → ByteArray → ByteArray
  | [], t => t
  | x :: xs, t => tabB xs (t ++ (⟨#[32]⟩ ++ ⟨⟨itoaS x⟩⟩))
def globB : List Int → ByteArray → ByteArray
  | [], t => t
  | x :: xs, t => globB xs (t ++ (⟨#[32]⟩ ++ ⟨⟨hexL x.toNat 16⟩⟩))
def memB (S : Sm) : ByteArray := if S.has = true then ((⟨#[109, 101, 109, 32]⟩ ++ ⟨⟨itoaS ((S.cap / 64 : Nat) : Int)⟩⟩) ++ ⟨#[32]⟩) ++ ⟨⟨hexSB ⟨⟨S.bs.map UInt8.ofNat⟩⟩ S.bs.length⟩⟩ else ⟨#[109, 101, 109, 32, 45]⟩
def showS (S : Sm) : ByteArray := globB S.gl (tabB S.tab (memB S ++ ⟨#[32, 116, 97, 98]⟩) ++ ⟨#[32, 103, 108, 111, 98]⟩)
section
variable {w w' : World} {sb rb : Nat} {S : Sm}
theorem mem_string (h : Mm w sb rb S) (hS : SmOk S) (hh : S.has = true) : (convert 104 9 (.slice (some ⟨rb, 0, none⟩) S.bs.length S.cap)).run Tryz.prog w = .ok (.string ⟨⟨S.bs.map UInt8.ofNat⟩⟩) w := by
  have hb := run_convert_bytes_back (P := Tryz.prog) w 104 9 5 ⟨rb, 0, none⟩ S.cap (S.bs.map UInt8.ofNat) (by kernel_rfl) (by kernel_rfl) (by kernel_rfl) (by
    intro j hj
    have hj2 : j < S.bs.length := by simpa using hj
    have hm := hS.m
    rw [add_none, Nat.zero_add, h.cells.bb j S.bs[j] (List.getElem?_eq_getElem hj2) (by omega)]
    have e3 : ((S.bs.map UInt8.ofNat)[j]'hj).toNat = S.bs[j] := by rw [List.getElem_map, UInt8.toNat_ofNat']; exact Nat.mod_eq_of_lt (hS.b _ (List.getElem_mem hj2))
    rw [e3])
  rw [List.length_map] at hb
  exact hb
theorem itoaS_len (x : Int) : (itoaS x).length ≤ 2 := by
  unfold itoaS
  split
  · decide
  · split <;> simp
theorem arrLen101 : Tryz.prog.arrayLen 101 = 8 := by kernel_rfl
theorem arrLen152 : Tryz.prog.arrayLen 152 = 4 := by kernel_rfl
theorem sizeOfU101 (w : World) : (sizeOf (Tryz.prog.elem 101)).run Tryz.prog w = .ok 1 w := by
  have e : Tryz.prog.elem 101 = 3 := by kernel_rfl
  have h : (sizeOf 3).run Tryz.prog w = .ok 1 w := by kernel_rfl
  rw [e]
  exact h
theorem sizeOfU152 (w : World) : (sizeOf (Tryz.prog.elem 152)).run Tryz.prog w = .ok 1 w := by
  have e : Tryz.prog.elem 152 = 91 := by kernel_rfl
  have h : (sizeOf 91).run Tryz.prog w = .ok 1 w := by kernel_rfl
  rw [e]
  exact h
theorem slice101 (B n : Nat) (h : n ≤ 8) (w : World) : (Instr.sliceAt 101 (.pointer (some ⟨B, 3, none⟩)) none (some (.int .i64 (n : Int))) none).run Tryz.prog w = .ok (.slice (some ⟨B, 3, none⟩) n 8) w := by
  rw [run_sliceAt_array_h w 101 ⟨B, 3, none⟩ (by kernel_rfl) .i64 (n : Int) (by omega) (by rw [arrLen101]; omega), sizeOfU101, arrLen101]
  simp only [Result.andThen_ok, slicedAt, Int.toNat_natCast]
  simp [add_non]
theorem slice152 (B n : Nat) (h : n ≤ 4) (w : World) : (Instr.sliceAt 152 (.pointer (some ⟨B, 12, none⟩)) none (some (.int .i64 (n : Int))) none).run Tryz.prog w = .ok (.slice (some ⟨B, 12, none⟩) n 4) w := by
  rw [run_sliceAt_array_h w 152 ⟨B, 12, none⟩ (by kernel_rfl) .i64 (n : Int) (by omega) (by rw [arrLen152]; omega), sizeOfU152, arrLen152]
  simp only [Result.andThen_ok, slicedAt, Int.toNat_natCast]
  simp [add_non]
set_option maxHeartbeats 8000000 in
theorem mshow_calls (h : Mm w sb rb S) (hS : SmOk S) (ht : ∀ x, x ∈ S.tab → x ≤ 12) : Calls Tryz.prog 49 #[.pointer (some ⟨sb, 0, none⟩)] w (fun en w' => en = .returned (.string (showS S)) ∧ Kp (fun _ => False) w w') := by
  have c1 := h.cells.c1
  have c2 := h.cells.c2
  have hm := hS.m
  have HH : Hid _ := h
  have HS : Hid _ := hS
  have HT : Hid _ := ht
  cases hh : S.has with
  | false =>
    rw [hh] at c1
    clear h hS ht
    go_enter Tryz.func49, Tryz.ntmps49
    go_wp2
    have c11 := HH.out.cells.c11
    obtain ⟨nt, hnt⟩ : ∃ nt, S.tab.length = nt := ⟨_, rfl⟩
    have hnt8 : nt ≤ 8 := by rw [← hnt]; exact HS.out.t.1
    rw [hnt] at c11
    have HNT : Hid _ := hnt
    have hsl := slice101 sb nt hnt8
    clear hnt
    go_quiet (fail)
    go_wp2_with fail
    have hnt9 : (nt : Int) ≤ 8 := by omega
    go_loopw [3, 45] (fun x ii w1 => ∃ (i : Nat) (u : World) (t : ByteArray), u = w1 ∧ i ≤ nt ∧ ii = .int .i64 i ∧ x = .string t ∧ t.size ≤ 1000 + 3 * i ∧ Hid (Kp (fun _ => False) w u ∧ tabB S.tab (memB S ++ ⟨#[32, 116, 97, 98]⟩) = tabB (S.tab.drop i) t)) (fun _ ii _ => nt + 1 - (intOf ii).toNat)
    case atStart => exact ⟨0, _, _, rfl, by omega, rfl, rfl, by decide, ⟨rfl, rfl, rfl, Nat.le_refl _, fun _ _ _ => rfl⟩, by rw [List.drop_zero]; unfold memB; rw [hh]; rfl⟩
    case round =>
      obtain ⟨i, u, t, e, hi, rfl, rfl, hts, HR⟩ := hrel
      subst e
      by_cases hlt : i < nt
      · obtain ⟨x, hx⟩ : ∃ x, S.tab[i]? = some x := ⟨_, List.getElem?_eq_getElem (by rw [HNT.out]; exact hlt)⟩
        have hmx := List.mem_of_getElem? hx
        have hb := HS.out.t.2 x hmx
        have hb2 := HT.out x hmx
        have cx := (HH.out.keep HR.out.1 (fun h => h) (fun h => h)).cells.tb i x hx (by omega)
        have hlt' : (i : Int) < (nt : Int) := by omega
        have HX : Hid _ := hx
        have hic := itoa_calls x ⟨hb.1, hb2⟩ u
        have hil := itoaS_len x
        have hs1 : ¬ 9223372036854775807 < 1 + (itoaS x).length := by omega
        have hs2 : ¬ 9223372036854775807 < t.size + (1 + (itoaS x).length) := by omega
        clear hx hmx
        go_wp2_with fail
        refine hic.mono ?_
        rintro en u2 ⟨rfl, k2⟩
        clear hic
        go_wp2_with fail
        go_roundw
        case rel =>
          refine ⟨i + 1, _, _, rfl, by omega, by go_num, rfl, ?_, HR.out.1.trans k2, ?_⟩
          · rw [ByteArray.size_append, ByteArray.size_append]
            have e1 : (⟨#[32]⟩ : ByteArray).size = 1 := rfl
            have e2 : (⟨⟨itoaS x⟩⟩ : ByteArray).size = (itoaS x).length := rfl
            rw [e1, e2]
            omega
          rw [HR.out.2, drop_cons HX.out]
          rfl
        case measure => simp [intOf]; omega
      · have hie : i = nt := by omega
        subst hie
        have HK : Hid _ := HR.out.1
        have HE : Hid (tabB S.tab (memB S ++ ⟨#[32, 116, 97, 98]⟩) = t) := by
          have h := HR.out.2
          rw [List.drop_eq_nil_of_le (by rw [HNT.out]; exact Nat.le_refl _)] at h
          exact h
        clear HR
        have c16 := (HH.out.keep HK.out (fun h => h) (fun h => h)).cells.c16
        obtain ⟨ng, hng⟩ : ∃ ng, S.gl.length = ng := ⟨_, rfl⟩
        have hng4 : ng ≤ 4 := by rw [← hng]; exact HS.out.g.1
        rw [hng] at c16
        have HNG : Hid _ := hng
        have hsl2 := slice152 sb ng hng4
        clear hng hsl
        have hs3 : ¬ 9223372036854775807 < t.size + 5 := by omega
        go_wp2_with fail
        go_quiet (fail)
        go_wp2_with fail
        go_loopw [3, 67] (fun x ii w1 => ∃ (j : Nat) (u2 : World) (t2 : ByteArray), u2 = w1 ∧ j ≤ ng ∧ ii = .int .i64 j ∧ x = .string t2 ∧ t2.size ≤ 2000 + 17 * j ∧ Hid (Kp (fun _ => False) w u2 ∧ globB S.gl (t ++ ⟨#[32, 103, 108, 111, 98]⟩) = globB (S.gl.drop j) t2)) (fun _ ii _ => ng + 1 - (intOf ii).toNat)
        case atStart =>
          refine ⟨0, _, _, rfl, by omega, rfl, rfl, ?_, ⟨HK.out.os, HK.out.tape, HK.out.output, HK.out.size, HK.out.block⟩, by rw [List.drop_zero]⟩
          rw [ByteArray.size_append]
          have e1 : (⟨#[32, 103, 108, 111, 98]⟩ : ByteArray).size = 5 := rfl
          rw [e1]
          omega
        case round =>
          obtain ⟨j, u2, t2, e, hj, rfl, rfl, hts2, HR⟩ := hrel
          subst e
          by_cases hlt2 : j < ng
          · obtain ⟨x, hx⟩ : ∃ x, S.gl[j]? = some x := ⟨_, List.getElem?_eq_getElem (by rw [HNG.out]; exact hlt2)⟩
            have hmx := List.mem_of_getElem? hx
            have hb := HS.out.g.2 x hmx
            have cx := (HH.out.keep HR.out.1 (fun h => h) (fun h => h)).cells.gb j x hx (by omega)
            have hlt' : (j : Int) < (ng : Int) := by omega
            have HX : Hid _ := hx
            have hic := hex_any x 16 hb (by decide) u2
            have hil : (hexL x.toNat 16).length = 16 := hexL_length _ _
            have hs1 : ¬ 9223372036854775807 < 1 + (hexL x.toNat 16).length := by omega
            have hs2 : ¬ 9223372036854775807 < t2.size + (1 + (hexL x.toNat 16).length) := by omega
            clear hx hmx
            go_wp2_with fail
            refine hic.mono ?_
            rintro en u3 ⟨rfl, k2⟩
            clear hic
            go_wp2_with fail
            go_roundw
            case rel =>
              refine ⟨j + 1, _, _, rfl, by omega, by go_num, rfl, ?_, HR.out.1.trans ⟨k2.os, k2.tape, k2.output, k2.size, fun k hk _ => k2.block k hk⟩, ?_⟩
              · rw [ByteArray.size_append, ByteArray.size_append]
                have e1 : (⟨#[32]⟩ : ByteArray).size = 1 := rfl
                have e2 : (⟨⟨hexL x.toNat 16⟩⟩ : ByteArray).size = (hexL x.toNat 16).length := rfl
                rw [e1, e2]
                omega
              rw [HR.out.2, drop_cons HX.out]
              rfl
            case measure => simp [intOf]; omega
          · have hje : j = ng := by omega
            subst hje
            have hfin : showS S = t2 := by
              have h := HR.out.2
              rw [List.drop_eq_nil_of_le (by rw [HNG.out]; exact Nat.le_refl _)] at h
              unfold showS
              rw [HE.out]
              exact h
            go_wp2
            refine bodyPost_ret (v := .string t2) (by simp [results, Tryz.results49, go_sem]) rfl ?_
            rw [hfin]
            exact ⟨rfl, HR.out.1⟩
  | true =>
    rw [hh] at c1
    rw [hh, if_pos rfl] at c2
    obtain ⟨cp, hcp⟩ : ∃ cp, S.cap = cp := ⟨_, rfl⟩
    obtain ⟨nb, hnb⟩ : ∃ nb, S.bs.length = nb := ⟨_, rfl⟩
    have hms := fun (W : World) (hM : Mm W sb rb S) => mem_string hM hS hh
    rw [hcp, hnb] at c2 hms
    rw [hcp, hnb] at hm
    have HMS : Hid _ := hms
    have HCP : Hid _ := hcp
    have HNB : Hid _ := hnb
    have hq9 : True := by trivial
    have hq : wrap64 ((cp : Int) / 64) = ((cp / 64 : Nat) : Int) := by
      unfold wrap64; omega
    have hq2 : (cp : Int) / 64 = ((cp / 64 : Nat) : Int) := by omega
    have hi := fun W => itoa_calls ((cp / 64 : Nat) : Int) (by omega) W
    have HI : Hid _ := hi
    have hIT := itoaS_len ((cp / 64 : Nat) : Int)
    obtain ⟨IT, hit⟩ : ∃ IT, itoaS ((cp / 64 : Nat) : Int) = IT := ⟨_, rfl⟩
    rw [hit] at hIT HI
    have hHB := hexSB_len ⟨⟨S.bs.map UInt8.ofNat⟩⟩ nb (by show nb ≤ (S.bs.map UInt8.ofNat).length; rw [List.length_map, hnb]; exact Nat.le_refl _)
    obtain ⟨HB, hhb⟩ : ∃ HB, hexSB ⟨⟨S.bs.map UInt8.ofNat⟩⟩ nb = HB := ⟨_, rfl⟩
    rw [hhb] at hHB
    have hsz : (⟨⟨S.bs.map UInt8.ofNat⟩⟩ : ByteArray).size = nb := by show (S.bs.map UInt8.ofNat).length = nb; rw [List.length_map, hnb]
    have hhx := fun W => hexstr_calls ⟨⟨S.bs.map UInt8.ofNat⟩⟩ (by rw [hsz]; omega) W
    rw [hsz, hhb] at hhx
    have HHX : Hid _ := hhx
    have HIT : Hid _ := hit
    have HHB : Hid _ := hhb
    have HQ2 : Hid _ := hq2
    clear h hS ht hms hcp hnb hi hq9 hhx hit hhb hsz hq2
    go_enter Tryz.func49, Tryz.ntmps49
    go_wp2_with fail
    rw [HQ2.out]
    refine (HI.out w).mono ?_
    rintro en w1 ⟨rfl, k1⟩
    clear hq
    have hM1 := HH.out.keep k1 (fun h => h) (fun h => h)
    have c2' := hM1.cells.c2
    rw [hh, if_pos rfl, HCP.out, HNB.out] at c2'
    have hcv := HMS.out w1 hM1
    have HM1 : Hid _ := hM1
    clear hM1 c1 c2
    go_wp2_with (simp only [hcv])
    refine (HHX.out w1).mono ?_
    rintro en w2 ⟨rfl, k2⟩
    have K2 : Hid _ := k1.trans k2
    clear hcv c2'
    have hz1 : ¬ 9223372036854775807 < 4 + IT.length := by omega
    have hz2 : ¬ 9223372036854775807 < 4 + IT.length + 1 := by omega
    have hz3 : ¬ 9223372036854775807 < 4 + IT.length + 1 + HB.length := by omega
    have hz4 : ¬ 9223372036854775807 < 4 + IT.length + 1 + HB.length + 4 := by omega
    go_wp2_with fail
    have c11 := (HH.out.keep K2.out (fun h => h) (fun h => h)).cells.c11
    obtain ⟨nt, hnt⟩ : ∃ nt, S.tab.length = nt := ⟨_, rfl⟩
    have hnt8 : nt ≤ 8 := by rw [← hnt]; exact HS.out.t.1
    rw [hnt] at c11
    have HNT : Hid _ := hnt
    have hsl := slice101 sb nt hnt8
    clear hnt
    go_quiet (fail)
    go_wp2_with fail
    have hnt9 : (nt : Int) ≤ 8 := by omega
    go_loopw [3, 45] (fun x ii w1 => ∃ (i : Nat) (u : World) (t : ByteArray), u = w1 ∧ i ≤ nt ∧ ii = .int .i64 i ∧ x = .string t ∧ t.size ≤ 1000 + 3 * i ∧ Hid (Kp (fun _ => False) w u ∧ tabB S.tab (memB S ++ ⟨#[32, 116, 97, 98]⟩) = tabB (S.tab.drop i) t)) (fun _ ii _ => nt + 1 - (intOf ii).toNat)
    case atStart => 
      refine ⟨0, _, _, rfl, by omega, rfl, rfl, ?_, ⟨K2.out.os, K2.out.tape, K2.out.output, K2.out.size, K2.out.block⟩, ?_⟩
      · simp only [ByteArray.size_append]
        have e1 : (⟨#[109, 101, 109, 32]⟩ : ByteArray).size = 4 := rfl
        have e2 : (⟨⟨IT⟩⟩ : ByteArray).size = IT.length := rfl
        have e3 : (⟨#[32]⟩ : ByteArray).size = 1 := rfl
        have e4 : (⟨⟨HB⟩⟩ : ByteArray).size = HB.length := rfl
        have e5 : (⟨#[32, 116, 97, 98]⟩ : ByteArray).size = 4 := rfl
        rw [e1, e2, e3, e4, e5]
        omega
      · rw [List.drop_zero]
        unfold memB
        rw [hh, if_pos rfl, HCP.out, HNB.out, HIT.out, HHB.out]
    case round =>
      obtain ⟨i, u, t, e, hi, rfl, rfl, hts, HR⟩ := hrel
      subst e
      by_cases hlt : i < nt
      · obtain ⟨x, hx⟩ : ∃ x, S.tab[i]? = some x := ⟨_, List.getElem?_eq_getElem (by rw [HNT.out]; exact hlt)⟩
        have hmx := List.mem_of_getElem? hx
        have hb := HS.out.t.2 x hmx
        have hb2 := HT.out x hmx
        have cx := (HH.out.keep HR.out.1 (fun h => h) (fun h => h)).cells.tb i x hx (by omega)
        have hlt' : (i : Int) < (nt : Int) := by omega
        have HX : Hid _ := hx
        have hic := itoa_calls x ⟨hb.1, hb2⟩ u
        have hil := itoaS_len x
        have hs1 : ¬ 9223372036854775807 < 1 + (itoaS x).length := by omega
        have hs2 : ¬ 9223372036854775807 < t.size + (1 + (itoaS x).length) := by omega
        clear hx hmx
        go_wp2_with fail
        refine hic.mono ?_
        rintro en u2 ⟨rfl, k2⟩
        clear hic
        go_wp2_with fail
        go_roundw
        case rel =>
          refine ⟨i + 1, _, _, rfl, by omega, by go_num, rfl, ?_, HR.out.1.trans k2, ?_⟩
          · rw [ByteArray.size_append, ByteArray.size_append]
            have e1 : (⟨#[32]⟩ : ByteArray).size = 1 := rfl
            have e2 : (⟨⟨itoaS x⟩⟩ : ByteArray).size = (itoaS x).length := rfl
            rw [e1, e2]
            omega
          rw [HR.out.2, drop_cons HX.out]
          rfl
        case measure => simp [intOf]; omega
      · have hie : i = nt := by omega
        subst hie
        have HK : Hid _ := HR.out.1
        have HE : Hid (tabB S.tab (memB S ++ ⟨#[32, 116, 97, 98]⟩) = t) := by
          have h := HR.out.2
          rw [List.drop_eq_nil_of_le (by rw [HNT.out]; exact Nat.le_refl _)] at h
          exact h
        clear HR
        have c16 := (HH.out.keep HK.out (fun h => h) (fun h => h)).cells.c16
        obtain ⟨ng, hng⟩ : ∃ ng, S.gl.length = ng := ⟨_, rfl⟩
        have hng4 : ng ≤ 4 := by rw [← hng]; exact HS.out.g.1
        rw [hng] at c16
        have HNG : Hid _ := hng
        have hsl2 := slice152 sb ng hng4
        clear hng hsl
        have hs3 : ¬ 9223372036854775807 < t.size + 5 := by omega
        go_wp2_with fail
        go_quiet (fail)
        go_wp2_with fail
        go_loopw [3, 67] (fun x ii w1 => ∃ (j : Nat) (u2 : World) (t2 : ByteArray), u2 = w1 ∧ j ≤ ng ∧ ii = .int .i64 j ∧ x = .string t2 ∧ t2.size ≤ 2000 + 17 * j ∧ Hid (Kp (fun _ => False) w u2 ∧ globB S.gl (t ++ ⟨#[32, 103, 108, 111, 98]⟩) = globB (S.gl.drop j) t2)) (fun _ ii _ => ng + 1 - (intOf ii).toNat)
        case atStart =>
          refine ⟨0, _, _, rfl, by omega, rfl, rfl, ?_, ⟨HK.out.os, HK.out.tape, HK.out.output, HK.out.size, HK.out.block⟩, by rw [List.drop_zero]⟩
          rw [ByteArray.size_append]
          have e1 : (⟨#[32, 103, 108, 111, 98]⟩ : ByteArray).size = 5 := rfl
          rw [e1]
          omega
        case round =>
          obtain ⟨j, u2, t2, e, hj, rfl, rfl, hts2, HR⟩ := hrel
          subst e
          by_cases hlt2 : j < ng
          · obtain ⟨x, hx⟩ : ∃ x, S.gl[j]? = some x := ⟨_, List.getElem?_eq_getElem (by rw [HNG.out]; exact hlt2)⟩
            have hmx := List.mem_of_getElem? hx
            have hb := HS.out.g.2 x hmx
            have cx := (HH.out.keep HR.out.1 (fun h => h) (fun h => h)).cells.gb j x hx (by omega)
            have hlt' : (j : Int) < (ng : Int) := by omega
            have HX : Hid _ := hx
            have hic := hex_any x 16 hb (by decide) u2
            have hil : (hexL x.toNat 16).length = 16 := hexL_length _ _
            have hs1 : ¬ 9223372036854775807 < 1 + (hexL x.toNat 16).length := by omega
            have hs2 : ¬ 9223372036854775807 < t2.size + (1 + (hexL x.toNat 16).length) := by omega
            clear hx hmx
            go_wp2_with fail
            refine hic.mono ?_
            rintro en u3 ⟨rfl, k2⟩
            clear hic
            go_wp2_with fail
            go_roundw
            case rel =>
              refine ⟨j + 1, _, _, rfl, by omega, by go_num, rfl, ?_, HR.out.1.trans ⟨k2.os, k2.tape, k2.output, k2.size, fun k hk _ => k2.block k hk⟩, ?_⟩
              · rw [ByteArray.size_append, ByteArray.size_append]
                have e1 : (⟨#[32]⟩ : ByteArray).size = 1 := rfl
                have e2 : (⟨⟨hexL x.toNat 16⟩⟩ : ByteArray).size = (hexL x.toNat 16).length := rfl
                rw [e1, e2]
                omega
              rw [HR.out.2, drop_cons HX.out]
              rfl
            case measure => simp [intOf]; omega
          · have hje : j = ng := by omega
            subst hje
            have hfin : showS S = t2 := by
              have h := HR.out.2
              rw [List.drop_eq_nil_of_le (by rw [HNG.out]; exact Nat.le_refl _)] at h
              unfold showS
              rw [HE.out]
              exact h
            go_wp2
            refine bodyPost_ret (v := .string t2) (by simp [results, Tryz.results49, go_sem]) rfl ?_
            rw [hfin]
            exact ⟨rfl, HR.out.1⟩
end
end Go.Proofs.Qxb6500275aGreatDoor
