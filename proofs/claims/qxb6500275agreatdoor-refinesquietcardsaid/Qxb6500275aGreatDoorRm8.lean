import Derived.Test.Qxb6500275aGreatDoorRm1
import Derived.Test.Qxb6500275aGreatDoorMeb
set_option maxRecDepth 100000
set_option linter.unusedVariables false
set_option linter.unusedSimpArgs false
namespace Go.Proofs.Qxb6500275aGreatDoor
open Go Go.RowKit
section
variable {w w' : World} {sb : Nat} {vm vt vg : Value} {S : Sm} {P : Nat → Prop}
theorem ba_assoc (a b c : ByteArray) : a ++ b ++ c = a ++ (b ++ c) := ByteArray.append_assoc
theorem conv_nil (w : World) : (convert 104 9 (.slice none 0 0)).run Tryz.prog w = .ok (.string ⟨#[]⟩) w := by kernel_rfl
theorem memm_string (h : Ms w sb vm vt vg S) (hS : SmOk S) : (convert 104 9 vm).run Tryz.prog w = .ok (.string ⟨⟨S.bs.map UInt8.ofNat⟩⟩) w := by
  by_cases h0 : S.bs.length = 0
  · have e : S.bs = [] := List.eq_nil_of_length_eq_zero h0
    rcases h.m.2 with ⟨hv, _⟩ | ⟨g, cap, cur, hv, _⟩
    · rw [hv, e]
      exact conv_nil w
    · rw [h0] at hv
      rw [hv, e]
      have hb := run_convert_bytes_back (P := Tryz.prog) w 104 9 5 ⟨g, 0, none⟩ cap [] (by kernel_rfl) (by kernel_rfl) (by kernel_rfl) (by
        intro j hj
        simp at hj)
      exact hb
  · obtain ⟨g, cap, hv, g1, g2, g3, g4, g5⟩ := h.m.ptr h0
    rw [hv]
    have hb := run_convert_bytes_back (P := Tryz.prog) w 104 9 5 ⟨g, 0, none⟩ cap (S.bs.map UInt8.ofNat) (by kernel_rfl) (by kernel_rfl) (by kernel_rfl) (by
      intro j hj
      have hj2 : j < S.bs.length := by simpa using hj
      rw [add_none, Nat.zero_add, g4 j _ (rowB_get (List.getElem?_eq_getElem hj2))]
      have e3 : ((S.bs.map UInt8.ofNat)[j]'hj).toNat = S.bs[j] := by rw [List.getElem_map, UInt8.toNat_ofNat']; exact Nat.mod_eq_of_lt (hS.b _ (List.getElem_mem hj2))
      rw [e3])
    rw [List.length_map] at hb
    exact hb
set_option maxHeartbeats 8000000 in
theorem mshow_m (h : Ms w sb vm vt vg S) (hS : SmOk S) (ht : ∀ x, x ∈ S.tab → x ≤ 12) : Calls Tryz.prog 80 #[.pointer (some ⟨sb, 0, none⟩)] w (fun en w' => en = .returned (.string (showS S)) ∧ Kp (fun _ => False) w w') := by
  obtain ⟨c0, c1, c2, c3, c4⟩ := h.c
  have hm := hS.m
  have HH : Hid _ := h
  have HS : Hid _ := hS
  have HT : Hid _ := ht
  cases hh : S.has with
  | false =>
    rw [hh] at c0
    clear h hS ht c1 c2 c3 c4
    go_enter Tryz.func80, Tryz.ntmps80
    go_wp2
    obtain ⟨nt, hnt⟩ : ∃ nt, S.tab.length = nt := ⟨_, rfl⟩
    have hnt8 : nt ≤ 8 := by rw [← hnt]; exact HS.out.t.1
    have HNT : Hid _ := hnt
    clear hnt
    go_loopw [3, 6] (fun x ii w1 => ∃ (i : Nat) (u : World) (t : ByteArray), u = w1 ∧ i ≤ nt ∧ ii = .int .i64 i ∧ x = .string t ∧ t.size ≤ 1000 + 3 * i ∧ Hid (Kp (fun _ => False) w u ∧ tabB S.tab (memB S ++ ⟨#[32, 116, 97, 98]⟩) = tabB (S.tab.drop i) t)) (fun _ ii _ => nt + 1 - (intOf ii).toNat)
    case atStart => exact ⟨0, _, _, rfl, by omega, rfl, rfl, by decide, ⟨rfl, rfl, rfl, Nat.le_refl _, fun _ _ _ => rfl⟩, by rw [List.drop_zero]; unfold memB; rw [hh]; rfl⟩
    case round =>
      obtain ⟨i, u, t, e, hi, rfl, rfl, hts, HR⟩ := hrel
      subst e
      have hMs := HH.out.keep HR.out.1 (fun _ _ h => h)
      obtain ⟨_, _, _, d3, _⟩ := hMs.c
      obtain ⟨ta, tc, htv⟩ := hMs.t.slice
      rw [HNT.out] at htv
      by_cases hlt : i < nt
      · obtain ⟨x, hx⟩ : ∃ x, S.tab[i]? = some x := ⟨_, List.getElem?_eq_getElem (by rw [HNT.out]; exact hlt)⟩
        have hmx := List.mem_of_getElem? hx
        have hb := HS.out.t.2 x hmx
        have hb2 := HT.out x hmx
        obtain ⟨g, cap, hv, g1, g2, g3, g4, g5⟩ := hMs.t.ptr (by rw [HNT.out]; omega)
        have cx := g4 i _ (rowT_get hx)
        rw [HNT.out] at hv
        rw [hv] at d3
        have hlt' : (i : Int) < (nt : Int) := by omega
        have HX : Hid _ := hx
        have hic := itoa_calls x ⟨hb.1, hb2⟩ u
        have hil := itoaS_len x
        have hs1 : ¬ 9223372036854775807 < t.size + 1 := by omega
        have hs2 : ¬ 9223372036854775807 < t.size + 1 + (itoaS x).length := by omega
        clear hx hmx hMs htv hv g4 g5
        go_wp2_with fail
        refine hic.mono ?_
        rintro en u2 ⟨rfl, k2⟩
        clear hic
        go_wp2_with fail
        go_roundw
        case rel =>
          refine ⟨i + 1, _, _, rfl, by omega, by go_num, rfl, ?_, HR.out.1.trans k2, ?_⟩
          · rw [ByteArray.size_append, ByteArray.size_append]
            have e1 : (⟨#[32]⟩ : ByteArray).size = 1 := rfl
            have e2 : (⟨⟨itoaS x⟩⟩ : ByteArray).size = (itoaS x).length := rfl
            rw [e1, e2]
            omega
          rw [HR.out.2, drop_cons HX.out, ba_assoc]
          rfl
        case measure => simp [intOf]; omega
      · have hie : ¬ (i : Int) < (nt : Int) := by omega
        have HK : Hid _ := HR.out.1
        have HE : Hid (tabB S.tab (memB S ++ ⟨#[32, 116, 97, 98]⟩) = t) := by
          have h := HR.out.2
          rw [List.drop_eq_nil_of_le (by rw [HNT.out]; omega)] at h
          exact h
        rw [htv] at d3
        clear HR hMs htv
        obtain ⟨ng, hng⟩ : ∃ ng, S.gl.length = ng := ⟨_, rfl⟩
        have hng4 : ng ≤ 4 := by rw [← hng]; exact HS.out.g.1
        have HNG : Hid _ := hng
        clear hng
        have hs3 : ¬ 9223372036854775807 < t.size + 5 := by omega
        go_wp2_with fail
        go_loopw [3, 8] (fun x ii w1 => ∃ (j : Nat) (u2 : World) (t2 : ByteArray), u2 = w1 ∧ j ≤ ng ∧ ii = .int .i64 j ∧ x = .string t2 ∧ t2.size ≤ 2000 + 17 * j ∧ Hid (Kp (fun _ => False) w u2 ∧ globB S.gl (t ++ ⟨#[32, 103, 108, 111, 98]⟩) = globB (S.gl.drop j) t2)) (fun _ ii _ => ng + 1 - (intOf ii).toNat)
        case atStart =>
          refine ⟨0, _, _, rfl, by omega, rfl, rfl, ?_, ⟨HK.out.os, HK.out.tape, HK.out.output, HK.out.size, HK.out.block⟩, by rw [List.drop_zero]⟩
          rw [ByteArray.size_append]
          have e1 : (⟨#[32, 103, 108, 111, 98]⟩ : ByteArray).size = 5 := rfl
          rw [e1]
          omega
        case round =>
          obtain ⟨j, u2, t2, e, hj, rfl, rfl, hts2, HR⟩ := hrel
          subst e
          have hMs := HH.out.keep HR.out.1 (fun _ _ h => h)
          obtain ⟨_, _, _, _, d4⟩ := hMs.c
          obtain ⟨ga, gc, hgv⟩ := hMs.g.slice
          rw [HNG.out] at hgv
          by_cases hlt2 : j < ng
          · obtain ⟨x, hx⟩ : ∃ x, S.gl[j]? = some x := ⟨_, List.getElem?_eq_getElem (by rw [HNG.out]; exact hlt2)⟩
            have hmx := List.mem_of_getElem? hx
            have hb := HS.out.g.2 x hmx
            obtain ⟨g, cap, hv, g1, g2, g3, g4, g5⟩ := hMs.g.ptr (by rw [HNG.out]; omega)
            have cx := g4 j _ (rowG_get hx)
            rw [HNG.out] at hv
            rw [hv] at d4
            have hlt' : (j : Int) < (ng : Int) := by omega
            have HX : Hid _ := hx
            have hic := hex_any x 16 hb (by decide) u2
            have hil : (hexL x.toNat 16).length = 16 := hexL_length _ _
            have hs1 : ¬ 9223372036854775807 < t2.size + 1 := by omega
            have hs2 : ¬ 9223372036854775807 < t2.size + 1 + (hexL x.toNat 16).length := by omega
            clear hx hmx hMs hgv hv g4 g5
            go_wp2_with fail
            refine hic.mono ?_
            rintro en u3 ⟨rfl, k2⟩
            clear hic
            go_wp2_with fail
            go_roundw
            case rel =>
              refine ⟨j + 1, _, _, rfl, by omega, by go_num, rfl, ?_, HR.out.1.trans ⟨k2.os, k2.tape, k2.output, k2.size, fun k hk _ => k2.block k hk⟩, ?_⟩
              · rw [ByteArray.size_append, ByteArray.size_append]
                have e1 : (⟨#[32]⟩ : ByteArray).size = 1 := rfl
                have e2 : (⟨⟨hexL x.toNat 16⟩⟩ : ByteArray).size = (hexL x.toNat 16).length := rfl
                rw [e1, e2]
                omega
              rw [HR.out.2, drop_cons HX.out, ba_assoc]
              rfl
            case measure => simp [intOf]; omega
          · have hje : ¬ (j : Int) < (ng : Int) := by omega
            have hfin : showS S = t2 := by
              have h := HR.out.2
              rw [List.drop_eq_nil_of_le (by rw [HNG.out]; omega)] at h
              unfold showS
              rw [HE.out]
              exact h
            rw [hgv] at d4
            have HFIN : Hid _ := hfin
            clear hfin hMs hgv
            go_wp2
            refine bodyPost_ret (v := .string t2) (by simp [results, Tryz.results80, go_sem]) rfl ?_
            rw [HFIN.out]
            exact ⟨rfl, HR.out.1⟩
  | true =>
    rw [hh] at c0
    obtain ⟨cp, hcp⟩ : ∃ cp, S.cap / 64 = cp := ⟨_, rfl⟩
    obtain ⟨nb, hnb⟩ : ∃ nb, S.bs.length = nb := ⟨_, rfl⟩
    rw [hcp] at c2
    rw [hnb] at hm
    have hcp6 : cp ≤ 6 := by omega
    have HI : Hid (∀ W, Calls _ _ _ W _) := fun W => itoa_calls ((cp : Nat) : Int) (by omega) W
    have hIT := itoaS_len ((cp : Nat) : Int)
    obtain ⟨IT, hit⟩ : ∃ IT, itoaS ((cp : Nat) : Int) = IT := ⟨_, rfl⟩
    rw [hit] at hIT HI
    have hHB := hexSB_len ⟨⟨S.bs.map UInt8.ofNat⟩⟩ nb (by show nb ≤ (S.bs.map UInt8.ofNat).length; rw [List.length_map, hnb]; exact Nat.le_refl _)
    obtain ⟨HB, hhb⟩ : ∃ HB, hexSB ⟨⟨S.bs.map UInt8.ofNat⟩⟩ nb = HB := ⟨_, rfl⟩
    rw [hhb] at hHB
    have hsz : (⟨⟨S.bs.map UInt8.ofNat⟩⟩ : ByteArray).size = nb := by show (S.bs.map UInt8.ofNat).length = nb; rw [List.length_map, hnb]
    have hhx := fun W => hexstr_calls ⟨⟨S.bs.map UInt8.ofNat⟩⟩ (by rw [hsz]; omega) W
    rw [hsz, hhb] at hhx
    have HHX : Hid _ := hhx
    have HIT : Hid _ := hit
    have HHB : Hid _ := hhb
    have HCP : Hid _ := hcp
    have HNB : Hid _ := hnb
    clear h hS ht hcp hnb hhx hit hhb hsz c1 c3 c4
    go_enter Tryz.func80, Tryz.ntmps80
    go_wp2_with fail
    refine (HI.out w).mono ?_
    rintro en w1 ⟨rfl, k1⟩
    have hM1 := HH.out.keep k1 (fun _ _ h => h)
    obtain ⟨_, c1', _⟩ := hM1.c
    have hcv := memm_string hM1 HS.out
    clear hM1 c0 c2
    go_wp2_with (simp only [hcv])
    refine (HHX.out w1).mono ?_
    rintro en w2 ⟨rfl, k2⟩
    have K2 : Hid _ := k1.trans k2
    clear hcv c1'
    have hz1 : ¬ 9223372036854775807 < 4 + IT.length := by omega
    have hz2 : ¬ 9223372036854775807 < 4 + IT.length + 1 := by omega
    have hz3 : ¬ 9223372036854775807 < 4 + IT.length + 1 + HB.length := by omega
    have hz4 : ¬ 9223372036854775807 < 4 + IT.length + 1 + HB.length + 4 := by omega
    go_wp2_with fail
    obtain ⟨nt, hnt⟩ : ∃ nt, S.tab.length = nt := ⟨_, rfl⟩
    have hnt8 : nt ≤ 8 := by rw [← hnt]; exact HS.out.t.1
    have HNT : Hid _ := hnt
    clear hnt
    go_loopw [3, 6] (fun x ii w1 => ∃ (i : Nat) (u : World) (t : ByteArray), u = w1 ∧ i ≤ nt ∧ ii = .int .i64 i ∧ x = .string t ∧ t.size ≤ 1000 + 3 * i ∧ Hid (Kp (fun _ => False) w u ∧ tabB S.tab (memB S ++ ⟨#[32, 116, 97, 98]⟩) = tabB (S.tab.drop i) t)) (fun _ ii _ => nt + 1 - (intOf ii).toNat)
    case atStart => 
      refine ⟨0, _, _, rfl, by omega, rfl, rfl, ?_, K2.out, ?_⟩
      · rw [ByteArray.size_append, ByteArray.size_append, ByteArray.size_append, ByteArray.size_append]
        have e1 : (⟨⟨IT⟩⟩ : ByteArray).size = IT.length := rfl
        have e2 : (⟨⟨HB⟩⟩ : ByteArray).size = HB.length := rfl
        have e3 : (⟨#[109, 101, 109, 32]⟩ : ByteArray).size = 4 := rfl
        have e4 : (⟨#[32]⟩ : ByteArray).size = 1 := rfl
        have e5 : (⟨#[32, 116, 97, 98]⟩ : ByteArray).size = 4 := rfl
        rw [e1, e2, e3, e4, e5]
        omega
      · rw [List.drop_zero]
        unfold memB
        rw [if_pos hh, HCP.out, HIT.out, HNB.out, HHB.out]
    case round =>
      obtain ⟨i, u, t, e, hi, rfl, rfl, hts, HR⟩ := hrel
      subst e
      have hMs := HH.out.keep HR.out.1 (fun _ _ h => h)
      obtain ⟨_, _, _, d3, _⟩ := hMs.c
      obtain ⟨ta, tc, htv⟩ := hMs.t.slice
      rw [HNT.out] at htv
      by_cases hlt : i < nt
      · obtain ⟨x, hx⟩ : ∃ x, S.tab[i]? = some x := ⟨_, List.getElem?_eq_getElem (by rw [HNT.out]; exact hlt)⟩
        have hmx := List.mem_of_getElem? hx
        have hb := HS.out.t.2 x hmx
        have hb2 := HT.out x hmx
        obtain ⟨g, cap, hv, g1, g2, g3, g4, g5⟩ := hMs.t.ptr (by rw [HNT.out]; omega)
        have cx := g4 i _ (rowT_get hx)
        rw [HNT.out] at hv
        rw [hv] at d3
        have hlt' : (i : Int) < (nt : Int) := by omega
        have HX : Hid _ := hx
        have hic := itoa_calls x ⟨hb.1, hb2⟩ u
        have hil := itoaS_len x
        have hs1 : ¬ 9223372036854775807 < t.size + 1 := by omega
        have hs2 : ¬ 9223372036854775807 < t.size + 1 + (itoaS x).length := by omega
        clear hx hmx hMs htv hv g4 g5
        go_wp2_with fail
        refine hic.mono ?_
        rintro en u2 ⟨rfl, k2⟩
        clear hic
        go_wp2_with fail
        go_roundw
        case rel =>
          refine ⟨i + 1, _, _, rfl, by omega, by go_num, rfl, ?_, HR.out.1.trans k2, ?_⟩
          · rw [ByteArray.size_append, ByteArray.size_append]
            have e1 : (⟨#[32]⟩ : ByteArray).size = 1 := rfl
            have e2 : (⟨⟨itoaS x⟩⟩ : ByteArray).size = (itoaS x).length := rfl
            rw [e1, e2]
            omega
          rw [HR.out.2, drop_cons HX.out, ba_assoc]
          rfl
        case measure => simp [intOf]; omega
      · have hie : ¬ (i : Int) < (nt : Int) := by omega
        have HK : Hid _ := HR.out.1
        have HE : Hid (tabB S.tab (memB S ++ ⟨#[32, 116, 97, 98]⟩) = t) := by
          have h := HR.out.2
          rw [List.drop_eq_nil_of_le (by rw [HNT.out]; omega)] at h
          exact h
        rw [htv] at d3
        clear HR hMs htv
        obtain ⟨ng, hng⟩ : ∃ ng, S.gl.length = ng := ⟨_, rfl⟩
        have hng4 : ng ≤ 4 := by rw [← hng]; exact HS.out.g.1
        have HNG : Hid _ := hng
        clear hng
        have hs3 : ¬ 9223372036854775807 < t.size + 5 := by omega
        go_wp2_with fail
        go_loopw [3, 8] (fun x ii w1 => ∃ (j : Nat) (u2 : World) (t2 : ByteArray), u2 = w1 ∧ j ≤ ng ∧ ii = .int .i64 j ∧ x = .string t2 ∧ t2.size ≤ 2000 + 17 * j ∧ Hid (Kp (fun _ => False) w u2 ∧ globB S.gl (t ++ ⟨#[32, 103, 108, 111, 98]⟩) = globB (S.gl.drop j) t2)) (fun _ ii _ => ng + 1 - (intOf ii).toNat)
        case atStart =>
          refine ⟨0, _, _, rfl, by omega, rfl, rfl, ?_, ⟨HK.out.os, HK.out.tape, HK.out.output, HK.out.size, HK.out.block⟩, by rw [List.drop_zero]⟩
          rw [ByteArray.size_append]
          have e1 : (⟨#[32, 103, 108, 111, 98]⟩ : ByteArray).size = 5 := rfl
          rw [e1]
          omega
        case round =>
          obtain ⟨j, u2, t2, e, hj, rfl, rfl, hts2, HR⟩ := hrel
          subst e
          have hMs := HH.out.keep HR.out.1 (fun _ _ h => h)
          obtain ⟨_, _, _, _, d4⟩ := hMs.c
          obtain ⟨ga, gc, hgv⟩ := hMs.g.slice
          rw [HNG.out] at hgv
          by_cases hlt2 : j < ng
          · obtain ⟨x, hx⟩ : ∃ x, S.gl[j]? = some x := ⟨_, List.getElem?_eq_getElem (by rw [HNG.out]; exact hlt2)⟩
            have hmx := List.mem_of_getElem? hx
            have hb := HS.out.g.2 x hmx
            obtain ⟨g, cap, hv, g1, g2, g3, g4, g5⟩ := hMs.g.ptr (by rw [HNG.out]; omega)
            have cx := g4 j _ (rowG_get hx)
            rw [HNG.out] at hv
            rw [hv] at d4
            have hlt' : (j : Int) < (ng : Int) := by omega
            have HX : Hid _ := hx
            have hic := hex_any x 16 hb (by decide) u2
            have hil : (hexL x.toNat 16).length = 16 := hexL_length _ _
            have hs1 : ¬ 9223372036854775807 < t2.size + 1 := by omega
            have hs2 : ¬ 9223372036854775807 < t2.size + 1 + (hexL x.toNat 16).length := by omega
            clear hx hmx hMs hgv hv g4 g5
            go_wp2_with fail
            refine hic.mono ?_
            rintro en u3 ⟨rfl, k2⟩
            clear hic
            go_wp2_with fail
            go_roundw
            case rel =>
              refine ⟨j + 1, _, _, rfl, by omega, by go_num, rfl, ?_, HR.out.1.trans ⟨k2.os, k2.tape, k2.output, k2.size, fun k hk _ => k2.block k hk⟩, ?_⟩
              · rw [ByteArray.size_append, ByteArray.size_append]
                have e1 : (⟨#[32]⟩ : ByteArray).size = 1 := rfl
                have e2 : (⟨⟨hexL x.toNat 16⟩⟩ : ByteArray).size = (hexL x.toNat 16).length := rfl
                rw [e1, e2]
                omega
              rw [HR.out.2, drop_cons HX.out, ba_assoc]
              rfl
            case measure => simp [intOf]; omega
          · have hje : ¬ (j : Int) < (ng : Int) := by omega
            have hfin : showS S = t2 := by
              have h := HR.out.2
              rw [List.drop_eq_nil_of_le (by rw [HNG.out]; omega)] at h
              unfold showS
              rw [HE.out]
              exact h
            rw [hgv] at d4
            have HFIN : Hid _ := hfin
            clear hfin hMs hgv
            go_wp2
            refine bodyPost_ret (v := .string t2) (by simp [results, Tryz.results80, go_sem]) rfl ?_
            rw [HFIN.out]
            exact ⟨rfl, HR.out.1⟩

end
end Go.Proofs.Qxb6500275aGreatDoor
