import Derived.Test.Qxb6500275aGreatDoorRh4
set_option maxRecDepth 100000
set_option linter.unusedVariables false
set_option linter.unusedSimpArgs false
namespace Go.Proofs.Qxb6500275aGreatDoor
open Go Go.RowKit
theorem mk_app (a b : List UInt8) : (⟨⟨a⟩⟩ : ByteArray) ++ ⟨⟨b⟩⟩ = ⟨⟨a ++ b⟩⟩ := ByteArray.ext (by simp [ByteArray.data_append])
theorem mk_size (a : List UInt8) : (⟨⟨a⟩⟩ : ByteArray).size = a.length := rfl
section
variable {w : World} {hb : Nat} {vk vt : Value} {H : Hm}
theorem shA_snoc {i x : Nat} (hx : H.bd[i]? = some x) : shA H (i + 1) = shA H i ++ [32] ++ [UInt8.ofNat (48 + x)] := by
  unfold shA bdB
  rw [take_snocL hx, List.flatMap_append]
  simp
theorem shC_snoc {i x : Nat} (hx : H.tp[i]? = some x) : shC H (i + 1) = shC H i ++ [32] ++ hexL x 16 := by
  unfold shC tpB
  rw [take_snocL hx, List.flatMap_append]
  simp
set_option maxHeartbeats 8000000 in
theorem hshow_m (h : Mh w hb vk vt H) (hO : HmOk H) : Calls Tryz.prog 81 #[.pointer (some ⟨hb, 0, none⟩)] w (fun en w' => en = .returned (.string (showH H)) ∧ Kp (fun _ => False) w w') := by
  obtain ⟨nb, hnb⟩ : ∃ n, H.bd.length = n := ⟨_, rfl⟩
  obtain ⟨nt, hnt⟩ : ∃ n, H.tp.length = n := ⟨_, rfl⟩
  have hnb4 := hO.bd.1
  have hnt6 := hO.tp.1
  rw [hnb] at hnb4
  rw [hnt] at hnt6
  have HNB : Hid _ := hnb
  have HNT : Hid _ := hnt
  have HO : Hid _ := hO
  have HH : Hid _ := h
  clear h hO hnb hnt
  go_enter Tryz.func81, Tryz.ntmps81
  go_wp2
  go_loopw [3, 4] (fun x ii w1 => ∃ (i : Nat) (u : World) (t : ByteArray), u = w1 ∧ i ≤ nb ∧ ii = .int .i64 i ∧ x = .string t ∧ t.size ≤ 5 + 2 * i ∧ Hid (Kp (fun _ => False) w u ∧ t = ⟨⟨shA H i⟩⟩)) (fun _ ii _ => nb + 1 - (intOf ii).toNat)
  case atStart => exact ⟨0, _, _, rfl, by omega, rfl, rfl, by decide, Kp.refl _ _, rfl⟩
  case round =>
    obtain ⟨i, u, t, e, hi, rfl, rfl, hts, HR⟩ := hrel
    subst e
    have hM := HH.out.keep HR.out.1 (fun _ _ h => h)
    obtain ⟨d0, d1, d2, d3⟩ := hM.c
    obtain ⟨ka, kc, hkv⟩ := hM.k.slice
    rw [HNB.out] at hkv
    by_cases hlt : i < nb
    · have hlti : (i : Int) < (nb : Int) := by omega
      obtain ⟨x, hx⟩ : ∃ x, H.bd[i]? = some x := ⟨_, List.getElem?_eq_getElem (by rw [HNB.out]; exact hlt)⟩
      have hxr := HO.out.bd.2 x (List.mem_of_getElem? hx)
      obtain ⟨g, cap, hv, q1, q2, q3, q4, q5⟩ := hM.k.ptr (by rw [HNB.out]; omega)
      have q6 := q4 i (.int .i64 (x : Int)) (by unfold rowK; rw [List.getElem?_map, hx]; rfl)
      rw [HNB.out] at hv
      rw [hv] at d0
      obtain ⟨ns, hns⟩ : ∃ ns : ByteArray, (⟨⟨itoaS (x : Int)⟩⟩ : ByteArray) = ns := ⟨_, rfl⟩
      have hnsB : ns = ⟨⟨[UInt8.ofNat (48 + x)]⟩⟩ := by
        rw [← hns]
        unfold itoaS
        rw [if_neg (by omega), if_pos (by omega)]
        rfl
      have hns1 : ns.size = 1 := by rw [hnsB]; rfl
      have hic := itoa_calls (x : Int) (by omega) u
      rw [hns] at hic
      have HNS : Hid _ := hnsB
      have HX : Hid _ := hx
      have s1 : ¬ 9223372036854775807 < t.size + 1 := by omega
      have s2 : ¬ 9223372036854775807 < t.size + 1 + ns.size := by omega
      have s3 : ¬ 9223372036854775807 < t.size + (1 + ns.size) := by omega
      have s4 : ¬ 9223372036854775807 < 1 + ns.size := by omega
      clear hns hnsB hx q4 q5 hkv hv hM
      go_wp2_with fail
      refine hic.mono ?_
      rintro en w2 ⟨rfl, K2⟩
      go_wp2_with fail
      go_roundw
      case rel =>
        refine ⟨i + 1, _, _, rfl, by omega, by go_num, rfl, ?_, HR.out.1.trans K2, ?_⟩
        · rw [ByteArray.size_append, ByteArray.size_append, hns1]
          have e1 : (⟨#[32]⟩ : ByteArray).size = 1 := rfl
          omega
        · rw [shA_snoc HX.out, HR.out.2, HNS.out, mk_app, mk_app]
      all_goals (simp [intOf]; omega)
    · have hlti : ¬ (i : Int) < (nb : Int) := by omega
      have hin : i = nb := by omega
      subst hin
      rw [hkv] at d0
      have s1 : ¬ 9223372036854775807 < t.size + 5 := by omega
      have HTB : Hid (t ++ ⟨#[32, 116, 97, 112, 101]⟩ = ⟨⟨shC H 0⟩⟩) := by
        show _ = _
        rw [HR.out.2, mk_app]
        unfold shC shB
        rw [HNB.out]
        simp [tpB]
      have hs5 : (⟨#[32, 116, 97, 112, 101]⟩ : ByteArray).size = 5 := rfl
      have HKU : Hid _ := HR.out.1
      clear hM d1 d2 d3 HR
      go_wp2_with fail
      go_loopw [3, 6] (fun x ii w1 => ∃ (j : Nat) (u : World) (t : ByteArray), u = w1 ∧ j ≤ nt ∧ ii = .int .i64 j ∧ x = .string t ∧ t.size ≤ 30 + 17 * j ∧ Hid (Kp (fun _ => False) w u ∧ t = ⟨⟨shC H j⟩⟩)) (fun _ ii _ => nt + 1 - (intOf ii).toNat)
      case atStart => exact ⟨0, _, _, rfl, by omega, rfl, rfl, by rw [ByteArray.size_append, hs5]; omega, HKU.out, HTB.out⟩
      case round =>
        clear d0 HTB HKU s1 hts
        obtain ⟨j, u2, t2, e, hj, rfl, rfl, hts2, HR2⟩ := hrel
        subst e
        have hM := HH.out.keep HR2.out.1 (fun _ _ h => h)
        obtain ⟨d0, d1, d2, d3⟩ := hM.c
        obtain ⟨ta, tc, htv⟩ : ∃ a c, vt = .slice a nt c := by
          obtain ⟨_, _, a, c, e, _⟩ := hM.t
          exact ⟨a, c, by rw [← HNT.out]; exact e⟩
        by_cases hlt2 : j < nt
        · have hlti2 : (j : Int) < (nt : Int) := by omega
          obtain ⟨x, hx⟩ : ∃ x, H.tp[j]? = some x := ⟨_, List.getElem?_eq_getElem (by rw [HNT.out]; exact hlt2)⟩
          have hxr := HO.out.tp.2 x (List.mem_of_getElem? hx)
          obtain ⟨g, o, cap, hv, q1, q2, q3⟩ := hM.t.ptr (by rw [HNT.out]; omega)
          have q6 := q3 j (.int .u64 (x : Int)) (by unfold rowW; rw [List.getElem?_map, hx]; rfl)
          rw [HNT.out] at hv
          rw [hv] at d1
          obtain ⟨hs, hhs⟩ : ∃ hs, hxN (x : Int) 16 = hs := ⟨_, rfl⟩
          have hhB : hs = ⟨⟨hexL x 16⟩⟩ := by rw [← hhs]; rfl
          have hsz : hs.size = 16 := by rw [hhB, mk_size, hexL_length]
          have hxc := hxn_calls (x : Int) 16 (by omega) (by decide) u2
          rw [hhs] at hxc
          have HHB : Hid _ := hhB
          have HX : Hid _ := hx
          have s1 : ¬ 9223372036854775807 < t2.size + 1 := by omega
          have s2 : ¬ 9223372036854775807 < t2.size + 1 + hs.size := by omega
          have s3 : ¬ 9223372036854775807 < t2.size + (1 + hs.size) := by omega
          have s4 : ¬ 9223372036854775807 < 1 + hs.size := by omega
          clear hhB hhs hx q3 htv hv hM
          go_wp2_with fail
          refine hxc.mono ?_
          rintro en w2 ⟨rfl, K2⟩
          go_wp2_with fail
          go_roundw
          case rel =>
            refine ⟨j + 1, _, _, rfl, by omega, by go_num, rfl, ?_, HR2.out.1.trans K2, ?_⟩
            · rw [ByteArray.size_append, ByteArray.size_append, hsz]
              have e1 : (⟨#[32]⟩ : ByteArray).size = 1 := rfl
              omega
            · rw [shC_snoc HX.out, HR2.out.2, HHB.out, mk_app, mk_app]
          all_goals (simp [intOf]; omega)
        · have hlti2 : ¬ (j : Int) < (nt : Int) := by omega
          have hjn : j = nt := by omega
          subst hjn
          rw [htv] at d1
          obtain ⟨tt, htt⟩ : ∃ tt, strB H.tr = tt := ⟨_, rfl⟩
          rw [htt] at d2
          have htts : tt.size ≤ 864 := by rw [← htt, strB_size]; have := HO.out.tr.1; have := HO.out.rows; omega
          have HTT : Hid _ := htt
          clear htt htv hM
          have s1 : ¬ 9223372036854775807 < t2.size + 6 := by omega
          have s2 : ¬ 9223372036854775807 < t2.size + 6 + tt.size := by omega
          have s3 : ¬ 9223372036854775807 < t2.size + (6 + tt.size) := by omega
          have s4 : ¬ 9223372036854775807 < 6 + tt.size := by omega
          go_wp2
          go_ret
          refine ⟨?_, HR2.out.1⟩
          have : t2 ++ ⟨#[32, 116, 114, 97, 99, 101]⟩ ++ tt = showH H := by
            rw [HR2.out.2, ← HTT.out]
            unfold strB
            rw [mk_app, mk_app]
            unfold showH showHB shD
            rw [HNT.out]
          rw [← this]
          rfl
end
end Go.Proofs.Qxb6500275aGreatDoor
