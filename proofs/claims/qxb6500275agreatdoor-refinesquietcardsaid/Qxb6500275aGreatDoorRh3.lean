import Derived.Test.Qxb6500275aGreatDoorRh2
import Derived.Test.Qxb6500275aGreatDoorHo3
set_option maxRecDepth 100000
set_option linter.unusedVariables false
set_option linter.unusedSimpArgs false
namespace Go.Proofs.Qxb6500275aGreatDoor
open Go Go.RowKit
section
variable {w : World} {hb : Nat} {vk vt : Value} {H : Hm}
theorem wordsS_snoc (s : ByteArray) (i : Nat) : wordsS s (i + 1) = wordsS s i ++ [(wordF s (i : Int)).toNat] := by
  unfold wordsS
  rw [List.range_succ, List.map_append]
  rfl
theorem wordsS_len2 (s : ByteArray) (i : Nat) : (wordsS s i).length = i := by unfold wordsS; rw [List.length_map, List.length_range]
set_option maxHeartbeats 4000000 in
theorem htape_m (h : Mh w hb vk vt H) (s : ByteArray) (hs : s.size ≤ 9223372036854775807) : Calls Tryz.prog 136 #[.pointer (some ⟨hb, 0, none⟩), .string s] w (Hz w hb vk vt (.int .i64 ((tapeS H s).1 : Nat)) (tapeS H s).2) := by
  obtain ⟨X, hX⟩ : ∃ X, tapeS H s = X := ⟨_, rfl⟩
  rw [hX]
  have HX : Hid _ := hX
  clear hX
  obtain ⟨c0, c1, c2, c3⟩ := h.c
  have f1 := h.fz 1 (by decide)
  have HH : Hid _ := h
  clear h
  unfold tapeS at HX
  by_cases h48 : 48 < s.size
  · rw [if_pos h48] at HX
    have h48i : (48 : Int) < (s.size : Int) := by omega
    go_enter Tryz.func136, Tryz.ntmps136
    go_wp2
    go_ret
    rw [← HX.out]
    exact Hz.mk (Mj.start HH.out)
  rw [if_neg h48] at HX
  have h48i : ¬ (48 : Int) < (s.size : Int) := by omega
  by_cases h8 : s.size % 8 ≠ 0
  · rw [if_pos h8] at HX
    have h8i : ((s.size : Int) % 8 != 0) = true := by rw [bne_iff_ne]; omega
    go_enter Tryz.func136, Tryz.ntmps136
    go_wp2
    go_ret
    rw [← HX.out]
    exact Hz.mk (Mj.start HH.out)
  rw [if_neg h8] at HX
  have h8i : ((s.size : Int) % 8 != 0) = false := by rw [bne_eq_false_iff_eq]; omega
  obtain ⟨n, hn⟩ : ∃ n, s.size / 8 = n := ⟨_, rfl⟩
  have hni : (s.size : Int) / 8 = n := by omega
  have hn6 : n ≤ 6 := by omega
  rw [hn] at HX
  have HS := HH.out
  have HJ : Hid _ := (Mj.start HH.out).tn
  clear HS
  go_enter Tryz.func136, Tryz.ntmps136
  go_wp2
  go_loopw [5] (fun ii w1 => ∃ (i : Nat) (vt' : Value), i ≤ n ∧ ii = .int .i64 i ∧ Hid (Mjt w w1 (Mhv hb vk vt) hb vk vt' { H with tp := wordsS s i })) (fun ii _ => n + 1 - (intOf ii).toNat)
  case atStart => exact ⟨0, _, by omega, rfl, HJ⟩
  case round =>
    obtain ⟨i, vt', hi, rfl, HM⟩ := hrel
    by_cases hlt : i < n
    · have hlti : (i : Int) < (n : Int) := by omega
      obtain ⟨x, hx⟩ : ∃ x, (wordF s (i : Int)).toNat = x := ⟨_, rfl⟩
      have hxi : wordF s (i : Int) = (x : Int) := by have := wordF_range s (i : Int); omega
      have hw := word_any s (i : Int) hs wr
      rw [hxi] at hw
      obtain ⟨v', w', r1, ⟨r2, r3⟩, ⟨ra, rn, rc, rfl⟩, r5⟩ := HM.out.pt (by show (wordsS s i).length ≤ 1000; rw [wordsS_len2]; omega) x
      obtain ⟨d0, d1, d2, d3⟩ := HM.out.1.1.c
      have HR : Hid _ := r5
      have HXi : Hid _ := hxi
      have HXn : Hid _ := hx
      obtain ⟨tb, tn, tc, hvt⟩ : ∃ a n c, vt' = .slice a n c := by
        obtain ⟨a, c, e⟩ := HM.out.2.slice
        exact ⟨a, _, c, e⟩
      subst hvt
      clear r5 hxi hx c0 c1 c2 c3
      go_wp2_with fail
      refine hw.mono ?_
      rintro en w2 ⟨rfl, rfl⟩
      go_wp2_with (at_builtin; refine wpList_app rfl _ _ 67 rfl r1 ?_)
      go_wp2
      refine ⟨⟨i + 1, .slice ra rn rc, by omega, by go_num, ?_⟩, by simp [intOf]; omega⟩
      rw [wordsS_snoc, HXn.out]
      exact HR
    · have hin : i = n := by omega
      have hlti : ¬ (i : Int) < (n : Int) := by omega
      go_wp2
      go_ret
      rw [← HX.out]
      rw [hin] at HM
      exact Hz.mk HM.out.1
end
end Go.Proofs.Qxb6500275aGreatDoor
