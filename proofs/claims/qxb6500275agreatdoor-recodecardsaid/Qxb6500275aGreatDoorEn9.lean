import Derived.Test.Qxb6500275aGreatDoorEn8
set_option maxRecDepth 100000
set_option linter.unusedVariables false
set_option linter.unusedSimpArgs false
namespace Go.Proofs.Qxb6500275aGreatDoor
open Go Go.RowKit
section
variable {w : World} {wb : Nat} {v : Value} {l : List Nat}
set_option maxHeartbeats 16000000 in
theorem ins_t_14 (h : Wr w wb v l) (x y : Int) (tv : Value) (n0 : Nat) (T : List Int) (hT : ∀ u v', We w u wb v v' → TabAt u n0 tv T) (hx : 0 ≤ x ∧ x < 4294967296) (hy : 1 ≤ y ∧ y < 18446744073709551616) (hTl : T.length ≤ 24) (hTr : ∀ t ∈ T, u32R t) (hsm : l.length ≤ 90000) :
    Calls Tryz.prog 129 #[.pointer (some ⟨wb, 0, none⟩), .agg #[.int .u8 (14 : Nat), .int .u32 x, .int .u64 y], tv] w (Wq w wb v (l ++ (14 :: (uLeb (y - 1).toNat ++ ((T.drop x.toNat).take y.toNat).flatMap encI32)))) := by
  obtain ⟨a, rfl⟩ : ∃ a : Nat, x = a := ⟨x.toNat, by omega⟩
  obtain ⟨b, rfl⟩ : ∃ b : Nat, y = b := ⟨y.toNat, by omega⟩
  obtain ⟨c, hc⟩ : ∃ c : Nat, (b : Int) - 1 = c := ⟨b - 1, by omega⟩
  have lc : (uLeb c).length ≤ 10 := uLeb_le 9 _ (by simp; omega)
  obtain ⟨ta, htv⟩ := tab_slice (hT w v (We.refl _ _ _))
  obtain ⟨n, hn⟩ : ∃ n, T.length = n := ⟨_, rfl⟩
  rw [hn] at htv hTl
  subst htv
  have HT : Hid (∀ u v', We w u wb v v' → TabAt u n0 (.slice ta n n) T) := hT
  have HTN : Hid (T.length = n) := hn
  have HTR : Hid (∀ t ∈ T, u32R t) := hTr
  clear hT hn hTr
  have hk0 : Kp (fun _ => False) w (w.alloc (.cells #[.int .u8 (14 : Nat), .int .u32 a, .int .u64 b] 129)) := (Kp.refl _ _).alloc _
  have hb1 := (h.quiet hk0).byte (by omega) (14 : Nat)
  have HX : Hid (Bx (w.alloc (.cells #[.int .u8 (14 : Nat), .int .u32 a, .int .u64 b] 129)) w.heap.size ⟨(14 : Nat), a, b⟩ wb v) := Bx.new h (14 : Nat) a b
  obtain ⟨x0, x1, x2, _, _⟩ := HX.out
  dsimp only at x0 x1 x2
  have HK0 : Hid (Kp (fun _ => False) w (w.alloc (.cells #[.int .u8 (14 : Nat), .int .u32 a, .int .u64 b] 129))) := hk0
  clear h hk0
  rw [World.size_alloc] at hb1
  go_enter Tryz.func129, Tryz.ntmps129
  go_wp2_with fail
  refine hb1.mono ?_
  rintro en u1 ⟨rfl, v1, r1, e1⟩
  have HR1 : Hid (Wr u1 wb v1 (l ++ [(14 : Nat)])) := r1
  have HE1 : Hid (We w u1 wb v v1) := We.before HK0.out e1
  have HX1 : Hid (Bx u1 w.heap.size ⟨(14 : Nat), a, b⟩ wb v1) := HX.out.we e1
  obtain ⟨y0, y1, y2, _, _⟩ := HX1.out
  dsimp only at y0 y1 y2
  clear r1 e1 hb1 HX x0 x1 x2
  go_wp2_with fail
  try rw [hc]
  refine (wu_calls HR1.out c (by omega) (by rw [List.length_append]; simp; omega)).mono ?_
  rintro en u2 ⟨rfl, v2, r2, e2⟩
  have HR2 : Hid (Wr u2 wb v2 _) := r2
  have HE2 : Hid (We w u2 wb v v2) := HE1.out.trans e2
  have HX2 : Hid (Bx u2 w.heap.size _ wb v2) := HX1.out.we e2
  obtain ⟨y0, y1, y2, _, _⟩ := HX2.out
  dsimp only at y0 y1 y2
  clear r2 e2
  have HCB : Hid ((b : Int) - 1 = c) := hc
  clear hc lc
  go_wp2_with fail
  go_loopw [6] (fun jj u => ∃ (j k : Nat) (v' : Value), j = a + k ∧ k ≤ b ∧ k ≤ n ∧ (k = 0 ∨ j ≤ n) ∧ jj = .int .u64 j ∧ Hid (Wr u wb v' (l ++ [14] ++ uLeb c ++ ((T.drop a).take k).flatMap encI32)) ∧ Hid (We w u wb v v') ∧ Hid (Bx u w.heap.size ⟨14, a, b⟩ wb v')) (fun jj _ => a + b + 1 - (intOf jj).toNat)
  case atStart => exact ⟨a, 0, v2, by omega, by omega, by omega, .inl rfl, rfl, by rw [List.take_zero, List.flatMap_nil, List.append_nil]; exact HR2, HE2, HX2⟩
  case round =>
    clear HR1 HR2 HE1 HE2 HX1 HX2 y0 y1 y2
    obtain ⟨j, k, v', hj, hkb, hkn, hjn, rfl, HR, HE, HX⟩ := hrel
    obtain ⟨y0, y1, y2, _, _⟩ := HX.out
    dsimp only at y0 y1 y2
    have lc : (uLeb c).length ≤ 10 := uLeb_le 9 _ (by have := HCB.out; simp; omega)
    have hsub : (j : Int) - (a : Int) = (k : Int) := by omega
    have hj64 : (j : Int) < 18446744073709551600 := by omega
    have HJ : Hid (j = a + k ∧ k ≤ b ∧ k ≤ n ∧ (k = 0 ∨ j ≤ n) ∧ n ≤ 24) := ⟨hj, hkb, hkn, hjn, hTl⟩
    by_cases h1 : k < b
    · have g1 : (k : Int) < (b : Int) := by omega
      by_cases h2 : j < n
      · have g2 : (j : Int) < (n : Int) := by omega
        obtain ⟨t, ht⟩ : ∃ t, T[j]? = some t := ⟨_, List.getElem?_eq_getElem (by rw [HTN.out]; exact h2)⟩
        obtain ⟨kb, rfl, ct⟩ := tab_cell (HT.out wr v' HE.out) HTN.out ht
        have htr := HTR.out t (List.mem_of_getElem? ht)
        unfold u32R at htr
        obtain ⟨m, rfl⟩ : ∃ m : Nat, t = m := ⟨t.toNat, by omega⟩
        have hmb : (m : Int) < 4294967296 := by omega
        have lm : (uLeb m).length ≤ 5 := uLeb_le 4 _ (by simp; omega)
        have HTK : Hid (((T.drop a).take (k + 1)).flatMap encI32 = ((T.drop a).take k).flatMap encI32 ++ uLeb m) := by
          show _ = _
          rw [List.take_add_one, List.getElem?_drop, ← hj, ht, List.flatMap_append]
          simp [encI32]
        have hlen : (((T.drop a).take k).flatMap encI32).length ≤ 5 * 24 := by
          have h3 := labs_len (T := (T.drop a).take k) (fun t ht => HTR.out t (List.mem_of_mem_drop (List.mem_of_mem_take ht)))
          rw [List.length_take] at h3
          omega
        have HLN : Hid ((l ++ [14] ++ uLeb c ++ ((T.drop a).take k).flatMap encI32).length + (uLeb m).length ≤ 99999) := by
          show _ ≤ _
          simp only [List.length_append, List.length_singleton]
          omega
        have HJ2 : Hid (k < b ∧ j < n) := ⟨h1, h2⟩
        clear ht hlen htr hj hkb hkn hjn h1 h2 lc
        go_wp2_with fail
        refine (wu_calls HR.out m (by omega) HLN.out).mono ?_
        rintro en u2 ⟨rfl, v2, r2, e2⟩
        have HR2 : Hid (Wr u2 wb v2 _) := r2
        have HE2 : Hid (We w u2 wb v v2) := HE.out.trans e2
        have HX2 : Hid (Bx u2 w.heap.size _ wb v2) := HX.out.we e2
        clear r2 e2 hsub g1 g2 y0 y1 y2 ct
        go_wp2_with fail
        go_roundw
        case rel =>
          obtain ⟨hj, hkb, hkn, hjn, hTl⟩ := HJ.out
          obtain ⟨h1, h2⟩ := HJ2.out
          exact ⟨j + 1, k + 1, v2, by omega, by omega, by omega, .inr (by omega), by go_num, by rw [HTK.out, ← List.append_assoc]; exact HR2, HE2, HX2⟩
        case measure =>
          obtain ⟨hj, hkb, hkn, hjn, hTl⟩ := HJ.out
          obtain ⟨h1, h2⟩ := HJ2.out
          simp [intOf]; omega
      · have g2 : decide ((j : Int) < (n : Int)) = false := decide_eq_false (by omega)
        have g2n : decide (j < n) = false := decide_eq_false (by omega)
        have g1n : decide (k < b) = true := decide_eq_true h1
        have HEQ : Hid ((T.drop a).take k = (T.drop a).take b) := by
          show _ = _
          rw [List.take_of_length_le (by rw [List.length_drop, HTN.out]; omega), List.take_of_length_le (by rw [List.length_drop, HTN.out]; omega)]
        clear hj hkb hkn hjn h1 h2 lc
        go_wp2_with fail
        refine bodyPost_ret (v := .tuple #[]) (by simp [results, Tryz.results129, go_sem]) rfl ?_
        refine ⟨rfl, v', ?_, HE.out⟩
        have h3 := HR.out
        rw [HEQ.out] at h3
        rw [Int.toNat_natCast, Int.toNat_natCast, HCB.out, Int.toNat_natCast]
        simpa using h3
    · have g1 : decide ((k : Int) < (b : Int)) = false := decide_eq_false (by omega)
      have g1n : decide (k < b) = false := decide_eq_false (by omega)
      have HKB : Hid (k = b) := by show k = b; omega
      clear hj hkb hkn hjn h1 lc
      go_wp2_with fail
      refine bodyPost_ret (v := .tuple #[]) (by simp [results, Tryz.results129, go_sem]) rfl ?_
      refine ⟨rfl, v', ?_, HE.out⟩
      have h3 := HR.out
      rw [HKB.out] at h3
      rw [Int.toNat_natCast, Int.toNat_natCast, HCB.out, Int.toNat_natCast]
      simpa using h3
end
end Go.Proofs.Qxb6500275aGreatDoor
