import Derived.Test.Qxb6500275aGreatDoorEn3
set_option maxRecDepth 100000
set_option linter.unusedVariables false
set_option linter.unusedSimpArgs false
namespace Go.Proofs.Qxb6500275aGreatDoor
open Go Go.RowKit
theorem little_succ (k : Nat) (y : Int) : little (k + 1) y = little k y ++ [y.toNat / 256 ^ k % 256] := by
  unfold little
  rw [List.range_succ, List.map_append]; rfl
theorem little_len (k : Nat) (y : Int) : (little k y).length = k := by unfold little; simp
set_option maxHeartbeats 4000000 in
theorem wlittle_calls {w : World} {wb : Nat} {v : Value} {l : List Nat} (h : Wr w wb v l) (n y : Nat) (hn : n ≤ 8) (hy : y < 18446744073709551616) (hsm : l.length ≤ 99000) :
    Calls Tryz.prog 182 #[.pointer (some ⟨wb, 0, none⟩), .int .i64 n, .int .u64 y] w (Wq w wb v (l ++ little n y)) := by
  have HW : Hid (Wr w wb v l) := h
  clear h
  go_enter Tryz.func182, Tryz.ntmps182
  go_wp2
  go_loopw [2, 6] (fun yy kk u => ∃ (m k : Nat) (v' : Value), m < 18446744073709551616 ∧ k ≤ n ∧ yy = .int .u64 m ∧ kk = .int .i64 k ∧ Hid (m = y / 256 ^ k) ∧ Hid (Wr u wb v' (l ++ little k y)) ∧ Hid (We w u wb v v')) (fun _ kk _ => n + 1 - (intOf kk).toNat)
  case atStart => exact ⟨y, 0, v, hy, by omega, rfl, rfl, by show y = y / 256 ^ 0; simp, by show Wr w wb v (l ++ []); rw [List.append_nil]; exact HW.out, We.refl _ _ _⟩
  case round =>
    obtain ⟨m, k, v', hm, hk, rfl, rfl, HM, HR, HE⟩ := hrel
    by_cases hlt : k < n
    · have hb : (k : Int) < (n : Int) := by omega
      go_wp2_with fail
      rw [show (m : Int) % 256 = ((m % 256 : Nat) : Int) by omega]
      refine (HR.out.byte (by rw [List.length_append, little_len]; omega) (m % 256)).mono ?_
      rintro en u2 ⟨rfl, v2, r2, e2⟩
      have HR2 : Hid _ := r2
      have HE2 : Hid _ := HE.out.trans e2
      clear r2 e2
      go_wp2_with fail
      go_roundw
      case rel =>
        refine ⟨m / 256, k + 1, v2, by omega, by omega, by go_num, by go_num, ?_, ?_, HE2.out⟩
        · show m / 256 = y / 256 ^ (k + 1)
          rw [HM.out, Nat.div_div_eq_div_mul, Nat.pow_succ]
        · show Wr _ _ _ _
          rw [little_succ, Int.toNat_natCast, ← HM.out, ← List.append_assoc]
          exact HR2.out
      case measure => simp [intOf]; omega
    · have hb : decide ((k : Int) < (n : Int)) = false := decide_eq_false (by omega)
      go_wp2_with fail
      refine bodyPost_ret (v := .tuple #[]) (by simp [results, Tryz.results182, go_sem]) rfl ?_
      have : k = n := by omega
      subst this
      exact ⟨rfl, v', HR.out, HE.out⟩
theorem natsOf_take_succ (t : ByteArray) (i : Nat) (h : i < t.size) : (natsOf t).take (i + 1) = (natsOf t).take i ++ [bAt t i] := by
  rw [List.take_add_one, natsOf_get t i h]; rfl
set_option maxHeartbeats 4000000 in
theorem wraw_calls {w : World} {wb : Nat} {v : Value} {l : List Nat} (h : Wr w wb v l) (t : ByteArray) (ht : t.size ≤ 10000) (hsm : l.length ≤ 80000) :
    Calls Tryz.prog 123 #[.pointer (some ⟨wb, 0, none⟩), .string t] w (Wq w wb v (l ++ encStr t)) := by
  have hle5 : (uLeb t.size).length ≤ 5 := uLeb_le 4 t.size (by simp; omega)
  have hu := wu_calls h t.size (by omega) (by omega)
  clear h
  obtain ⟨n, hn⟩ : ∃ n, t.size = n := ⟨_, rfl⟩
  have HN : Hid (t.size = n) := hn
  rw [hn] at hu hle5 ht
  have ht2 : (n : Int) ≤ 10000 := by omega
  go_enter Tryz.func123, Tryz.ntmps123
  go_wp2_with fail
  refine hu.mono ?_
  rintro en u1 ⟨rfl, v1, r1, e1⟩
  have HR1 : Hid _ := r1
  have HE1 : Hid _ := e1
  clear r1 e1 hu
  go_wp2_with fail
  go_loopw [4] (fun kk u => ∃ (k : Nat) (v' : Value), k ≤ n ∧ kk = .int .i64 k ∧ Hid (Wr u wb v' (l ++ uLeb n ++ (natsOf t).take k)) ∧ Hid (We w u wb v v')) (fun kk _ => n + 1 - (intOf kk).toNat)
  case atStart => exact ⟨0, v1, by omega, rfl, by rw [List.take_zero, List.append_nil]; exact HR1, HE1⟩
  case round =>
    clear HR1 HE1
    obtain ⟨k, v', hk, rfl, HR, HE⟩ := hrel
    by_cases hlt : k < n
    · have hb : (k : Int) < (n : Int) := by omega
      have hil : k < t.size := by omega
      have hget : t[k].toNat = bAt t k := bAt_get t k hil
      go_wp2_with fail
      refine (HR.out.byte (by rw [List.length_append, List.length_append, List.length_take]; omega) (bAt t k)).mono ?_
      rintro en u2 ⟨rfl, v2, r2, e2⟩
      have HR2 : Hid _ := r2
      have HE2 : Hid _ := HE.out.trans e2
      clear r2 e2
      go_wp2_with fail
      go_roundw
      case rel =>
        refine ⟨k + 1, v2, by omega, by go_num, ?_, HE2.out⟩
        show Wr _ _ _ _
        rw [natsOf_take_succ t k (by rw [HN.out]; exact hlt), ← List.append_assoc]
        exact HR2.out
      case measure => simp [intOf]; omega
    · have hb : decide ((k : Int) < (n : Int)) = false := decide_eq_false (by omega)
      go_wp2_with fail
      refine bodyPost_ret (v := .tuple #[]) (by simp [results, Tryz.results123, go_sem]) rfl ?_
      refine ⟨rfl, v', ?_, HE.out⟩
      have h2 := HR.out
      rw [List.take_of_length_le (by rw [natsOf_len, HN.out]; omega)] at h2
      unfold encStr
      rw [HN.out, ← List.append_assoc]
      exact h2
set_option maxHeartbeats 4000000 in
theorem wlimits_calls {w : World} {wb : Nat} {v : Value} {l : List Nat} (h : Wr w wb v l) (lo hi : Int) (hlo : 0 ≤ lo ∧ lo < 4294967296) (hhi : -1 ≤ hi ∧ hi < 4294967296) (hsm : l.length ≤ 99000) :
    Calls Tryz.prog 125 #[.pointer (some ⟨wb, 0, none⟩), .int .i64 lo, .int .i64 hi] w (Wq w wb v (l ++ encLim (lo, hi))) := by
  have hl5 : (uLeb lo.toNat).length ≤ 5 := uLeb_le 4 _ (by simp; omega)
  have hh5 : (uLeb hi.toNat).length ≤ 5 := uLeb_le 4 _ (by simp; omega)
  obtain ⟨a, ha⟩ : ∃ a : Nat, lo = a := ⟨lo.toNat, by omega⟩
  subst ha
  by_cases hneg : hi < 0
  · have h0 := h.byte (by omega) 0
    go_enter Tryz.func125, Tryz.ntmps125
    go_wp2_with fail
    refine h0.mono ?_
    rintro en u1 ⟨rfl, v1, r1, e1⟩
    have hu := wu_calls r1 a (by omega) (by rw [List.length_append]; simp at hl5 ⊢; omega)
    clear h h0 r1
    go_wp2_with fail
    refine hu.mono ?_
    rintro en u2 ⟨rfl, v2, r2, e2⟩
    clear hu
    go_wp2_with fail
    refine bodyPost_ret (v := .tuple #[]) (by simp [results, Tryz.results125, go_sem]) rfl ?_
    refine ⟨rfl, v2, ?_, e1.trans e2⟩
    unfold encLim
    dsimp only
    rw [if_pos hneg, Int.toNat_natCast]
    simpa using r2
  · obtain ⟨b, hb⟩ : ∃ b : Nat, hi = b := ⟨hi.toNat, by omega⟩
    subst hb
    have hnb : decide ((b : Int) < 0) = false := decide_eq_false (by omega)
    clear hneg
    have h0 := h.byte (by omega) 1
    go_enter Tryz.func125, Tryz.ntmps125
    go_wp2_with fail
    refine h0.mono ?_
    rintro en u1 ⟨rfl, v1, r1, e1⟩
    have hu := wu_calls r1 a (by omega) (by rw [List.length_append]; simp at hl5 ⊢; omega)
    clear h h0 r1
    go_wp2_with fail
    refine hu.mono ?_
    rintro en u2 ⟨rfl, v2, r2, e2⟩
    have hu2 := wu_calls r2 b (by omega) (by rw [List.length_append, List.length_append]; simp at hl5 hh5 ⊢; omega)
    clear hu r2
    go_wp2_with fail
    refine hu2.mono ?_
    rintro en u3 ⟨rfl, v3, r3, e3⟩
    clear hu2
    go_wp2_with fail
    refine bodyPost_ret (v := .tuple #[]) (by simp [results, Tryz.results125, go_sem]) rfl ?_
    refine ⟨rfl, v3, ?_, (e1.trans e2).trans e3⟩
    unfold encLim
    dsimp only
    rw [if_neg (by omega), Int.toNat_natCast, Int.toNat_natCast]
    simpa using r3
end Go.Proofs.Qxb6500275aGreatDoor
