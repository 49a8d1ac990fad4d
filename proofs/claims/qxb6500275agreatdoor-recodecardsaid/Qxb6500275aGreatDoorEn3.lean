import Derived.Test.Qxb6500275aGreatDoorEn2
set_option maxRecDepth 100000
set_option linter.unusedVariables false
set_option linter.unusedSimpArgs false
namespace Go.Proofs.Qxb6500275aGreatDoor
open Go Go.RowKit
theorem ulen_calls (w : World) (n : Nat) (hn : n < 18446744073709551616) (hl : (uLeb n).length ≤ 99999) : Calls Tryz.prog 127 #[.int .u64 n] w (fun en w' => en = .returned (.int .i64 ((uLeb n).length : Nat)) ∧ Kp (fun _ => False) w w') := by
  go_enter Tryz.func127, Tryz.ntmps127
  go_wp2
  go_loopw [0, 3] (fun nn kk u => ∃ (m k : Nat), m < 18446744073709551616 ∧ nn = .int .u64 m ∧ kk = .int .i64 ((k + 1 : Nat) : Int) ∧ Hid ((uLeb n).length = k + (uLeb m).length) ∧ Hid (Kp (fun _ => False) w u)) (fun nn _ _ => (intOf nn).toNat)
  case atStart => exact ⟨n, 0, hn, rfl, rfl, by show (uLeb n).length = 0 + (uLeb n).length; omega, Kp.refl _ _⟩
  case round =>
    obtain ⟨m, k, hm, rfl, rfl, HU, HK⟩ := hrel
    have hkl : k ≤ 99999 := by have := HU.out; omega
    by_cases h128 : m < 128
    · have hb : decide ((128 : Int) ≤ (m : Int)) = false := decide_eq_false (by omega)
      have he : k + 1 = (uLeb n).length := by rw [HU.out, uLeb_lt h128]; rfl
      go_wp2_with fail
      go_ret
      refine ⟨?_, HK.out⟩
      rw [← he]
      rfl
    · have hb : (128 : Int) ≤ (m : Int) := by omega
      go_wp2_with fail
      go_roundw
      case rel =>
        refine ⟨m / 128, k + 1, by omega, by go_num, by go_num, ?_, HK.out⟩
        show (uLeb n).length = _
        rw [HU.out, uLeb_ge h128, List.length_cons]; omega
      case measure => simp [intOf]; omega
theorem and127 (x : Int) : bits .and .u8 (x % 256) 127 = x % 128 := by
  have : ∀ k : Fin 256, bits .and .u8 ((k.val : Nat) : Int) 127 = ((k.val % 128 : Nat) : Int) := by decide +kernel
  have h := this ⟨(x % 256).toNat, by omega⟩
  dsimp only at h
  have e : (((x % 256).toNat : Nat) : Int) = x % 256 := by omega
  rw [e] at h
  rw [h]
  omega
theorem or128c (c : Nat) (hc : c < 128) : bits .or .u8 (c : Int) 128 = ((c + 128 : Nat) : Int) := by
  have h := or128 c
  rw [Nat.mod_eq_of_lt (by omega), Nat.mod_eq_of_lt (by omega)] at h
  exact h
set_option maxHeartbeats 4000000 in
theorem ws_calls {w : World} {wb : Nat} {v : Value} {l : List Nat} (h : Wr w wb v l) (x : Int) (hx : -9223372036854775808 ≤ x ∧ x < 9223372036854775808) (hsm : l.length ≤ 99000) :
    Calls Tryz.prog 181 #[.pointer (some ⟨wb, 0, none⟩), .int .i64 x] w (Wq w wb v (l ++ sLeb x)) := by
  have HW : Hid (Wr w wb v l) := h
  clear h
  go_enter Tryz.func181, Tryz.ntmps181
  go_wp2
  go_loopw [1] (fun xx u => ∃ (y : Int) (f : Nat) (dn : List Nat) (v' : Value), (-9223372036854775808 ≤ y ∧ y < 9223372036854775808) ∧ dn.length + f + 1 = 10 ∧ Hid (-(64 * 128 ^ f : Int) ≤ y ∧ y < (64 * 128 ^ f : Int)) ∧ xx = .int .i64 y ∧ Hid (sLeb x = dn ++ sLebN (f + 1) y) ∧ Hid (Wr u wb v' (l ++ dn)) ∧ Hid (We w u wb v v')) (fun xx _ => (intOf xx).natAbs)
  case atStart => exact ⟨x, 9, [], v, hx, rfl, ⟨by omega, by omega⟩, rfl, rfl, by rw [List.append_nil]; exact HW.out, We.refl _ _ _⟩
  case round =>
    obtain ⟨y, f, dn, v', hy, hf, HY, rfl, HU, HR, HE⟩ := hrel
    obtain ⟨c, hc⟩ : ∃ c : Nat, c = (y % 128).toNat := ⟨_, rfl⟩
    obtain ⟨z, hz⟩ : ∃ z : Int, y / 128 = z := ⟨_, rfl⟩
    have hcl : c < 128 := by omega
    have hci : (c : Int) < 256 := by omega
    have hand : bits .and .u8 (y % 256) 127 = ((c : Nat) : Int) := by rw [and127]; omega
    have horr : bits .or .u8 (c : Int) 128 = ((c + 128 : Nat) : Int) := or128c c hcl
    have HB : Hid ((dn.length ≤ 9) ∧ l.length ≤ 99000) := ⟨by omega, hsm⟩
    have key : ∀ (b0 bm bc : Bool), (z == 0) = b0 → (z == -1) = bm → decide ((c : Int) < 64) = bc → decide ((64 : Int) ≤ (c : Int)) = !bc → Hid (sEnd y ↔ (b0 && bc || bm && !bc) = true) := by
      intro b0 bm bc h0 hm h1 h2
      subst h0 hm h1
      show sEnd y ↔ _
      unfold sEnd
      simp only [Bool.or_eq_true, Bool.and_eq_true, beq_iff_eq, decide_eq_true_eq, Bool.not_eq_true', decide_eq_false_iff_not]
      omega
    have HC : Hid (c = (y % 128).toNat) := hc
    have HZ : Hid (y / 128 = z) := hz
    have hzr : -9223372036854775808 ≤ z ∧ z < 9223372036854775808 := by omega
    clear hc
    cases h0 : (z == 0) <;> cases hm : (z == -1) <;> cases h1 : decide ((c : Int) < 64)
    · have h2 : decide ((64 : Int) ≤ (c : Int)) = true := by
        exact decide_eq_true (by have := of_decide_eq_false h1; omega)
      have HK := key _ _ _ h0 hm h1 (by rw [h2]; rfl)
      clear key hz
      have hz := HZ.out
      have HEN : Hid (¬ sEnd y) := fun e => by have := (HK.out).1 e; simp at this
      go_wp2_with fail
      rw [show (c : Int) + 128 = ((c + 128 : Nat) : Int) by omega]
      refine (HR.out.byte (by rw [List.length_append]; have := HB.out; omega) (c + 128)).mono ?_
      rintro en u2 ⟨rfl, v2, r2, e2⟩
      have HR2 : Hid _ := r2
      have HE2 : Hid _ := HE.out.trans e2
      clear r2 e2
      go_wp2_with fail
      have hne := HEN.out
      rw [sEnd_iff] at hne
      have hYY := HY.out
      have hzz := HZ.out
      obtain ⟨f', hf'⟩ : ∃ f', f = f' + 1 := by
        cases f with
        | zero => simp at hYY; omega
        | succ f' => exact ⟨f', rfl⟩
      subst hf'
      have e128 : (128 : Int) ^ (f' + 1) = 128 ^ f' * 128 := Int.pow_succ _ _
      rw [e128] at hYY
      go_roundw
      case rel =>
        refine ⟨z, f', dn ++ [c + 128], v2, hzr, by rw [List.length_append]; simp; omega, ?_, rfl, ?_, ?_, HE2.out⟩
        · show -(64 * 128 ^ f' : Int) ≤ z ∧ z < (64 * 128 ^ f' : Int)
          generalize (128 : Int) ^ f' = P at *
          omega
        · show sLeb x = _
          have hu := HU.out
          rw [show sLebN (f' + 1 + 1) y = if sEnd y then [(y % 128).toNat] else ((y % 128).toNat + 128) :: sLebN (f' + 1) (y / 128) from rfl, if_neg HEN.out, ← HC.out, HZ.out] at hu
          rw [hu]; simp
        · show Wr _ _ _ _
          rw [← List.append_assoc]; exact HR2.out
      case measure => simp [intOf]; omega
    · have h2 : decide ((64 : Int) ≤ (c : Int)) = false := by
        exact decide_eq_false (by have := of_decide_eq_true h1; omega)
      have HK := key _ _ _ h0 hm h1 (by rw [h2]; rfl)
      clear key hz
      have hz := HZ.out
      have HEN : Hid (¬ sEnd y) := fun e => by have := (HK.out).1 e; simp at this
      go_wp2_with fail
      rw [show (c : Int) + 128 = ((c + 128 : Nat) : Int) by omega]
      refine (HR.out.byte (by rw [List.length_append]; have := HB.out; omega) (c + 128)).mono ?_
      rintro en u2 ⟨rfl, v2, r2, e2⟩
      have HR2 : Hid _ := r2
      have HE2 : Hid _ := HE.out.trans e2
      clear r2 e2
      go_wp2_with fail
      have hne := HEN.out
      rw [sEnd_iff] at hne
      have hYY := HY.out
      have hzz := HZ.out
      obtain ⟨f', hf'⟩ : ∃ f', f = f' + 1 := by
        cases f with
        | zero => simp at hYY; omega
        | succ f' => exact ⟨f', rfl⟩
      subst hf'
      have e128 : (128 : Int) ^ (f' + 1) = 128 ^ f' * 128 := Int.pow_succ _ _
      rw [e128] at hYY
      go_roundw
      case rel =>
        refine ⟨z, f', dn ++ [c + 128], v2, hzr, by rw [List.length_append]; simp; omega, ?_, rfl, ?_, ?_, HE2.out⟩
        · show -(64 * 128 ^ f' : Int) ≤ z ∧ z < (64 * 128 ^ f' : Int)
          generalize (128 : Int) ^ f' = P at *
          omega
        · show sLeb x = _
          have hu := HU.out
          rw [show sLebN (f' + 1 + 1) y = if sEnd y then [(y % 128).toNat] else ((y % 128).toNat + 128) :: sLebN (f' + 1) (y / 128) from rfl, if_neg HEN.out, ← HC.out, HZ.out] at hu
          rw [hu]; simp
        · show Wr _ _ _ _
          rw [← List.append_assoc]; exact HR2.out
      case measure => simp [intOf]; omega
    · have h2 : decide ((64 : Int) ≤ (c : Int)) = true := by
        exact decide_eq_true (by have := of_decide_eq_false h1; omega)
      have HK := key _ _ _ h0 hm h1 (by rw [h2]; rfl)
      clear key hz
      have hz := HZ.out
      have HEN : Hid (sEnd y) := (HK.out).2 rfl
      go_wp2_with fail
      refine (HR.out.byte (by rw [List.length_append]; have := HB.out; omega) c).mono ?_
      rintro en u2 ⟨rfl, v2, r2, e2⟩
      go_wp2_with fail
      refine bodyPost_ret (v := .tuple #[]) (by simp [results, Tryz.results181, go_sem]) rfl ?_
      refine ⟨rfl, v2, ?_, HE.out.trans e2⟩
      have hu := HU.out
      unfold sLebN at hu
      rw [if_pos HEN.out, ← HC.out] at hu
      rw [hu, ← List.append_assoc]
      exact r2
    · have h2 : decide ((64 : Int) ≤ (c : Int)) = false := by
        exact decide_eq_false (by have := of_decide_eq_true h1; omega)
      have HK := key _ _ _ h0 hm h1 (by rw [h2]; rfl)
      clear key hz
      have hz := HZ.out
      have HEN : Hid (¬ sEnd y) := fun e => by have := (HK.out).1 e; simp at this
      go_wp2_with fail
      rw [show (c : Int) + 128 = ((c + 128 : Nat) : Int) by omega]
      refine (HR.out.byte (by rw [List.length_append]; have := HB.out; omega) (c + 128)).mono ?_
      rintro en u2 ⟨rfl, v2, r2, e2⟩
      have HR2 : Hid _ := r2
      have HE2 : Hid _ := HE.out.trans e2
      clear r2 e2
      go_wp2_with fail
      have hne := HEN.out
      rw [sEnd_iff] at hne
      have hYY := HY.out
      have hzz := HZ.out
      obtain ⟨f', hf'⟩ : ∃ f', f = f' + 1 := by
        cases f with
        | zero => simp at hYY; omega
        | succ f' => exact ⟨f', rfl⟩
      subst hf'
      have e128 : (128 : Int) ^ (f' + 1) = 128 ^ f' * 128 := Int.pow_succ _ _
      rw [e128] at hYY
      go_roundw
      case rel =>
        refine ⟨z, f', dn ++ [c + 128], v2, hzr, by rw [List.length_append]; simp; omega, ?_, rfl, ?_, ?_, HE2.out⟩
        · show -(64 * 128 ^ f' : Int) ≤ z ∧ z < (64 * 128 ^ f' : Int)
          generalize (128 : Int) ^ f' = P at *
          omega
        · show sLeb x = _
          have hu := HU.out
          rw [show sLebN (f' + 1 + 1) y = if sEnd y then [(y % 128).toNat] else ((y % 128).toNat + 128) :: sLebN (f' + 1) (y / 128) from rfl, if_neg HEN.out, ← HC.out, HZ.out] at hu
          rw [hu]; simp
        · show Wr _ _ _ _
          rw [← List.append_assoc]; exact HR2.out
      case measure => simp [intOf]; omega
    · have h2 : decide ((64 : Int) ≤ (c : Int)) = true := by
        exact decide_eq_true (by have := of_decide_eq_false h1; omega)
      have HK := key _ _ _ h0 hm h1 (by rw [h2]; rfl)
      clear key hz
      have hz := HZ.out
      have HEN : Hid (¬ sEnd y) := fun e => by have := (HK.out).1 e; simp at this
      go_wp2_with fail
      rw [show (c : Int) + 128 = ((c + 128 : Nat) : Int) by omega]
      refine (HR.out.byte (by rw [List.length_append]; have := HB.out; omega) (c + 128)).mono ?_
      rintro en u2 ⟨rfl, v2, r2, e2⟩
      have HR2 : Hid _ := r2
      have HE2 : Hid _ := HE.out.trans e2
      clear r2 e2
      go_wp2_with fail
      have hne := HEN.out
      rw [sEnd_iff] at hne
      have hYY := HY.out
      have hzz := HZ.out
      obtain ⟨f', hf'⟩ : ∃ f', f = f' + 1 := by
        cases f with
        | zero => simp at hYY; omega
        | succ f' => exact ⟨f', rfl⟩
      subst hf'
      have e128 : (128 : Int) ^ (f' + 1) = 128 ^ f' * 128 := Int.pow_succ _ _
      rw [e128] at hYY
      go_roundw
      case rel =>
        refine ⟨z, f', dn ++ [c + 128], v2, hzr, by rw [List.length_append]; simp; omega, ?_, rfl, ?_, ?_, HE2.out⟩
        · show -(64 * 128 ^ f' : Int) ≤ z ∧ z < (64 * 128 ^ f' : Int)
          generalize (128 : Int) ^ f' = P at *
          omega
        · show sLeb x = _
          have hu := HU.out
          rw [show sLebN (f' + 1 + 1) y = if sEnd y then [(y % 128).toNat] else ((y % 128).toNat + 128) :: sLebN (f' + 1) (y / 128) from rfl, if_neg HEN.out, ← HC.out, HZ.out] at hu
          rw [hu]; simp
        · show Wr _ _ _ _
          rw [← List.append_assoc]; exact HR2.out
      case measure => simp [intOf]; omega
    · have h2 : decide ((64 : Int) ≤ (c : Int)) = false := by
        exact decide_eq_false (by have := of_decide_eq_true h1; omega)
      have HK := key _ _ _ h0 hm h1 (by rw [h2]; rfl)
      clear key hz
      have hz := HZ.out
      have HEN : Hid (sEnd y) := (HK.out).2 rfl
      go_wp2_with fail
      refine (HR.out.byte (by rw [List.length_append]; have := HB.out; omega) c).mono ?_
      rintro en u2 ⟨rfl, v2, r2, e2⟩
      go_wp2_with fail
      refine bodyPost_ret (v := .tuple #[]) (by simp [results, Tryz.results181, go_sem]) rfl ?_
      refine ⟨rfl, v2, ?_, HE.out.trans e2⟩
      have hu := HU.out
      unfold sLebN at hu
      rw [if_pos HEN.out, ← HC.out] at hu
      rw [hu, ← List.append_assoc]
      exact r2
    · simp only [beq_iff_eq] at h0 hm
      omega
    · simp only [beq_iff_eq] at h0 hm
      omega
end Go.Proofs.Qxb6500275aGreatDoor
