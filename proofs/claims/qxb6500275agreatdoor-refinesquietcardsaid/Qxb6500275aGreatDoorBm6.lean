import Derived.Test.Qxb6500275aGreatDoorBm5
import Derived.Test.Qxb6500275aGreatDoorRe4
import Derived.Test.Qxb6500275aGreatDoorBns
set_option maxRecDepth 100000
set_option linter.unusedVariables false
set_option linter.unusedSimpArgs false
namespace Go.Proofs.Qxb6500275aGreatDoor
open Go Go.RowKit
section
variable {w w' : World} {b : Nat} {s : ByteArray} {p e : Nat} {er : Int} {a : Nat}
theorem wordS_b (s : ByteArray) (p e n : Nat) : wordS s p e n = bindQ (takeS s p e n) (fun x => .ok (wordL x.1 8, x.2)) := by
  unfold wordS bindQ
  cases takeS s p e n <;> rfl
theorem wN_zero (t : ByteArray) : ∀ j, j + t.size ≤ 8 → wN t j = 0
  | 0, _ => rfl
  | j + 1, h => by
    rw [wN, wN_zero t j (by omega)]
    unfold byteD
    rw [if_neg (by omega)]
theorem wN_b (t : ByteArray) (j : Nat) (hj : j ≤ 7) : wN t j < 72057594037927936 := by
  have h1 := wN_lt t j
  have h3 : 256 ^ j ≤ 256 ^ 7 := Nat.pow_le_pow_right (by decide) (by omega)
  have h4 : (256 : Nat) ^ 7 = 72057594037927936 := by decide
  omega
set_option maxHeartbeats 2000000 in
theorem little_m (h : Rc w b s p e er a) (n : Nat) (hn : n ≤ 8) : Calls Tryz.prog 279 #[.pointer (some ⟨b, 0, none⟩), .int .i64 n] w (Cm encQ8 (fun v => 0 ≤ v ∧ v < 18446744073709551616) (wordS s p e n) b s e er a w) := by
  have HU := take_m h n (by omega)
  obtain ⟨X, hX⟩ : ∃ X, wordS s p e n = X := ⟨_, rfl⟩
  rw [hX]
  have HX : Hid _ := hX
  clear h hX
  go_enter Tryz.func279, Tryz.ntmps279
  go_wp2_with fail
  refine HU.mono ?_
  rintro en w2 ⟨t, q, er', a', rfl, hR, hK, hB, hC⟩
  unfold encS
  have HE : Hid (Cm encQ8 (fun v => 0 ≤ v ∧ v < 18446744073709551616) X b s e er a w (.returned (.int .u64 (wN t 8 : Int))) w2) := by
    refine ⟨(wN t 8 : Int), q, er', a', rfl, hR, hK, ?_, ?_⟩
    · have h1 := wN_lt t 8
      have h4 : (256 : Nat) ^ 8 = 18446744073709551616 := by decide
      rw [h4] at h1
      exact ⟨Int.natCast_nonneg _, by omega⟩
    · rw [← HX.out, wordS_b]
      show Cu _ _ _ _ _ _ _
      rw [← wordL_nat t 8 (by omega)]
      exact hC.out.trans (Cu.pure _ _)
  have ht : t.size ≤ 8 := by have : t.size ≤ n := hB; omega
  clear HX hC hR hK hB
  go_wp2
  go_loopw [6, 7] (fun vv kk w1 => ∃ (k : Nat), k ≤ t.size ∧ vv = .int .u64 (wN t (8 - k) : Int) ∧ kk = .int .i64 ((k : Int) - 1) ∧ w1 = w2) (fun _ kk _ => (intOf kk + 1).toNat)
  case atStart => exact ⟨t.size, by omega, by rw [wN_zero t (8 - t.size) (by omega)]; rfl, by first | rfl | go_num, rfl⟩
  case round =>
    obtain ⟨k, hk, rfl, rfl, rfl⟩ := hrel
    by_cases h0 : k = 0
    · subst h0
      go_wp2
      go_ret
      exact HE.out
    · obtain ⟨j, rfl⟩ : ∃ j, k = j + 1 := ⟨k - 1, by omega⟩
      have hb := wN_b t (8 - (j + 1)) (by omega)
      have hj : j < t.size := by omega
      have HN : Hid (wN t (8 - (j + 1)) * 256 + t[j].toNat = wN t (8 - j)) := by
        show _ = _
        rw [show 8 - j = 8 - (j + 1) + 1 by omega, wN, show 7 - (8 - (j + 1)) = j by omega]
        unfold byteD
        rw [if_pos hj, bAt_get t j hj]
      obtain ⟨z, hz⟩ : ∃ z, wN t (8 - (j + 1)) = z := ⟨_, rfl⟩
      rw [hz] at hb HN ⊢
      have hc := t[j].toNat_lt
      have hji : ((j + 1 : Nat) : Int) - 1 = (j : Int) := by omega
      rw [hji]
      clear hz
      go_wp2
      refine ⟨⟨j, by omega, ?_, ?_, trivial⟩, ?_⟩
      · rw [← HN.out]
        first | rfl | (rfl               )
      · first | rfl | go_num
      · simp [intOf]
end
end Go.Proofs.Qxb6500275aGreatDoor
