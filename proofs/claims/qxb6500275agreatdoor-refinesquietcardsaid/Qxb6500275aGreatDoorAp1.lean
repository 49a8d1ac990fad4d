import Derived.Test.Qxb6500275aGreatDoorNm1
set_option linter.unusedVariables false
set_option linter.unusedSimpArgs false
set_option maxRecDepth 20000
namespace Go.Proofs.Qxb6500275aGreatDoor
open Go Go.RowKit

/- api.Word -/
def wordN (s : ByteArray) (b : Nat) : Nat → Int
  | 0 => 0
  | t + 1 => bits .or .u64 (IntKind.u64.wrap (wordN s b t * 256)) (IntKind.u64.wrap ((s.data.toList.getD (b + (7 - t)) 0).toNat : Int))
def wordF (s : ByteArray) (i : Int) : Int := if i < 0 ∨ (s.size / 8 : Nat) ≤ i then 0 else wordN s (8 * i.toNat) 8

set_option maxHeartbeats 1000000 in
theorem word_any (s : ByteArray) (i : Int) (hs : s.size ≤ 9223372036854775807) (w : World) :
    Calls Tryz.prog 45 #[.string s, .int .i64 i] w fun e w' => e = .returned (.int .u64 (wordF s i)) ∧ w' = w := by
  unfold wordF
  by_cases h1 : i < 0
  · rw [if_pos (.inl h1)]
    go_enter Tryz.func45, Tryz.ntmps45
    go_wp2
    go_ret
    exact ⟨rfl, rfl⟩
  by_cases h2 : (s.size / 8 : Nat) ≤ i
  · rw [if_pos (.inr h2)]
    go_enter Tryz.func45, Tryz.ntmps45
    go_wp2
    go_ret
    exact ⟨rfl, rfl⟩
  rw [if_neg (by omega)]
  obtain ⟨n, rfl⟩ : ∃ n : Nat, i = n := ⟨i.toNat, by omega⟩
  go_enter Tryz.func45, Tryz.ntmps45
  go_wp2
  go_loop [5, 6] (fun v k => ∃ t : Nat, t ≤ 8 ∧ k = .int .i64 (7 - (t : Int)) ∧ v = .int .u64 (wordN s (8 * n) t)) (fun _ k => (intOf k + 1).toNat)
  case atStart => exact ⟨0, by omega, rfl, rfl⟩
  case round =>
    obtain ⟨t, ht, rfl, rfl⟩ := hrel
    by_cases hlt : t < 8
    · have hb : 8 * n + (7 - t) < s.size := by omega
      have hg : s.data.toList.getD (8 * n + (7 - t)) 0 = s[8 * n + (7 - t)] := by
        rw [List.getD_eq_getElem?_getD, List.getElem?_eq_getElem (by simpa using hb)]
        rfl
      have HG : Hid (wordN s (8 * n) (t + 1) = bits .or .u64 (IntKind.u64.wrap (wordN s (8 * n) t * 256)) (IntKind.u64.wrap (s[8 * n + (7 - t)].toNat : Int))) := by
        show bits .or .u64 _ _ = _
        rw [hg]
      clear hg
      go_wp2
      go_round
      case rel => exact ⟨t + 1, by omega, by go_num, by rw [HG.out]⟩
      case measure => simp [intOf]; omega
    · have e : t = 8 := by omega
      subst e
      go_wp2
      go_ret
      exact ⟨rfl, rfl⟩
theorem wordF_range (s : ByteArray) (i : Int) : 0 ≤ wordF s i ∧ wordF s i < 18446744073709551616 := by
  unfold wordF
  split
  · decide
  · exact ⟨bits_u64_nonneg _ _ _, bits_u64_lt _ _ _⟩
end Go.Proofs.Qxb6500275aGreatDoor
