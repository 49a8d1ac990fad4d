import Derived.Test.Qxb6500275aGreatDoorAp1
set_option linter.unusedVariables false
set_option linter.unusedSimpArgs false
set_option maxRecDepth 20000
namespace Go.Proofs.Qxb6500275aGreatDoor
open Go Go.RowKit

theorem wrap_u64 (n : Int) : IntKind.u64.wrap n = n % 18446744073709551616 := by simp [IntKind.wrap, IntKind.bits, IntKind.signed]
def hexD (d : Nat) : UInt8 := if d < 10 then UInt8.ofNat (48 + d) else UInt8.ofNat (87 + d)
def hexL : Nat → Nat → List UInt8
  | _, 0 => []
  | v, n + 1 => hexL (v / 16) n ++ [hexD (v % 16)]
theorem and15 (q : Int) (h : 0 ≤ q ∧ q < 18446744073709551616) : bits .and .u64 q 15 = ((q.toNat % 16 : Nat) : Int) := by
  unfold bits
  obtain ⟨n, rfl⟩ : ∃ n : Nat, q = n := ⟨q.toNat, by omega⟩
  have e : (BitVec.ofInt IntKind.u64.bits (n : Int) &&& BitVec.ofInt IntKind.u64.bits 15).toNat = n % 16 := by
    have h2 : n < 2 ^ 64 := by omega
    have e1 : (BitVec.ofInt IntKind.u64.bits (n : Int)).toNat = n := by
      show (BitVec.ofInt 64 (n : Int)).toNat = n
      rw [BitVec.toNat_ofInt]
      omega
    rw [BitVec.toNat_and, e1]
    show n &&& 15 = n % 16
    exact Nat.and_two_pow_sub_one_eq_mod n 4
  simp only [e, wrap_u64]
  simp only [Int.toNat_natCast]
  omega
theorem hexS : ∀ d : Nat, d < 16 → (([48, 49, 50, 51, 52, 53, 54, 55, 56, 57, 97, 98, 99, 100, 101, 102] : List UInt8).getD d 0) = hexD d := by
  intro d hd
  have : d = 0 ∨ d = 1 ∨ d = 2 ∨ d = 3 ∨ d = 4 ∨ d = 5 ∨ d = 6 ∨ d = 7 ∨ d = 8 ∨ d = 9 ∨ d = 10 ∨ d = 11 ∨ d = 12 ∨ d = 13 ∨ d = 14 ∨ d = 15 := by omega
  rcases this with rfl | rfl | rfl | rfl | rfl | rfl | rfl | rfl | rfl | rfl | rfl | rfl | rfl | rfl | rfl | rfl <;> rfl
def digAt (V : Int) (t j : Nat) : Int := if 16 - t ≤ j ∧ j < 16 then ((hexD ((V / 16 ^ (15 - j)).toNat % 16)).toNat : Int) else 0
def arrOf (V : Int) (t : Nat) : Array Value := ((List.range 16).map (fun j => Value.int .u8 (digAt V t j))).toArray
theorem arrOf_get (V : Int) (t j : Nat) (h : j < 16) : (arrOf V t)[j]? = some (.int .u8 (digAt V t j)) := by
  simp [arrOf, h]
theorem arrOf_set (V : Int) (t : Nat) (h : t < 16) : (arrOf V t).setIfInBounds (15 - t) (.int .u8 ((hexD ((V / 16 ^ t).toNat % 16)).toNat : Int)) = arrOf V (t + 1) := by
  apply Array.ext_getElem?
  intro k
  by_cases hk : k < 16
  · rw [arrOf_get _ _ _ hk, Array.getElem?_setIfInBounds]
    by_cases e : 15 - t = k
    · rw [if_pos e]
      have hs : 15 - t < (arrOf V t).size := by simp [arrOf]; omega
      rw [if_pos hs]
      unfold digAt
      rw [if_pos (by omega)]
      have : 15 - k = t := by omega
      rw [this]
    · rw [if_neg e, arrOf_get _ _ _ hk]
      unfold digAt
      by_cases h2 : 16 - t ≤ k ∧ k < 16
      · rw [if_pos h2, if_pos (by omega)]
      · rw [if_neg h2, if_neg (by omega)]
  · rw [Array.getElem?_eq_none (by simp [arrOf]; omega), Array.getElem?_eq_none (by simp [arrOf]; omega)]
theorem arrOf_0 (V : Int) : arrOf V 0 = #[.int .u8 0, .int .u8 0, .int .u8 0, .int .u8 0, .int .u8 0, .int .u8 0, .int .u8 0, .int .u8 0, .int .u8 0, .int .u8 0, .int .u8 0, .int .u8 0, .int .u8 0, .int .u8 0, .int .u8 0, .int .u8 0] := by
  unfold arrOf
  rfl
theorem hexStr_get (d : Nat) (hd : d < 16) (h : d < ({ data := #[48, 49, 50, 51, 52, 53, 54, 55, 56, 57, 97, 98, 99, 100, 101, 102] } : ByteArray).size) : (({ data := #[48, 49, 50, 51, 52, 53, 54, 55, 56, 57, 97, 98, 99, 100, 101, 102] } : ByteArray)[d]'h) = ([48, 49, 50, 51, 52, 53, 54, 55, 56, 57, 97, 98, 99, 100, 101, 102] : List UInt8).getD d 0 := by
  rw [List.getD_eq_getElem?_getD, List.getElem?_eq_getElem (by simpa using hd)]
  rfl
theorem arrLen202 : Tryz.prog.arrayLen 202 = 16 := by kernel_rfl
theorem sizeOfU8 (w : World) : (sizeOf (Tryz.prog.elem 202)).run Tryz.prog w = .ok 1 w := by
  have e : Tryz.prog.elem 202 = 5 := by kernel_rfl
  have h : (sizeOf 5).run Tryz.prog w = .ok 1 w := by kernel_rfl
  rw [e]
  exact h
theorem add_non (B o j : Nat) : (⟨B, o, none⟩ : Addr).add j = ⟨B, o + j, none⟩ := by
  unfold Addr.add
  split
  · rename_i h; subst h; rfl
  · rfl
theorem slice202 (B n : Nat) (h : 1 ≤ n ∧ n ≤ 16) (w : World) : (Instr.sliceAt 202 (.pointer (some ⟨B, 0, none⟩)) (some (.int .i64 (16 - (n : Int)))) none none).run Tryz.prog w = .ok (.slice (some ⟨B, 16 - n, none⟩) n n) w := by
  rw [run_sliceAt_array_l w 202 ⟨B, 0, none⟩ (by kernel_rfl) .i64 (16 - (n : Int)) (by omega) (by rw [arrLen202]; omega), sizeOfU8, arrLen202]
  have e1 : (16 - (n : Int)).toNat = 16 - n := by omega
  simp only [Result.andThen_ok, slicedAt, e1]
  rw [if_neg (by omega)]
  have e2 : 16 - (16 - n) = n := by omega
  rw [e2, add_non, Nat.mul_one, Nat.zero_add]
theorem hexL_get : ∀ (n v j : Nat), j < n → (hexL v n)[j]? = some (hexD (v / 16 ^ (n - 1 - j) % 16))
  | n + 1, v, j, h => by
    unfold hexL
    have hl : ∀ (n v : Nat), (hexL v n).length = n := by
      intro n
      induction n with
      | zero => intro v; rfl
      | succ n ih => intro v; simp [hexL, ih]
    by_cases hj : j < n
    · rw [List.getElem?_append_left (by rw [hl]; exact hj), hexL_get n (v / 16) j hj]
      have : n + 1 - 1 - j = (n - 1 - j) + 1 := by omega
      rw [this, Nat.pow_succ, Nat.mul_comm, ← Nat.div_div_eq_div_mul]
    · have : j = n := by omega
      subst this
      rw [List.getElem?_append_right (by rw [hl]; exact Nat.le_refl _), hl]
      simp
theorem hexL_length : ∀ (n v : Nat), (hexL v n).length = n
  | 0, v => rfl
  | n + 1, v => by simp [hexL, hexL_length n]
theorem push_fold : ∀ (l : List UInt8) (b : ByteArray), (l.map (fun c => (c.toNat : Int))).foldl (fun r n => r.push (UInt8.ofNat n.toNat)) b = ⟨⟨b.data.toList ++ l⟩⟩
  | [], b => by simp
  | c :: l, b => by
    simp only [List.map_cons, List.foldl_cons]
    rw [push_fold l]
    simp [ByteArray.push]
theorem conv104 (V : Int) (n : Nat) (hV : 0 ≤ V) (h : 1 ≤ n ∧ n ≤ 16) (w : World) : (convert 104 9 (.slice (some ⟨w.heap.size, 16 - n, none⟩) n n)).run Tryz.prog (w.alloc (.cells (arrOf V 16) 202)) = .ok (.string ⟨⟨hexL V.toNat n⟩⟩) (w.alloc (.cells (arrOf V 16) 202)) := by
  rw [run_convert_bytes_string _ 104 9 5 _ _ _ (by kernel_rfl) (by kernel_rfl) (by kernel_rfl)]
  rw [run_bytesToString _ _ n n ((hexL V.toNat n).map (fun c => (c.toNat : Int)))]
  · rw [push_fold]; rfl
  · have hl := hexL_length n V.toNat
    have := run_loadCells_list (P := Tryz.prog) (w := w.alloc (.cells (arrOf V 16) 202)) ⟨w.heap.size, 16 - n, none⟩ (((hexL V.toNat n).map (fun c => (c.toNat : Int))).map (Value.int .u8)) (by
      intro j v hj
      have hjn : j < n := by
        have := (List.getElem?_eq_some_iff.1 hj).1
        simpa [hl] using this
      rw [List.getElem?_map, List.getElem?_map, hexL_get n V.toNat j hjn] at hj
      simp only [Option.map_some, Option.some.injEq] at hj
      subst hj
      rw [add_non, World.cell?_alloc_at _ _ _ _ rfl, arrOf_get _ _ _ (by omega)]
      unfold digAt
      rw [if_pos (by omega)]
      have e : 15 - (16 - n + j) = n - 1 - j := by omega
      have e2 : (V / 16 ^ (n - 1 - j)).toNat = V.toNat / 16 ^ (n - 1 - j) := by
        obtain ⟨q, rfl⟩ := Int.eq_ofNat_of_zero_le hV
        have : ((16 : Int) ^ (n - 1 - j)) = ((16 ^ (n - 1 - j) : Nat) : Int) := by simp
        rw [this, Int.toNat_natCast]
        norm_cast
      rw [e, e2])
    simp only [List.length_map, hl] at this
    exact this
set_option maxHeartbeats 1000000 in
theorem hex_any (V : Int) (n : Nat) (hV : 0 ≤ V ∧ V < 18446744073709551616) (hn : 1 ≤ n ∧ n ≤ 16) (w : World) :
    Calls Tryz.prog 47 #[.int .u64 V, .int .i64 n] w fun e w' => e = .returned (.string ⟨⟨hexL V.toNat n⟩⟩) ∧ Below w.heap.size w w' := by
  have hn1 : ¬ (n : Int) < 1 := by omega
  have hn2 : ¬ 16 < (n : Int) := by omega
  go_enter Tryz.func47, Tryz.ntmps47
  go_wp2
  go_loopw [0, 6] (fun v k wr => ∃ t : Nat, t ≤ 16 ∧ k = .int .i64 (15 - (t : Int)) ∧ v = .int .u64 (V / 16 ^ t) ∧ wr = w.alloc (.cells (arrOf V t) 202)) (fun _ k _ => (intOf k + 1).toNat)
  case atStart => exact ⟨0, by omega, rfl, by simp, by rw [arrOf_0]⟩
  case round =>
    obtain ⟨t, ht, rfl, rfl, rfl⟩ := hrel
    by_cases hlt : t < 16
    · have h1 := arrOf_get V t (15 - t) (by omega)
      have hq : 0 ≤ V / 16 ^ t ∧ V / 16 ^ t < 18446744073709551616 := ⟨Int.ediv_nonneg hV.1 (Int.le_of_lt (Int.pow_pos (by decide))), Int.lt_of_le_of_lt (Int.ediv_le_self _ hV.1) hV.2⟩
      have h3 := and15 (V / 16 ^ t) hq
      have hd : (V / 16 ^ t).toNat % 16 < 16 := Nat.mod_lt _ (by decide)
      have HS := hexS _ hd
      have HA : Hid ((arrOf V t).setIfInBounds (15 - t) (.int .u8 ((hexD ((V / 16 ^ t).toNat % 16)).toNat : Int)) = arrOf V (t + 1)) := arrOf_set V t hlt
      generalize (V / 16 ^ t).toNat % 16 = d at h3 hd HS HA
      go_wp2
      go_roundw
      case rel => 
        refine ⟨t + 1, by omega, by go_num, ?_, ?_⟩
        · rw [Int.pow_succ, ← Int.ediv_ediv_of_nonneg (Int.le_of_lt (Int.pow_pos (by decide)))]
        · rw [← HA.out, ← HS, hexStr_get d hd]
      case measure => simp [intOf]; omega
    · have e : t = 16 := by omega
      subst e
      have hsl := slice202 w.heap.size n hn
      have hcv := conv104 V n hV.1 hn w
      go_wp2_with (simp only [hsl, hcv])
      go_ret
      exact ⟨rfl, (Below.refl _ _).alloc (Nat.le_refl _) _⟩
end Go.Proofs.Qxb6500275aGreatDoor
