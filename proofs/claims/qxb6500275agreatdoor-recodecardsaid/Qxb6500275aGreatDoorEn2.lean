import Derived.Test.Qxb6500275aGreatDoorEn1
import Derived.Test.Qxb6500275aGreatDoorRe6
set_option maxRecDepth 100000
set_option linter.unusedVariables false
set_option linter.unusedSimpArgs false
namespace Go.Proofs.Qxb6500275aGreatDoor
open Go Go.RowKit
/- one byte more -/
theorem Wr.byte {w : World} {wb : Nat} {v : Value} {l : List Nat} (h : Wr w wb v l) (hsm : l.length ≤ 99999) (x : Nat) :
    Calls Tryz.prog 66 #[.pointer (some ⟨wb, 0, none⟩), .slice (some ⟨w.heap.size, 0, none⟩) 1 1] (w.alloc (.cells #[.int .u8 x] 5)) (Wq w wb v (l ++ [x])) := by
  have hk : Kp (fun _ => False) w (w.alloc (.cells #[.int .u8 x] 5)) := (Kp.refl _ _).alloc _
  have hb := blk_al w #[.int .u8 x] 5
  refine (bytes_calls (xs := [x]) (h.quiet hk) ⟨w.heap.size, 0, none⟩ 1 1 rfl (fun j y hy => ?_) (by simp; omega)).mono ?_
  · cases j with
    | zero =>
      simp at hy
      subst hy
      exact hb.cell (i := 0) (by simp)
    | succ j => simp at hy
  · rintro en w' ⟨h1, v', h2, h3⟩
    exact ⟨h1, v', h2, We.before hk h3⟩
theorem or128 (n : Nat) : bits .or .u8 (((n % 256 : Nat)) : Int) 128 = ((n % 128 + 128 : Nat) : Int) := by
  have : ∀ k : Fin 256, bits .or .u8 ((k.val : Nat) : Int) 128 = ((k.val % 128 + 128 : Nat) : Int) := by decide +kernel
  have h := this ⟨n % 256, by omega⟩
  dsimp only at h
  rw [h]
  congr 1
  omega
theorem or128i (m : Nat) : bits .or .u8 ((m : Int) % 256) 128 = ((m % 128 + 128 : Nat) : Int) := by
  rw [← or128]; congr 1
set_option maxHeartbeats 4000000 in
theorem wu_calls {w : World} {wb : Nat} {v : Value} {l : List Nat} (h : Wr w wb v l) (n : Nat) (hn : n < 18446744073709551616) (hsm : l.length + (uLeb n).length ≤ 99999) :
    Calls Tryz.prog 124 #[.pointer (some ⟨wb, 0, none⟩), .int .u64 n] w (Wq w wb v (l ++ uLeb n)) := by
  have HW : Hid (Wr w wb v l) := h
  clear h
  go_enter Tryz.func124, Tryz.ntmps124
  go_wp2
  go_loopw [1] (fun nn u => ∃ (m : Nat) (dn : List Nat) (v' : Value), m < 18446744073709551616 ∧ nn = .int .u64 m ∧ Hid (uLeb n = dn ++ uLeb m) ∧ Hid (Wr u wb v' (l ++ dn)) ∧ Hid (We w u wb v v')) (fun nn _ => (intOf nn).toNat)
  case atStart => exact ⟨n, [], v, hn, rfl, rfl, by rw [List.append_nil]; exact HW.out, We.refl _ _ _⟩
  case round =>
    obtain ⟨m, dn, v', hm, rfl, HU, HR, HE⟩ := hrel
    have hlen : l.length + dn.length + (uLeb m).length ≤ 99999 := by
      have := congrArg List.length HU.out
      rw [List.length_append] at this
      omega
    by_cases h128 : m < 128
    · have hb : decide ((128 : Int) ≤ (m : Int)) = false := decide_eq_false (by omega)
      go_wp2_with fail
      refine (HR.out.byte (by rw [List.length_append]; omega) m).mono ?_
      rintro en u2 ⟨rfl, v2, r2, e2⟩
      go_wp2_with fail
      refine bodyPost_ret (v := .tuple #[]) (by simp [results, Tryz.results124, go_sem]) rfl ?_
      refine ⟨rfl, v2, ?_, HE.out.trans e2⟩
      rw [HU.out, uLeb_lt h128, ← List.append_assoc]
      exact r2
    · have hb : (128 : Int) ≤ (m : Int) := by omega
      have hpos := uLeb_pos m
      go_wp2_with fail
      rw [or128i]
      refine (HR.out.byte (by rw [List.length_append]; omega) (m % 128 + 128)).mono ?_
      rintro en u2 ⟨rfl, v2, r2, e2⟩
      go_wp2_with fail
      go_roundw
      case rel =>
        refine ⟨m / 128, dn ++ [m % 128 + 128], v2, by omega, by go_num, ?_, ?_, HE.out.trans e2⟩
        · show uLeb n = _
          rw [HU.out, uLeb_ge h128]; simp
        · show Wr _ _ _ _
          rw [← List.append_assoc]; exact r2
      case measure => simp [intOf]; omega
end Go.Proofs.Qxb6500275aGreatDoor
