import Derived.Test.Qxb6500275aGreatDoorNqD
set_option maxRecDepth 100000
set_option linter.unusedVariables false
set_option linter.unusedSimpArgs false
namespace Go.Proofs.Qxb6500275aGreatDoor
open Go Go.RowKit
theorem intCmp_32_all (k : Nat) (hk : k < 10) (a b : Nat) (ha : a < 4294967296) (hb : b < 4294967296) (w : World) : Calls Tryz.prog 285 #[.int .i64 (k : Int), .int .i64 32, .int .u64 a, .int .u64 b] w (Pq w (.int .u64 ((flagN (icmpM 32 k a b) : Nat) : Int))) := by
  have h : k = 0 ∨ k = 1 ∨ k = 2 ∨ k = 3 ∨ k = 4 ∨ k = 5 ∨ k = 6 ∨ k = 7 ∨ k = 8 ∨ k = 9 := by omega
  rcases h with rfl | rfl | rfl | rfl | rfl | rfl | rfl | rfl | rfl | rfl
  · exact intCmp_32_0 a b ha hb w
  · exact intCmp_32_1 a b ha hb w
  · exact intCmp_32_2 a b ha hb w
  · exact intCmp_32_3 a b ha hb w
  · exact intCmp_32_4 a b ha hb w
  · exact intCmp_32_5 a b ha hb w
  · exact intCmp_32_6 a b ha hb w
  · exact intCmp_32_7 a b ha hb w
  · exact intCmp_32_8 a b ha hb w
  · exact intCmp_32_9 a b ha hb w
theorem intUn_32_all (k : Nat) (hk : k < 3) (a : Nat) (ha : a < 4294967296) (w : World) : Calls Tryz.prog 287 #[.int .i64 (k : Int), .int .i64 32, .int .u64 a] w (Pq w (.int .u64 ((iunM 32 k a : Nat) : Int))) := by
  have h : k = 0 ∨ k = 1 ∨ k = 2 := by omega
  rcases h with rfl | rfl | rfl
  · unfold iunM
    rw [if_pos rfl]
    exact intUn_32_0 a ha w
  · unfold iunM
    rw [if_neg (by decide), if_pos rfl]
    exact intUn_32_1 a ha w
  · unfold iunM
    rw [if_neg (by decide), if_neg (by decide)]
    exact intUn_32_2 a ha w
theorem intBin_32_all (k : Nat) (hk : k < 15) (a b : Nat) (ha : a < 4294967296) (hb : b < 4294967296) (w : World) : Calls Tryz.prog 288 #[.int .i64 (k : Int), .int .i64 32, .int .u64 a, .int .u64 b] w (Pq w (fitV (ibinM 32 k a b))) := by
  have h : k = 0 ∨ k = 1 ∨ k = 2 ∨ k = 3 ∨ k = 4 ∨ k = 5 ∨ k = 6 ∨ k = 7 ∨ k = 8 ∨ k = 9 ∨ k = 10 ∨ k = 11 ∨ k = 12 ∨ k = 13 ∨ k = 14 := by omega
  rcases h with rfl | rfl | rfl | rfl | rfl | rfl | rfl | rfl | rfl | rfl | rfl | rfl | rfl | rfl | rfl
  · exact intBin_32_0 a b ha hb w
  · exact intBin_32_1 a b ha hb w
  · exact intBin_32_2 a b ha hb w
  · exact intBin_32_3 a b ha hb w
  · exact intBin_32_4 a b ha hb w
  · exact intBin_32_5 a b ha hb w
  · exact intBin_32_6 a b ha hb w
  · exact intBin_32_7 a b ha hb w
  · exact intBin_32_8 a b ha hb w
  · exact intBin_32_9 a b ha hb w
  · exact intBin_32_10 a b ha hb w
  · exact intBin_32_11 a b ha hb w
  · exact intBin_32_12 a b ha hb w
  · exact intBin_32_13 a b ha hb w
  · exact intBin_32_14 a b ha hb w
theorem fltCmp_32_all (k : Nat) (hk : k < 6) (a b : Nat) (ha : a < 4294967296) (hb : b < 4294967296) (w : World) : Calls Tryz.prog 286 #[.int .i64 (k : Int), .int .i64 32, .int .u64 a, .int .u64 b] w (Pq w (.int .u64 ((flagN (cmpM Ieee.single k a b) : Nat) : Int))) := by
  have h : k = 0 ∨ k = 1 ∨ k = 2 ∨ k = 3 ∨ k = 4 ∨ k = 5 := by omega
  rcases h with rfl | rfl | rfl | rfl | rfl | rfl
  · exact fltCmp_0 ng32 a b ha hb w
  · exact fltCmp_1 ng32 a b ha hb w
  · exact fltCmp_2 ng32 a b ha hb w
  · exact fltCmp_3 ng32 a b ha hb w
  · exact fltCmp_4 ng32 a b ha hb w
  · exact fltCmp_5 ng32 a b ha hb w
theorem fltUn_32_all (k : Nat) (hk : k < 7) (a : Nat) (ha : a < 4294967296) (w : World) : Calls Tryz.prog 289 #[.int .i64 (k : Int), .int .i64 32, .int .u64 a] w (Pq w (.int .u64 ((funM Ieee.single 127 2143289344 k a : Nat) : Int))) := by
  have h : k = 0 ∨ k = 1 ∨ k = 2 ∨ k = 3 ∨ k = 4 ∨ k = 5 ∨ k = 6 := by omega
  rcases h with rfl | rfl | rfl | rfl | rfl | rfl | rfl
  · unfold funM
    rw [if_pos rfl]
    exact fltUn_32_0 a ha w
  · unfold funM
    rw [if_neg (by decide), if_pos rfl]
    exact fltUn_32_1 a ha w
  · unfold funM
    rw [if_neg (by decide), if_neg (by decide), if_neg (by decide)]
    exact fltUn_32_2 a ha w
  · unfold funM
    rw [if_neg (by decide), if_neg (by decide), if_neg (by decide)]
    exact fltUn_32_3 a ha w
  · unfold funM
    rw [if_neg (by decide), if_neg (by decide), if_neg (by decide)]
    exact fltUn_32_4 a ha w
  · unfold funM
    rw [if_neg (by decide), if_neg (by decide), if_neg (by decide)]
    exact fltUn_32_5 a ha w
  · unfold funM
    rw [if_neg (by decide), if_neg (by decide), if_pos rfl]
    exact fltUn_32_6 a ha w
theorem fltBin_32_all (k : Nat) (hk : k < 7) (a b : Nat) (ha : a < 4294967296) (hb : b < 4294967296) (w : World) : Calls Tryz.prog 290 #[.int .i64 (k : Int), .int .i64 32, .int .u64 a, .int .u64 b] w (Pq w (.int .u64 ((fbinX Ieee.single 127 2143289344 k a b : Nat) : Int))) := by
  have h : k = 0 ∨ k = 1 ∨ k = 2 ∨ k = 3 ∨ k = 4 ∨ k = 5 ∨ k = 6 := by omega
  rcases h with rfl | rfl | rfl | rfl | rfl | rfl | rfl
  · unfold fbinX
    rw [if_neg (by decide)]
    exact fltBin_0 ng32 a b ha hb w
  · unfold fbinX
    rw [if_neg (by decide)]
    exact fltBin_1 ng32 a b ha hb w
  · unfold fbinX
    rw [if_neg (by decide)]
    exact fltBin_2 ng32 a b ha hb w
  · unfold fbinX
    rw [if_neg (by decide)]
    exact fltBin_3 ng32 a b ha hb w
  · unfold fbinX
    rw [if_neg (by decide)]
    exact fltBin_4 ng32 a b ha hb w
  · unfold fbinX
    rw [if_neg (by decide)]
    exact fltBin_5 ng32 a b ha hb w
  · unfold fbinX
    rw [if_pos rfl]
    exact fltBin_32_6 a b ha hb w
theorem intCmp_64_all (k : Nat) (hk : k < 10) (a b : Nat) (ha : a < 18446744073709551616) (hb : b < 18446744073709551616) (w : World) : Calls Tryz.prog 285 #[.int .i64 (k : Int), .int .i64 64, .int .u64 a, .int .u64 b] w (Pq w (.int .u64 ((flagN (icmpM 64 k a b) : Nat) : Int))) := by
  have h : k = 0 ∨ k = 1 ∨ k = 2 ∨ k = 3 ∨ k = 4 ∨ k = 5 ∨ k = 6 ∨ k = 7 ∨ k = 8 ∨ k = 9 := by omega
  rcases h with rfl | rfl | rfl | rfl | rfl | rfl | rfl | rfl | rfl | rfl
  · exact intCmp_64_0 a b ha hb w
  · exact intCmp_64_1 a b ha hb w
  · exact intCmp_64_2 a b ha hb w
  · exact intCmp_64_3 a b ha hb w
  · exact intCmp_64_4 a b ha hb w
  · exact intCmp_64_5 a b ha hb w
  · exact intCmp_64_6 a b ha hb w
  · exact intCmp_64_7 a b ha hb w
  · exact intCmp_64_8 a b ha hb w
  · exact intCmp_64_9 a b ha hb w
theorem intUn_64_all (k : Nat) (hk : k < 3) (a : Nat) (ha : a < 18446744073709551616) (w : World) : Calls Tryz.prog 287 #[.int .i64 (k : Int), .int .i64 64, .int .u64 a] w (Pq w (.int .u64 ((iunM 64 k a : Nat) : Int))) := by
  have h : k = 0 ∨ k = 1 ∨ k = 2 := by omega
  rcases h with rfl | rfl | rfl
  · unfold iunM
    rw [if_pos rfl]
    exact intUn_64_0 a ha w
  · unfold iunM
    rw [if_neg (by decide), if_pos rfl]
    exact intUn_64_1 a ha w
  · unfold iunM
    rw [if_neg (by decide), if_neg (by decide)]
    exact intUn_64_2 a ha w
theorem intBin_64_all (k : Nat) (hk : k < 15) (a b : Nat) (ha : a < 18446744073709551616) (hb : b < 18446744073709551616) (w : World) : Calls Tryz.prog 288 #[.int .i64 (k : Int), .int .i64 64, .int .u64 a, .int .u64 b] w (Pq w (fitV (ibinM 64 k a b))) := by
  have h : k = 0 ∨ k = 1 ∨ k = 2 ∨ k = 3 ∨ k = 4 ∨ k = 5 ∨ k = 6 ∨ k = 7 ∨ k = 8 ∨ k = 9 ∨ k = 10 ∨ k = 11 ∨ k = 12 ∨ k = 13 ∨ k = 14 := by omega
  rcases h with rfl | rfl | rfl | rfl | rfl | rfl | rfl | rfl | rfl | rfl | rfl | rfl | rfl | rfl | rfl
  · exact intBin_64_0 a b ha hb w
  · exact intBin_64_1 a b ha hb w
  · exact intBin_64_2 a b ha hb w
  · exact intBin_64_3 a b ha hb w
  · exact intBin_64_4 a b ha hb w
  · exact intBin_64_5 a b ha hb w
  · exact intBin_64_6 a b ha hb w
  · exact intBin_64_7 a b ha hb w
  · exact intBin_64_8 a b ha hb w
  · exact intBin_64_9 a b ha hb w
  · exact intBin_64_10 a b ha hb w
  · exact intBin_64_11 a b ha hb w
  · exact intBin_64_12 a b ha hb w
  · exact intBin_64_13 a b ha hb w
  · exact intBin_64_14 a b ha hb w
theorem fltCmp_64_all (k : Nat) (hk : k < 6) (a b : Nat) (ha : a < 18446744073709551616) (hb : b < 18446744073709551616) (w : World) : Calls Tryz.prog 286 #[.int .i64 (k : Int), .int .i64 64, .int .u64 a, .int .u64 b] w (Pq w (.int .u64 ((flagN (cmpM Ieee.double k a b) : Nat) : Int))) := by
  have h : k = 0 ∨ k = 1 ∨ k = 2 ∨ k = 3 ∨ k = 4 ∨ k = 5 := by omega
  rcases h with rfl | rfl | rfl | rfl | rfl | rfl
  · exact fltCmp_0 ng64 a b ha hb w
  · exact fltCmp_1 ng64 a b ha hb w
  · exact fltCmp_2 ng64 a b ha hb w
  · exact fltCmp_3 ng64 a b ha hb w
  · exact fltCmp_4 ng64 a b ha hb w
  · exact fltCmp_5 ng64 a b ha hb w
theorem fltUn_64_all (k : Nat) (hk : k < 7) (a : Nat) (ha : a < 18446744073709551616) (w : World) : Calls Tryz.prog 289 #[.int .i64 (k : Int), .int .i64 64, .int .u64 a] w (Pq w (.int .u64 ((funM Ieee.double 1023 9221120237041090560 k a : Nat) : Int))) := by
  have h : k = 0 ∨ k = 1 ∨ k = 2 ∨ k = 3 ∨ k = 4 ∨ k = 5 ∨ k = 6 := by omega
  rcases h with rfl | rfl | rfl | rfl | rfl | rfl | rfl
  · unfold funM
    rw [if_pos rfl]
    exact fltUn_64_0 a ha w
  · unfold funM
    rw [if_neg (by decide), if_pos rfl]
    exact fltUn_64_1 a ha w
  · unfold funM
    rw [if_neg (by decide), if_neg (by decide), if_neg (by decide)]
    exact fltUn_64_2 a ha w
  · unfold funM
    rw [if_neg (by decide), if_neg (by decide), if_neg (by decide)]
    exact fltUn_64_3 a ha w
  · unfold funM
    rw [if_neg (by decide), if_neg (by decide), if_neg (by decide)]
    exact fltUn_64_4 a ha w
  · unfold funM
    rw [if_neg (by decide), if_neg (by decide), if_neg (by decide)]
    exact fltUn_64_5 a ha w
  · unfold funM
    rw [if_neg (by decide), if_neg (by decide), if_pos rfl]
    exact fltUn_64_6 a ha w
theorem fltBin_64_all (k : Nat) (hk : k < 7) (a b : Nat) (ha : a < 18446744073709551616) (hb : b < 18446744073709551616) (w : World) : Calls Tryz.prog 290 #[.int .i64 (k : Int), .int .i64 64, .int .u64 a, .int .u64 b] w (Pq w (.int .u64 ((fbinX Ieee.double 1023 9221120237041090560 k a b : Nat) : Int))) := by
  have h : k = 0 ∨ k = 1 ∨ k = 2 ∨ k = 3 ∨ k = 4 ∨ k = 5 ∨ k = 6 := by omega
  rcases h with rfl | rfl | rfl | rfl | rfl | rfl | rfl
  · unfold fbinX
    rw [if_neg (by decide)]
    exact fltBin_0 ng64 a b ha hb w
  · unfold fbinX
    rw [if_neg (by decide)]
    exact fltBin_1 ng64 a b ha hb w
  · unfold fbinX
    rw [if_neg (by decide)]
    exact fltBin_2 ng64 a b ha hb w
  · unfold fbinX
    rw [if_neg (by decide)]
    exact fltBin_3 ng64 a b ha hb w
  · unfold fbinX
    rw [if_neg (by decide)]
    exact fltBin_4 ng64 a b ha hb w
  · unfold fbinX
    rw [if_neg (by decide)]
    exact fltBin_5 ng64 a b ha hb w
  · unfold fbinX
    rw [if_pos rfl]
    exact fltBin_64_6 a b ha hb w
end Go.Proofs.Qxb6500275aGreatDoor
