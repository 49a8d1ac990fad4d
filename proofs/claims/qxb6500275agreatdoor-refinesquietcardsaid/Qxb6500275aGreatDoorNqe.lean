import Derived.Test.Qxb6500275aGreatDoorNqd
set_option maxRecDepth 100000
set_option linter.unusedVariables false
set_option linter.unusedSimpArgs false
namespace Go.Proofs.Qxb6500275aGreatDoor
open Go Go.RowKit
theorem mul_halves (x0 x1 y0 y1 : Nat) (h0 : x0 < 4294967296) (h1 : x1 < 4294967296) (h2 : y0 < 4294967296) (h3 : y1 < 4294967296) :
    (x0 * y0 ≤ 18446744065119617025 ∧ x1 * y0 ≤ 18446744065119617025 ∧ x0 * y1 ≤ 18446744065119617025 ∧ x1 * y1 ≤ 18446744065119617025) ∧
    (x1 * 4294967296 + x0) * (y1 * 4294967296 + y0) / 18446744073709551616 = x1 * y1 + (x1 * y0 + x0 * y0 / 4294967296) / 4294967296 + ((x1 * y0 + x0 * y0 / 4294967296) % 4294967296 + x0 * y1) / 4294967296 := by
  have b : ∀ a c : Nat, a < 4294967296 → c < 4294967296 → a * c ≤ 18446744065119617025 := fun a c ha hc => by
    have := Nat.mul_le_mul (show a ≤ 4294967295 by omega) (show c ≤ 4294967295 by omega)
    simpa using this
  refine ⟨⟨b _ _ h0 h2, b _ _ h1 h2, b _ _ h0 h3, b _ _ h1 h3⟩, ?_⟩
  have e : (x1 * 4294967296 + x0) * (y1 * 4294967296 + y0) = x1 * y1 * 18446744073709551616 + (x1 * y0 + x0 * y1) * 4294967296 + x0 * y0 := by
    rw [Nat.add_mul, Nat.mul_add, Nat.mul_add, Nat.add_mul]
    have e1 : x1 * 4294967296 * (y1 * 4294967296) = x1 * y1 * 18446744073709551616 := by rw [Nat.mul_mul_mul_comm]
    have e2 : x1 * 4294967296 * y0 = x1 * y0 * 4294967296 := by rw [Nat.mul_right_comm]
    have e3 : x0 * (y1 * 4294967296) = x0 * y1 * 4294967296 := by rw [Nat.mul_assoc]
    omega
  rw [e]
  generalize x1 * y1 = D at *
  generalize x1 * y0 = A at *
  generalize x0 * y1 = B at *
  generalize x0 * y0 = w0 at *
  omega
set_option maxHeartbeats 4000000 in
theorem mul64_c (x y : Nat) (hx : x < 18446744073709551616) (hy : y < 18446744073709551616) (w : World) : Calls Tryz.prog 318 #[.int .u64 x, .int .u64 y] w (Pq w (.tuple #[.int .u64 ((x * y / 18446744073709551616 : Nat) : Int), .int .u64 ((x * y % 18446744073709551616 : Nat) : Int)])) := by
  have a1 := and_mask (x : Int) 32 4294967295 (by decide) (by decide) (by omega)
  have a2 := and_mask (y : Int) 32 4294967295 (by decide) (by decide) (by omega)
  rw [Int.toNat_natCast, show x % 2 ^ 32 = x % 4294967296 by rfl] at a1
  rw [Int.toNat_natCast, show y % 2 ^ 32 = y % 4294967296 by rfl] at a2
  obtain ⟨⟨b1, b2, b3, b4⟩, hhi⟩ := mul_halves (x % 4294967296) (x / 4294967296) (y % 4294967296) (y / 4294967296) (by omega) (by omega) (by omega) (by omega)
  rw [show x / 4294967296 * 4294967296 + x % 4294967296 = x by omega, show y / 4294967296 * 4294967296 + y % 4294967296 = y by omega] at hhi
  have hx1 : (x : Int) / 4294967296 = ((x / 4294967296 : Nat) : Int) := by omega
  have hy1 : (y : Int) / 4294967296 = ((y / 4294967296 : Nat) : Int) := by omega
  have hlo : IntKind.u64.wrap ((x : Int) * (y : Int)) = ((x * y % 18446744073709551616 : Nat) : Int) := by rw [wrap_u64]; simp
  rw [hhi]
  generalize x * y % 18446744073709551616 = LO at hlo ⊢
  generalize x % 4294967296 = x0 at *
  generalize x / 4294967296 = x1 at *
  generalize y % 4294967296 = y0 at *
  generalize y / 4294967296 = y1 at *
  have m1 : IntKind.u64.wrap ((x0 : Int) * (y0 : Int)) = ((x0 * y0 : Nat) : Int) := by rw [wrap_u64, ← Int.natCast_mul]; omega
  have m2 : IntKind.u64.wrap ((x1 : Int) * (y0 : Int)) = ((x1 * y0 : Nat) : Int) := by rw [wrap_u64, ← Int.natCast_mul]; omega
  have m3 : IntKind.u64.wrap ((x0 : Int) * (y1 : Int)) = ((x0 * y1 : Nat) : Int) := by rw [wrap_u64, ← Int.natCast_mul]; omega
  have m4 : IntKind.u64.wrap ((x1 : Int) * (y1 : Int)) = ((x1 * y1 : Nat) : Int) := by rw [wrap_u64, ← Int.natCast_mul]; omega
  generalize x0 * y0 = w0 at *
  generalize x1 * y0 = A at *
  generalize x0 * y1 = B at *
  generalize x1 * y1 = D at *
  have a3 := and_mask ((A : Int) + (w0 : Int) / 4294967296) 32 4294967295 (by decide) (by decide) (by omega)
  rw [show ((A : Int) + (w0 : Int) / 4294967296).toNat % 2 ^ 32 = (A + w0 / 4294967296) % 4294967296 by omega] at a3
  have HH : Hid (x * y / 18446744073709551616 = D + (A + w0 / 4294967296) / 4294967296 + ((A + w0 / 4294967296) % 4294967296 + B) / 4294967296) := hhi
  have hDb : D + (A + w0 / 4294967296) / 4294967296 + ((A + w0 / 4294967296) % 4294967296 + B) / 4294967296 < 18446744073709551616 := by
    rw [← hhi, Nat.div_lt_iff_lt_mul (by decide)]
    exact Nat.mul_lt_mul'' hx hy
  clear hhi
  go_enter Tryz.func318, Tryz.ntmps318
  go_wp2
  refine bodyPost_ret (v := .tuple #[.int .u64 ((D : Int) + ((A : Int) + (w0 : Int) / 4294967296) / 4294967296 + (((A : Int) + (w0 : Int) / 4294967296) % 4294967296 + (B : Int)) / 4294967296), .int .u64 LO]) (by simp [results, Tryz.results318, go_sem]) rfl ?_
  refine ⟨?_, rfl⟩
  have e : (D : Int) + ((A : Int) + (w0 : Int) / 4294967296) / 4294967296 + (((A : Int) + (w0 : Int) / 4294967296) % 4294967296 + (B : Int)) / 4294967296 = ((D + (A + w0 / 4294967296) / 4294967296 + ((A + w0 / 4294967296) % 4294967296 + B) / 4294967296 : Nat) : Int) := by omega
  rw [e]
end Go.Proofs.Qxb6500275aGreatDoor
