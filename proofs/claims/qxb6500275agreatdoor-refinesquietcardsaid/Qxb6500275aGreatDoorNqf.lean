import Derived.Test.Qxb6500275aGreatDoorNqe
set_option maxRecDepth 100000
set_option linter.unusedVariables false
set_option linter.unusedSimpArgs false
namespace Go.Proofs.Qxb6500275aGreatDoor
open Go Go.RowKit
/- A FORMAT OF THE MODEL OF THE NUMBERS, by what its functions answer -/
structure NF (F : Ieee.Format) (bi can : Nat) (f : Int) : Prop where
  fmt : Fmt F bi
  b3 : bi ≤ 1023
  sw : 2 * F.signWeight ≤ 18446744073709551616
  unp : ∀ v : Nat, v < 2 * F.signWeight → ∀ w, Calls Tryz.prog 311 #[.int .i64 f, .int .u64 v] w (Pq w (unpV (unpS F bi v)))
  can : ∀ w, Calls Tryz.prog 302 #[.int .i64 f] w (Pq w (.int .u64 (can : Int)))
  inf : ∀ neg w, Calls Tryz.prog 317 #[.int .i64 f, .bool neg] w (Pq w (.int .u64 ((F.word neg F.infRung : Nat) : Int)))
  sgn : ∀ neg w, Calls Tryz.prog 316 #[.int .i64 f, .bool neg] w (Pq w (.int .u64 ((F.word neg 0 : Nat) : Int)))
  rnd : ∀ (neg st : Bool) (m : Nat) (e : Int), m ≠ 0 → m < 18446744073709551616 → -30000 ≤ e ∧ e ≤ 30000 → ∀ w, Calls Tryz.prog 313 #[.int .i64 f, .bool neg, .int .u64 m, .int .i64 e, .bool st] w (Pq w (.int .u64 ((softRound F bi neg m e st : Nat) : Int)))
theorem nf32 : NF Ieee.single 127 2143289344 32 := by
  refine ⟨fmt_single, by decide, by decide, fun v hv w => unpack_32 v hv w, fun w => canon_32 w, fun neg w => ?_, fun neg w => ?_, fun neg st m e h1 h2 h3 w => round_32 neg st m e h1 h2 (by omega) w⟩
  · cases neg
    · exact infinity_32_false w
    · exact infinity_32_true w
  · cases neg
    · exact sign_32_false w
    · exact sign_32_true w
theorem nf64 : NF Ieee.double 1023 9221120237041090560 64 := by
  refine ⟨fmt_double, by decide, by decide, fun v hv w => unpack_64 v hv w, fun w => canon_64 w, fun neg w => ?_, fun neg w => ?_, fun neg st m e h1 h2 h3 w => round_64 neg st m e h1 h2 (by omega) w⟩
  · cases neg
    · exact infinity_64_false w
    · exact infinity_64_true w
  · cases neg
    · exact sign_64_false w
    · exact sign_64_true w
end Go.Proofs.Qxb6500275aGreatDoor
