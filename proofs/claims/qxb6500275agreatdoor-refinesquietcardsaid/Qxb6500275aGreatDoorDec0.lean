import Derived.Test.Qxb6500275aGreatDoorSec0
import Derived.Recover
import Derived.Defers
import Derived.Laws.Pointers
import Derived.Deep.Light
set_option maxRecDepth 100000
set_option linter.unusedVariables false
set_option linter.unusedSimpArgs false
set_option linter.unusedSectionVars false
namespace Go.Proofs.Qxb6500275aGreatDoor
open Go Go.RowKit
variable [Inhabited TV]
@[go_sem] theorem as96 (v : Value) (w : World) : (Instr.typeAssert (.iface 96 v) 20 96 true).run Tryz.prog w = .ok (.tuple #[v, .bool true]) w := by kernel_rfl
structure Cf (n : Nat) (w w' : World) (vm vp ve : Value) : Prop where
  kp : Kp (fun k => k = n ∨ k = n + 1 ∨ k = n + 2) w w'
  c0 : w'.cell? ⟨n, 0, none⟩ = some vm
  c1 : w'.cell? ⟨n + 1, 0, none⟩ = some vp
  c2 : w'.cell? ⟨n + 2, 0, none⟩ = some ve
/- the deferred literal of Decode, of a frame that panics -/
set_option maxHeartbeats 2000000 in
theorem catch_fault (n : Nat) (c : Int) (a : Nat) (older : List PanicEntry) (w : World) {v0 v1 v2 : Value} (h0 : w.cell? ⟨n, 0, none⟩ = some v0) (h1 : w.cell? ⟨n + 1, 0, none⟩ = some v1) (h2 : w.cell? ⟨n + 2, 0, none⟩ = some v2)
    (f0 : w.frozen? ⟨n, 0, none⟩ = false) (f1 : w.frozen? ⟨n + 1, 0, none⟩ = false) (f2 : w.frozen? ⟨n + 2, 0, none⟩ = false) :
    CallsD Tryz.prog 51 #[.pointer (some ⟨n, 0, none⟩), .pointer (some ⟨n + 1, 0, none⟩), .pointer (some ⟨n + 2, 0, none⟩)] (.panicking ({ v := .iface 96 (.agg #[.int .i64 c, .int .i64 a]), recovered := false } :: older)) w fun e u' w' =>
      e = .returned (.tuple #[]) ∧ u' = .panicking ({ v := .iface 96 (.agg #[.int .i64 c, .int .i64 a]), recovered := true } :: older) ∧ Cf n w w' (.pointer none) (.int .i64 a) (.int .i64 c) := by
  have hl0 : n < w.heap.size := lt_of_cell h0
  have hl1 : n + 1 < w.heap.size := lt_of_cell h1
  have hl2 : n + 2 < w.heap.size := lt_of_cell h2
  refine callsD_of_wpS Tryz.func51 rfl fun c₀ cs hu => ?_
  apply wpS_seq
  apply wpS_region
  simp [wpOpsS, go_sem, recoverD, hu, Tryz.ntmps51, Exit.thenS]
  refine wpS_of_wp ?_
  refine Code.wp_mono (Q := fun e a' w' => e = .normal ∧ a'.defers = [] ∧ Cf n w w' (.pointer none) (.int .i64 a) (.int .i64 c)) ?_ ?_
  · rintro e a' w' ⟨rfl, hd, hc⟩
    exact ⟨hd, _, rfl, _, by simp [results, Tryz.results51], rfl, rfl, hc⟩
  have ht : (#[Value.pointer (some { block := n, off := 0 }), Value.pointer (some { block := n + 1, off := 0 }), Value.pointer (some { block := n + 2, off := 0 })] ++ ((Array.replicate 18 undef).setIfInBounds 3 (Value.iface 96 (Value.agg #[Value.int IntKind.i64 c, Value.int IntKind.i64 ↑a]))).setIfInBounds 0 (Value.iface 96 (Value.agg #[Value.int IntKind.i64 c, Value.int IntKind.i64 ↑a]))) =
    #[Value.pointer (some { block := n, off := 0 }), Value.pointer (some { block := n + 1, off := 0 }), Value.pointer (some { block := n + 2, off := 0 }), Value.iface 96 (Value.agg #[Value.int IntKind.i64 c, Value.int IntKind.i64 ↑a]), undef, undef, Value.iface 96 (Value.agg #[Value.int IntKind.i64 c, Value.int IntKind.i64 ↑a]), undef, undef, undef, undef, undef, undef, undef, undef, undef, undef, undef, undef, undef, undef] := rfl
  rw [ht]
  clear ht hu
  go_wp2
  go_region
  all_goals
    go_wp2
    refine ⟨(((((Kp.refl _ w).setCell (p := ⟨n, 0, none⟩) (.inl (.inl rfl)) _).setCell (p := ⟨n + 1, 0, none⟩) (.inl (.inr (.inl rfl))) _).setCell (p := ⟨n + 2, 0, none⟩) (.inl (.inr (.inr rfl))) _).alloc _).drew, ?_, ?_, ?_⟩
    · simp [go_sem, h0, h1, h2, hl0]
    · simp [go_sem, h0, h1, h2, hl1]
    · simp [go_sem, h0, h1, h2, hl2]
/- .. of a frame that returns -/
set_option maxHeartbeats 2000000 in
theorem catch_idle (p q r : Addr) (w : World) :
    CallsD Tryz.prog 51 #[.pointer (some p), .pointer (some q), .pointer (some r)] .returning w fun e u' w' => e = .returned (.tuple #[]) ∧ u' = .returning ∧ w' = w := by
  refine callsD_of_wpS Tryz.func51 rfl fun c₀ cs hu => ?_
  apply wpS_seq
  apply wpS_region
  simp [wpOpsS, go_sem, recoverD, hu, Tryz.ntmps51, Exit.thenS]
  refine wpS_of_wp ?_
  refine Code.wp_mono (Q := fun e a' w' => e = .ret ∧ a'.defers = [] ∧ w' = w) ?_ ?_
  · rintro e a' w' ⟨rfl, hd, rfl⟩
    refine ⟨hd, _, rfl, _, by simp [results, Tryz.results51], rfl, ?_, rfl⟩
    first | rfl | exact hu
  have ht : (#[Value.pointer (some p), Value.pointer (some q), Value.pointer (some r)] ++ ((Array.replicate 18 undef).setIfInBounds 3 Value.nilIface).setIfInBounds 0 Value.nilIface) =
    #[Value.pointer (some p), Value.pointer (some q), Value.pointer (some r), Value.nilIface, undef, undef, Value.nilIface, undef, undef, undef, undef, undef, undef, undef, undef, undef, undef, undef, undef, undef, undef] := rfl
  rw [ht]
  clear ht
  go_wp2
end Go.Proofs.Qxb6500275aGreatDoor
