import Derived.Test.Qxb6500275aGreatDoorMe1
set_option maxRecDepth 100000
set_option linter.unusedVariables false
set_option linter.unusedSimpArgs false
namespace Go.Proofs.Qxb6500275aGreatDoor
open Go Go.RowKit
theorem at322 (W : World) (a : Option Addr) (c : Nat) : (Instr.arrayAt 322 (.slice a 2 c)).run Tryz.prog W = .ok (.pointer a) W := by
  have h : Tryz.prog.underlying 322 = some (.array 2 5) := by kernel_rfl
  simp [Instr.arrayAt, run_underlying h]
theorem at262 (W : World) (a : Option Addr) (c : Nat) : (Instr.arrayAt 262 (.slice a 4 c)).run Tryz.prog W = .ok (.pointer a) W := by
  have h : Tryz.prog.underlying 262 = some (.array 4 5) := by kernel_rfl
  simp [Instr.arrayAt, run_underlying h]
def halfS (b0 b1 : Nat) : Int := bits .or .u16 (b0 : Int) ((b1 : Int) * 256)
def longS (b0 b1 b2 b3 : Nat) : Int := bits .or .u32 (bits .or .u32 (bits .or .u32 (b0 : Int) ((b1 : Int) * 256)) ((b2 : Int) * 65536)) ((b3 : Int) * 16777216)
section
variable {w w' : World} {sb rb : Nat} {S : Sm}
theorem sm_has (hS : SmOk S) (h : 0 < S.bs.length) : S.has = true := by
  cases e : S.has with
  | true => rfl
  | false =>
    have := (hS.no e).1
    rw [this] at h
    simp at h
set_option maxHeartbeats 2000000 in
theorem half_calls (h : Mm w sb rb S) (hS : SmOk S) (a b0 b1 : Nat) (h0 : S.bs[a]? = some b0) (h1 : S.bs[a + 1]? = some b1) : Calls Tryz.prog 164 #[.pointer (some ⟨sb, 0, none⟩), .int .i64 a] w (fun en w' => en = .returned (.int .u16 (halfS b0 b1)) ∧ Kp (fun _ => False) w w') := by
  have hc := h.cells
  have c2 := hc.c2
  have hm := hS.m
  have l1 := (List.getElem?_eq_some_iff.1 h1).1
  have hh := sm_has hS (by omega)
  rw [if_pos hh] at c2
  have e0 := hc.bb a b0 h0 (by omega)
  have e1 := hc.bb (a + 1) b1 h1 (by omega)
  have r0 := hS.b b0 (List.mem_of_getElem? h0)
  have r1 := hS.b b1 (List.mem_of_getElem? h1)
  generalize S.bs.length = m at *
  clear hc h0 h1 h hh
  have ha := at322
  go_enter Tryz.func164, Tryz.ntmps164
  go_wp2
  refine bodyPost_ret (v := .int .u16 (halfS b0 b1)) (by simp [results, Tryz.results164, go_sem, halfS]) rfl ?_
  exact ⟨rfl, (Kp.refl _ _).alloc _⟩
set_option maxHeartbeats 2000000 in
theorem long_calls (h : Mm w sb rb S) (hS : SmOk S) (a b0 b1 b2 b3 : Nat) (h0 : S.bs[a]? = some b0) (h1 : S.bs[a + 1]? = some b1) (h2 : S.bs[a + 2]? = some b2) (h3 : S.bs[a + 3]? = some b3) : Calls Tryz.prog 165 #[.pointer (some ⟨sb, 0, none⟩), .int .i64 a] w (fun en w' => en = .returned (.int .u32 (longS b0 b1 b2 b3)) ∧ Kp (fun _ => False) w w') := by
  have hc := h.cells
  have c2 := hc.c2
  have hm := hS.m
  have l1 := (List.getElem?_eq_some_iff.1 h3).1
  have hh := sm_has hS (by omega)
  rw [if_pos hh] at c2
  have e0 := hc.bb a b0 h0 (by omega)
  have e1 := hc.bb (a + 1) b1 h1 (by omega)
  have e2 := hc.bb (a + 2) b2 h2 (by omega)
  have e3 := hc.bb (a + 3) b3 h3 (by omega)
  have r0 := hS.b b0 (List.mem_of_getElem? h0)
  have r1 := hS.b b1 (List.mem_of_getElem? h1)
  have r2 := hS.b b2 (List.mem_of_getElem? h2)
  have r3 := hS.b b3 (List.mem_of_getElem? h3)
  generalize S.bs.length = m at *
  clear hc h0 h1 h hh h2 h3
  have ha := at262
  go_enter Tryz.func165, Tryz.ntmps165
  go_wp2
  refine bodyPost_ret (v := .int .u32 (longS b0 b1 b2 b3)) (by simp [results, Tryz.results165, go_sem, longS]) rfl ?_
  exact ⟨rfl, (Kp.refl _ _).alloc _⟩
/- eight bytes, from the top down -/
def wordR (f : Nat → Nat) : Nat → Int
  | 0 => 0
  | i + 1 => bits .or .u64 (IntKind.u64.wrap (wordR f i * 256)) (f (7 - i) : Int)
set_option maxHeartbeats 2000000 in
theorem mword_calls {a : Nat} {f : Nat → Nat} (hf : ∀ i, i < 8 → w.cell? ⟨rb, a + i, none⟩ = some (.int .u8 (f i : Int)) ∧ f i < 256) : Calls Tryz.prog 166 #[.pointer (some ⟨rb, a, none⟩)] w (Qm w (.int .u64 (wordR f 8))) := by
  have HF : Hid _ := hf
  clear hf
  go_enter Tryz.func166, Tryz.ntmps166
  go_wp2
  go_loopw [3, 5] (fun vv ii w1 => ∃ i : Nat, i ≤ 8 ∧ ii = .int .i64 i ∧ vv = .int .u64 (wordR f i) ∧ w1 = w) (fun _ ii _ => 9 - (intOf ii).toNat)
  case atStart => exact ⟨0, by omega, rfl, rfl, rfl⟩
  case round =>
    obtain ⟨i, hi, rfl, rfl, rfl⟩ := hrel
    by_cases hlt : i < 8
    · obtain ⟨c, r⟩ := HF.out (7 - i) (by omega)
      have hb : (i : Int) < 8 := by omega
      go_wp2
      exact ⟨⟨i + 1, by omega, by go_num, rfl, trivial⟩, by simp [intOf]; omega⟩
    · have hb : ¬ ((i : Int) < 8) := by omega
      have h8 : i = 8 := by omega
      subst h8
      go_wp2
      refine bodyPost_ret (v := .int .u64 (wordR f 8)) (by simp [results, Tryz.results166, go_sem]) rfl ?_
      exact ⟨rfl, rfl⟩
end
end Go.Proofs.Qxb6500275aGreatDoor
