import Derived.Test.Qxb6500274aGreatWPh
import Derived.Test.Qxb6500274aGreatWPrim
import Derived.Test.Qxb6500274aGreatWEnvTy
import Derived.RegionTactic
import Derived.ChangeAlike
set_option linter.unusedVariables false
set_option linter.unusedSimpArgs false
set_option maxRecDepth 20000
namespace Go.Proofs.Qxb6500274aGreat
open Go Go.RowKit Go.Sx
theorem mk_run {P : Program} {t e : TypeId} {i j : TI} (hi : TIOK P t i) (hd : i.desc = .slice e) (hj : TIOK P e j) (l c : Nat) (h1 : l ≤ c) (h2 : c ≤ 65536) (h0 : 0 < c * j.size) : ∃ A : Array Value, A.toList = rep j.zero c ∧
    ∀ w : World, (Instr.makeSlice t (.int .i64 l) (.int .i64 c)).run P w = .ok (.slice (some ⟨w.heap.size, 0, none⟩) l c) (w.alloc (.cells A e)) := by
  obtain ⟨inf, g1, g2, g3, g4⟩ := hj.info
  have hsz : (zeroVal j).cells.size = j.size := by rw [← Array.length_toList, hj.zero_cells, hj.zl]
  refine ⟨(Array.range (c * j.size)).map ((zeroVal j).cells[· % (zeroVal j).cells.size]!), ?_, fun w => ?_⟩
  · rw [Array.toList_map, Array.toList_range]
    rw [show c * j.size = c * (zeroVal j).cells.size by rw [hsz]]
    rw [rep_range, hj.zero_cells]
  · have hb : inf.bytes * c ≤ 1000000 * 65536 := Nat.mul_le_mul g4 h2
    have hb' : ((inf.bytes : Int) * (c : Int)) ≤ 281474976710656 := by
      have : (((inf.bytes * c : Nat)) : Int) ≤ 281474976710656 := by omega
      rwa [Int.natCast_mul] at this
    have := run_make (P := P) w t e inf (zeroVal j) (by rw [hi.und, hd]) g1 g3 .i64 .i64 l c (by omega) (by omega) hb' (by omega)
    rw [this]
    simp only [Int.toNat_natCast, madeCells, g2]

/- two rows made in whatever order, and a struct that holds them -/
def Made2 (w w' : World) (A B : List Value) (C : Nat → Nat → Array Value) (e : Ending) : Prop :=
  ∃ a b c : Nat, a ≠ b ∧ a ≠ c ∧ b ≠ c ∧ (w.heap.size ≤ a ∧ a < w'.heap.size) ∧ (w.heap.size ≤ b ∧ b < w'.heap.size) ∧ (w.heap.size ≤ c ∧ c < w'.heap.size) ∧ e = .returned (.pointer (some ⟨c, 0, none⟩)) ∧ Below w.heap.size w w' ∧
    (∃ X T, X.toList = A ∧ w'.heap[a]? = some (.cells X T (0, 0))) ∧ (∃ X T, X.toList = B ∧ w'.heap[b]? = some (.cells X T (0, 0))) ∧ ∃ T, w'.heap[c]? = some (.cells (C a b) T (0, 0))
theorem made2_of (w : World) (X Y Z : Array Value) (T1 T2 T3 : TypeId) : 
    (((w.alloc (.cells X T1)).alloc (.cells Y T2)).alloc (.cells Z T3)).drew.heap.size = w.heap.size + 3 ∧
    Below w.heap.size w (((w.alloc (.cells X T1)).alloc (.cells Y T2)).alloc (.cells Z T3)).drew ∧
    (((w.alloc (.cells X T1)).alloc (.cells Y T2)).alloc (.cells Z T3)).drew.heap[w.heap.size]? = some (.cells X T1 (0, 0)) ∧
    (((w.alloc (.cells X T1)).alloc (.cells Y T2)).alloc (.cells Z T3)).drew.heap[w.heap.size + 1]? = some (.cells Y T2 (0, 0)) ∧
    (((w.alloc (.cells X T1)).alloc (.cells Y T2)).alloc (.cells Z T3)).drew.heap[w.heap.size + 1 + 1]? = some (.cells Z T3 (0, 0)) := by
  have e : (((w.alloc (.cells X T1)).alloc (.cells Y T2)).alloc (.cells Z T3)).drew.heap = ((w.heap.push (.cells X T1)).push (.cells Y T2)).push (.cells Z T3) := rfl
  refine ⟨by rw [e]; simp, ⟨rfl, rfl, rfl, by rw [e]; simp; omega, fun k hk => ?_⟩, ?_, ?_, ?_⟩
  · rw [e, Array.getElem?_push, if_neg (by simp; omega), Array.getElem?_push, if_neg (by simp; omega), Array.getElem?_push, if_neg (by omega)]
  · rw [e, Array.getElem?_push, if_neg (by simp; omega), Array.getElem?_push, if_neg (by simp), Array.getElem?_push, if_pos rfl]
  · rw [e, Array.getElem?_push, if_neg (by simp), Array.getElem?_push, if_pos (by simp)]
  · rw [e, Array.getElem?_push, if_pos (by simp)]

set_option maxHeartbeats 1000000 in
theorem bin_new (w : World) : Calls Tryz.prog 30 #[] w fun e w' => Made2 w w' (rep [.int .u8 0, .int .u32 0, .int .u64 0] 96) (rep [.int .u32 0] 24) (fun a b => #[.int .i64 0, .int .i64 0, .int .i64 0, .int .i64 0, .int .i64 0, .int .i64 0, .int .i64 0, .int .i64 0, .int .i64 0, .int .u8 0, .int .u8 0, .int .u8 0, .int .u8 0, .int .u8 0, .int .u8 0, .int .i64 0, .slice (some ⟨a, 0, none⟩) 96 96, .int .i64 0, .slice (some ⟨b, 0, none⟩) 24 24, .int .i64 0, .slice none 0 0, .slice none 0 0, .slice none 0 0]) e := by
  obtain ⟨A, hA, h1⟩ := mk_run ty92.ok rfl ty115.ok 96 96 (by decide) (by decide) (by decide)
  obtain ⟨B, hB, h2⟩ := mk_run ty93.ok rfl ty113.ok 24 24 (by decide) (by decide) (by decide)
  have h1 : ∀ w, (Instr.makeSlice 92 (.int .i64 96) (.int .i64 96)).run Tryz.prog w = .ok (.slice (some ⟨w.heap.size, 0, none⟩) 96 96) (w.alloc (.cells A 115)) := h1
  have h2 : ∀ w, (Instr.makeSlice 93 (.int .i64 24) (.int .i64 24)).run Tryz.prog w = .ok (.slice (some ⟨w.heap.size, 0, none⟩) 24 24) (w.alloc (.cells B 113)) := h2
  go_enter Tryz.func30, Tryz.ntmps30
  go_wp2
  go_region
  all_goals go_wp2
  · go_ret
    obtain ⟨q1, q2, q3, q4, q5⟩ := made2_of w A B #[.int .i64 0, .int .i64 0, .int .i64 0, .int .i64 0, .int .i64 0, .int .i64 0, .int .i64 0, .int .i64 0, .int .i64 0, .int .u8 0, .int .u8 0, .int .u8 0, .int .u8 0, .int .u8 0, .int .u8 0, .int .i64 0, .slice (some ⟨w.heap.size, 0, none⟩) 96 96, .int .i64 0, .slice (some ⟨(w.heap.size + 1), 0, none⟩) 24 24, .int .i64 0, .slice none 0 0, .slice none 0 0, .slice none 0 0] 115 113 96
    exact ⟨w.heap.size, w.heap.size + 1, w.heap.size + 1 + 1, by omega, by omega, by omega, by rw [q1]; omega, by rw [q1]; omega, by rw [q1]; omega, rfl, q2, ⟨_, _, hA, q3⟩, ⟨_, _, hB, q4⟩, _, q5⟩
  · go_ret
    obtain ⟨q1, q2, q3, q4, q5⟩ := made2_of w B A #[.int .i64 0, .int .i64 0, .int .i64 0, .int .i64 0, .int .i64 0, .int .i64 0, .int .i64 0, .int .i64 0, .int .i64 0, .int .u8 0, .int .u8 0, .int .u8 0, .int .u8 0, .int .u8 0, .int .u8 0, .int .i64 0, .slice (some ⟨(w.heap.size + 1), 0, none⟩) 96 96, .int .i64 0, .slice (some ⟨w.heap.size, 0, none⟩) 24 24, .int .i64 0, .slice none 0 0, .slice none 0 0, .slice none 0 0] 113 115 96
    exact ⟨w.heap.size + 1, w.heap.size, w.heap.size + 1 + 1, by omega, by omega, by omega, by rw [q1]; omega, by rw [q1]; omega, by rw [q1]; omega, rfl, q2, ⟨_, _, hA, q4⟩, ⟨_, _, hB, q3⟩, _, q5⟩

set_option maxHeartbeats 1000000 in
theorem host_new (w : World) : Calls Tryz.prog 69 #[] w fun e w' => Made2 w w' (rep [.nilIface] 4) (rep [.int .u8 0] 864) (fun a b => #[.slice (some ⟨a, 0, none⟩) 0 4, .int .u64 0, .int .u64 0, .int .u64 0, .int .u64 0, .int .u64 0, .int .u64 0, .int .i64 0, .int .i64 0, .slice (some ⟨b, 0, none⟩) 0 864, .int .i64 0]) e := by
  obtain ⟨A, hA, h1⟩ := mk_run ty207.ok rfl ty218.ok 0 4 (by decide) (by decide) (by decide)
  obtain ⟨B, hB, h2⟩ := mk_run ty94.ok rfl ty5.ok 0 864 (by decide) (by decide) (by decide)
  have h1 : ∀ w, (Instr.makeSlice 207 (.int .i64 0) (.int .i64 4)).run Tryz.prog w = .ok (.slice (some ⟨w.heap.size, 0, none⟩) 0 4) (w.alloc (.cells A 218)) := h1
  have h2 : ∀ w, (Instr.makeSlice 94 (.int .i64 0) (.int .i64 864)).run Tryz.prog w = .ok (.slice (some ⟨w.heap.size, 0, none⟩) 0 864) (w.alloc (.cells B 5)) := h2
  go_enter Tryz.func69, Tryz.ntmps69
  go_wp2
  go_region
  all_goals go_wp2
  · go_ret
    obtain ⟨q1, q2, q3, q4, q5⟩ := made2_of w A B #[.slice (some ⟨w.heap.size, 0, none⟩) 0 4, .int .u64 0, .int .u64 0, .int .u64 0, .int .u64 0, .int .u64 0, .int .u64 0, .int .i64 0, .int .i64 0, .slice (some ⟨(w.heap.size + 1), 0, none⟩) 0 864, .int .i64 0] 218 5 210
    exact ⟨w.heap.size, w.heap.size + 1, w.heap.size + 1 + 1, by omega, by omega, by omega, by rw [q1]; omega, by rw [q1]; omega, by rw [q1]; omega, rfl, q2, ⟨_, _, hA, q3⟩, ⟨_, _, hB, q4⟩, _, q5⟩
  · go_ret
    obtain ⟨q1, q2, q3, q4, q5⟩ := made2_of w B A #[.slice (some ⟨(w.heap.size + 1), 0, none⟩) 0 4, .int .u64 0, .int .u64 0, .int .u64 0, .int .u64 0, .int .u64 0, .int .u64 0, .int .i64 0, .int .i64 0, .slice (some ⟨w.heap.size, 0, none⟩) 0 864, .int .i64 0] 5 218 210
    exact ⟨w.heap.size + 1, w.heap.size, w.heap.size + 1 + 1, by omega, by omega, by omega, by rw [q1]; omega, by rw [q1]; omega, by rw [q1]; omega, rfl, q2, ⟨_, _, hA, q4⟩, ⟨_, _, hB, q3⟩, _, q5⟩

end Go.Proofs.Qxb6500274aGreat
