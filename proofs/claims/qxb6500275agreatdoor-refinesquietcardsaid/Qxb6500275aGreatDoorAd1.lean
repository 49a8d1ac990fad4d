import Derived.Test.Qxb6500275aGreatDoorEx6
import Derived.Test.Qxb6500275aGreatDoorEx1
import Derived.Laws.AppendOwn
set_option maxRecDepth 100000
set_option linter.unusedVariables false
set_option linter.unusedSimpArgs false
namespace Go.Proofs.Qxb6500275aGreatDoor
open Go Go.RowKit
/- a packed type, as cells -/
def sigC (t : Ty) : List Value := (packS t).map (fun (u : Nat) => Value.int .u8 (u : Int))
theorem sigC_len (t : Ty) : (sigC t).length = 6 := rfl
theorem flat_len : ∀ (gs : List Ty), (gs.flatMap sigC).length = gs.length * 6
  | [] => rfl
  | t :: gs => by rw [List.flatMap_cons, List.length_append, flat_len gs, sigC_len, List.length_cons]; omega
theorem flat_get : ∀ (gs : List Ty) (i : Nat) (t : Ty) (j : Nat), gs[i]? = some t → j < 6 → (gs.flatMap sigC)[i * 6 + j]? = (sigC t)[j]?
  | [], i, t, j, h, hj => by simp at h
  | g :: gs, 0, t, j, h, hj => by
    simp at h
    subst h
    rw [List.flatMap_cons, Nat.zero_mul, Nat.zero_add, List.getElem?_append_left (by rw [sigC_len]; exact hj)]
  | g :: gs, i + 1, t, j, h, hj => by
    rw [List.flatMap_cons, List.getElem?_append_right (by rw [sigC_len]; omega), sigC_len, show (i + 1) * 6 + j - 6 = i * 6 + j by omega]
    exact flat_get gs i t j (by simpa using h) hj
/- a slice of packed types, in a block of its own -/
def Ow (w : World) (lo : Nat) (v : Value) (gs : List Ty) : Prop := w.ownsRow lo 90 6 v gs.length (gs.flatMap sigC)
theorem u66 : Tryz.prog.underlying 66 = some (.slice 90) := by kernel_rfl
theorem i90 : ∃ (i : TypeInfo) (z : Value), Tryz.prog.info? 90 = some i ∧ i.zero = some z ∧ z.cells.size = 6 ∧ i.size = 6 ∧ i.bytes = 6 := by
  have h0 : (Tryz.prog.info? 90).map (fun i => (i.zero.map (fun z => z.cells.size), i.size, i.bytes)) = some (some 6, 6, 6) := by kernel_rfl
  cases h : Tryz.prog.info? 90 with
  | none => rw [h] at h0; simp at h0
  | some i =>
    rw [h] at h0
    simp at h0
    obtain ⟨⟨z, h1, h2⟩, h3, h4⟩ := h0
    exact ⟨i, z, rfl, h1, h2, h3, h4⟩
section
variable {w w' : World} {lo : Nat} {v : Value} {gs : List Ty} {P : Nat → Prop}
theorem Ow.nil (w : World) (lo : Nat) : Ow w lo (.slice none 0 0) [] := ⟨rfl, .inl ⟨rfl, rfl⟩⟩
theorem heap_lt {w : World} {g : Nat} {o : Obj} (h : w.heap[g]? = some o) : g < w.heap.size := (Array.getElem?_eq_some_iff.1 h).1
theorem Ow.keep (h : Ow w lo v gs) (hk : Kp P w w') (hp : ∀ k, lo ≤ k → k < w.heap.size → ¬ P k) : Ow w' lo v gs := by
  obtain ⟨h1, h2⟩ := h
  refine ⟨h1, ?_⟩
  rcases h2 with h2 | ⟨g, cap, cur, e, h3, h4, h5⟩
  · exact .inl h2
  · exact .inr ⟨g, cap, cur, e, h3, by rw [hk.block g (heap_lt h4) (hp g h3 (heap_lt h4))]; exact h4, h5⟩
theorem Ow.low (h : Ow w lo v gs) {lo' : Nat} (hl : lo' ≤ lo) : Ow w lo' v gs := by
  obtain ⟨h1, h2⟩ := h
  refine ⟨h1, ?_⟩
  rcases h2 with h2 | ⟨g, cap, cur, e, h3, h4⟩
  · exact .inl h2
  · exact .inr ⟨g, cap, cur, e, Nat.le_trans hl h3, h4⟩
theorem Ow.lt (h : Ow w lo v gs) (k : Nat) (hk : v.ownBlock = some k) : lo ≤ k ∧ k < w.heap.size := by
  obtain ⟨h1, h2⟩ := h
  rcases h2 with ⟨e, _⟩ | ⟨g, cap, cur, e, h3, h4, h5⟩
  · rw [e] at hk; simp [Value.ownBlock] at hk
  · rw [e] at hk
    simp [Value.ownBlock] at hk
    subst hk
    exact ⟨h3, heap_lt h4⟩
theorem Ow.app (h : Ow w lo v gs) (hlo : lo ≤ w.heap.size) (hn : gs.length ≤ 100) (ty : TypeId) (a : Addr) (c : Nat) (t : Ty) (hc : ∀ j u, (sigC t)[j]? = some u → w.cell? (a.add j) = some u) :
    ∃ v' w', (Builtin.append_ #[66, 66] ty #[v, .slice (some a) 1 c]).run Tryz.prog w = .ok v' w' ∧ Ow w' lo v' (gs ++ [t]) ∧ w.grownBy w' v.ownBlock := by
  obtain ⟨i, z, h1, h2, h3, h4, h5⟩ := i90
  obtain ⟨v', w', r1, r2, r3, _⟩ := run_append_own (P := Tryz.prog) w lo 66 ty 90 i z 6 6 u66 h1 h2 h4 h5 h3 (by decide) v gs.length (gs.flatMap sigC) h a 1 c (sigC t) (by rw [sigC_len]) hc (fun u hu => by
    unfold sigC at hu
    obtain ⟨x, _, rfl⟩ := List.mem_map.1 hu
    rfl) (by simp only [maxLen]; omega) (by omega) hlo
  refine ⟨v', w', r1, ?_, r3⟩
  unfold Ow
  rw [List.flatMap_append, List.length_append]
  simpa using r2
theorem Ow.at_ (h : Ow w lo v gs) {i : Nat} {t : Ty} (hi : gs[i]? = some t) : ∃ b cap, v = .slice (some ⟨b, 0, none⟩) gs.length cap ∧ lo ≤ b ∧ ∀ (j u : Nat), (packS t)[j]? = some u → w.cell? ⟨b, i * 6 + j, none⟩ = some (.int .u8 u) := by
  obtain ⟨h1, h2⟩ := h
  have hil := (List.getElem?_eq_some_iff.1 hi).1
  rcases h2 with ⟨_, e⟩ | ⟨g, cap, cur, e, h3, h4, h5, h6, h7, h8⟩
  · omega
  · refine ⟨g, cap, e, h3, fun j u hu => ?_⟩
    have hj : j < 6 := (List.getElem?_eq_some_iff.1 hu).1
    have h9 := flat_get gs i t j hi hj
    rw [← h8] at h9
    rw [List.getElem?_take] at h9
    rw [if_pos (by omega)] at h9
    rw [cell_of_row w g (i * 6 + j) cur 90 (0, 0) h4, ← Array.getElem?_toList, h9]
    unfold sigC
    rw [List.getElem?_map, hu]
    rfl
theorem Ow.slice (h : Ow w lo v gs) : ∃ a cap, v = .slice a gs.length cap := by
  obtain ⟨h1, h2⟩ := h
  rcases h2 with ⟨e, e2⟩ | ⟨g, cap, cur, e, _⟩
  · exact ⟨none, 0, by rw [e, e2]⟩
  · exact ⟨_, cap, e⟩
theorem Ow.sg (h : Ow w lo v gs) {n : Nat} {g : Nat → List Nat → Prop} (hn : gs.length = n) (hg : ∀ i t, i < n → g i t → ∃ y, gs[i]? = some y ∧ t = packS y) : Sg w lo v n g := by
  obtain ⟨a, cap, e⟩ := h.slice
  refine ⟨a, cap, by rw [e, hn], fun i t hi ht => ?_⟩
  obtain ⟨y, h1, rfl⟩ := hg i t hi ht
  obtain ⟨b, cap', e', h2, h3⟩ := h.at_ h1
  rw [e] at e'
  simp at e'
  exact ⟨b, e'.1, h2, h3⟩
theorem kp_grow {S : Nat → Prop} {w1 w2 : World} {row : Option Nat} (h : Kp S w w1) (hg : w1.grownBy w2 row) (hr : ∀ k, row = some k → w.heap.size ≤ k) : Kp S w w2 :=
  ⟨hg.os.trans h.os, hg.tape.trans h.tape, hg.output.trans h.output, Nat.le_trans h.size hg.size, fun k hk hp => by
    rw [hg.block k (Nat.lt_of_lt_of_le hk h.size) (fun e => by have := hr k e.symm; omega)]
    exact h.block k hk hp⟩
end
end Go.Proofs.Qxb6500275aGreatDoor
