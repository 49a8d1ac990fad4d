import Derived.Test.Qxb6500275aGreatDoorHo0
import Derived.Laws.AppendOwn
set_option maxRecDepth 100000
set_option linter.unusedVariables false
set_option linter.unusedSimpArgs false
namespace Go.Proofs.Qxb6500275aGreatDoor
open Go Go.RowKit
theorem heap_ltR {w : World} {g : Nat} {o : Obj} (h : w.heap[g]? = some o) : g < w.heap.size := (Array.getElem?_eq_some_iff.1 h).1
/- where a grown row lies -/
def OwnO (w : World) (v v' : Value) : Prop := ∀ k, v'.ownBlock = some k → v.ownBlock = some k ∨ w.heap.size ≤ k
/- A ROW OF ITS OWN: the value v is a slice of n elements of type e (sz cells each); xs: their cells, one behind the other -/
def OR (w : World) (e : TypeId) (sz : Nat) (v : Value) (n : Nat) (xs : List Value) : Prop := w.ownsRow 0 e sz v n xs
section
variable {w w' : World} {e : TypeId} {sz n : Nat} {v : Value} {xs : List Value} {P : Nat → Prop}
theorem OR.nil (w : World) (e : TypeId) (sz : Nat) : OR w e sz (.slice none 0 0) 0 [] := World.ownsRow_nil w 0 e sz
theorem OR.len (h : OR w e sz v n xs) : xs.length = n * sz := h.1
theorem OR.lt (h : OR w e sz v n xs) {k : Nat} (hk : v.ownBlock = some k) : k < w.heap.size := (World.ownsRow.lt h k hk).2
theorem OR.keep (h : OR w e sz v n xs) (hk : Kp P w w') (hp : ∀ k, v.ownBlock = some k → ¬ P k) : OR w' e sz v n xs := by
  obtain ⟨h1, h2⟩ := h
  refine ⟨h1, ?_⟩
  rcases h2 with h2 | ⟨g, cap, cur, rfl, h3, h4, h5⟩
  · exact .inl h2
  · exact .inr ⟨g, cap, cur, rfl, h3, by rw [hk.block g (heap_ltR h4) (hp g rfl)]; exact h4, h5⟩
theorem OR.slice (h : OR w e sz v n xs) : ∃ a cap, v = .slice a n cap := by
  obtain ⟨h1, h2⟩ := h
  rcases h2 with ⟨e, e2⟩ | ⟨g, cap, cur, e, _⟩
  · exact ⟨none, 0, by rw [e, e2]⟩
  · exact ⟨_, cap, e⟩
/- where its cells lie -/
theorem OR.ptr (h : OR w e sz v n xs) (hn : n ≠ 0) : ∃ g cap, v = .slice (some ⟨g, 0, none⟩) n cap ∧ g < w.heap.size ∧ n ≤ cap ∧ cap ≤ 9223372036854775807 ∧
    (∀ j u, xs[j]? = some u → w.cell? ⟨g, j, none⟩ = some u) ∧ (∀ j, w.frozen? ⟨g, j, none⟩ = false) := by
  obtain ⟨h1, h2⟩ := h
  rcases h2 with ⟨_, e⟩ | ⟨g, cap, cur, e, h3, h4, h5, h6, h7, h8⟩
  · exact absurd e hn
  · refine ⟨g, cap, e, heap_ltR h4, h5, by simp only [maxLen] at h6; omega, fun j u hu => ?_, fun j => by simp [World.frozen?, h4]⟩
    rw [← h8, List.getElem?_take] at hu
    rw [cell_of_row w g j cur _ (0, 0) h4]
    split at hu
    · simpa using hu
    · cases hu
/- one cell is laid anew -/
theorem OR.set (h : OR w e sz v n xs) {g : Nat} (hg : v.ownBlock = some g) {j : Nat} (hj : j < n * sz) (u : Value) : OR (w.setCell ⟨g, j, none⟩ u) e sz v n (xs.set j u) := by
  obtain ⟨h1, h2⟩ := h
  refine ⟨by rw [List.length_set]; exact h1, ?_⟩
  rcases h2 with ⟨rfl, e⟩ | ⟨g', cap, cur, rfl, h3, h4, h5, h6, h7, h8⟩
  · simp [Value.ownBlock] at hg
  · simp [Value.ownBlock] at hg
    subst hg
    refine .inr ⟨g', cap, cur.setIfInBounds j u, rfl, h3, heap_setCell_same w g' j cur _ u h4, h5, h6, by simp [h7], ?_⟩
    rw [Array.toList_setIfInBounds, List.take_set, h8]
theorem OR.other (h : OR w e sz v n xs) {b i : Nat} (hb : ∀ k, v.ownBlock = some k → k ≠ b) (u : Value) : OR (w.setCell ⟨b, i, none⟩ u) e sz v n xs := by
  obtain ⟨h1, h2⟩ := h
  refine ⟨h1, ?_⟩
  rcases h2 with h2 | ⟨g', cap, cur, rfl, h3, h4, h5⟩
  · exact .inl h2
  · exact .inr ⟨g', cap, cur, rfl, h3, by rw [heap_setCell_other w _ g' u (hb g' rfl)]; exact h4, h5⟩
/- cut to its first k elements -/
theorem OR.trunc (h : OR w e sz v n xs) {k : Nat} (hk : k ≤ n) {a : Option Addr} {cap : Nat} (hv : v = .slice a n cap) : OR w e sz (.slice a k cap) k (xs.take (k * sz)) := by
  obtain ⟨h1, h2⟩ := h
  have hle : k * sz ≤ n * sz := Nat.mul_le_mul_right _ hk
  refine ⟨by rw [List.length_take, h1, Nat.min_eq_left hle], ?_⟩
  rcases h2 with ⟨rfl, e⟩ | ⟨g, cap', cur, rfl, h3, h4, h5, h6, h7, h8⟩
  · injection hv with e1 e2 e3
    have : k = 0 := by omega
    subst this
    exact .inl ⟨by rw [← e1, ← e3], rfl⟩
  · injection hv with e1 e2 e3
    subst e1 e3
    refine .inr ⟨g, cap', cur, rfl, h3, h4, by omega, h6, h7, ?_⟩
    rw [← h8, List.take_take, Nat.min_eq_left hle]
/- made: n elements, all nought -/
theorem OR.made (w : World) (e : TypeId) (sz n : Nat) (cur : Array Value) (hm : n ≤ maxLen) (hs : cur.size = n * sz) : OR (w.alloc (.cells cur e)) e sz (.slice (some ⟨w.heap.size, 0, none⟩) n n) n cur.toList := by
  refine ⟨by simp [hs], .inr ⟨w.heap.size, n, cur, rfl, Nat.zero_le _, heap_alloc_new w _, Nat.le_refl _, hm, hs, ?_⟩⟩
  rw [← hs]
  exact List.take_of_length_le (by simp)
/- one element more -/
theorem OR.app (h : OR w e sz v n xs) {t ty : TypeId} {i : TypeInfo} {z : Value} {bytes : Nat} (ht : Tryz.prog.underlying t = some (.slice e)) (hi : Tryz.prog.info? e = some i) (hz : i.zero = some z)
    (hsize : i.size = sz) (hby : i.bytes = bytes) (hzs : z.cells.size = sz) (hsz : 0 < sz) (hbb : bytes ≤ 1000) (hn : n ≤ 100000) (a : Addr) (c : Nat) (news : List Value) (hl : news.length = sz) (hnews : ∀ j u, news[j]? = some u → w.cell? (a.add j) = some u) (h1 : ∀ u ∈ news, u.oneCell' = true) :
    ∃ v' w', (Builtin.append_ #[t, t] ty #[v, .slice (some a) 1 c]).run Tryz.prog w = .ok v' w' ∧ OR w' e sz v' (n + 1) (xs ++ news) ∧ Kp (fun k => v.ownBlock = some k) w w' ∧ OwnO w v v' := by
  have hb2 : (n + 1) * bytes ≤ 140737488355328 := Nat.le_trans (Nat.mul_le_mul (show n + 1 ≤ 100001 by omega) hbb) (by decide)
  obtain ⟨v', w', r1, r2, r3, r4⟩ := run_append_own (P := Tryz.prog) w 0 t ty e i z sz bytes ht hi hz hsize hby hzs hsz v n xs h a 1 c news (by rw [hl, Nat.one_mul]) hnews h1 (by simp only [maxLen]; omega) hb2 (Nat.zero_le _)
  refine ⟨v', w', r1, r2, kp_grown r3 (fun k hk => hk), fun k hk => ?_⟩
  have h63 : n + 1 ≤ maxLen := by simp only [maxLen]; omega
  rcases h.2 with ⟨rfl, rfl⟩ | ⟨g, cap, cur, rfl, hbg, hg, hnc, hcm, hcs, htake⟩
  · have hxs : xs = [] := List.eq_nil_of_length_eq_zero (by simpa using h.1)
    subst hxs
    obtain ⟨v2, w2, q1, q2, _⟩ := run_append_own (P := Tryz.prog) w w.heap.size t ty e i z sz bytes ht hi hz hsize hby hzs hsz (.slice none 0 0) 0 [] (World.ownsRow_nil w _ e sz) a 1 c news (by rw [hl, Nat.one_mul]) hnews h1 h63 hb2 (Nat.le_refl _)
    rw [r1] at q1
    injection q1 with e1 e2
    subst e1
    exact .inr (World.ownsRow.lt q2 k hk).1
  · subst hsize
    by_cases hroom : n + 1 ≤ cap
    · have hfit : n * i.size + news.length ≤ cur.size := by
        rw [hl, hcs]
        have := Nat.mul_le_mul_right i.size hroom
        rw [Nat.add_mul, Nat.one_mul] at this
        exact this
      have hr := run_append_room (P := Tryz.prog) w t ty e i ht hi g n cap cur hg a 1 c news (by rw [hl, Nat.one_mul]) hnews h1 hroom hfit
      rw [r1] at hr
      injection hr with e1 e2
      subst e1
      exact .inl hk
    · have holds : ∀ j u, xs[j]? = some u → w.cell? ((⟨g, 0, none⟩ : Addr).add j) = some u := World.ownsRow.cells h (g := g) rfl
      have hr := run_append_grow (P := Tryz.prog) w t ty e i z ht hi hz ⟨g, 0, none⟩ n cap xs h.1 holds a 1 c news (by rw [hl, Nat.one_mul]) hnews (by omega) (by simp only [maxLen] at h63; omega) (growslice_fits (by omega) (by rw [hby]; exact hb2))
      rw [r1] at hr
      injection hr with e1 e2
      subst e1
      simp [Value.ownBlock] at hk
      exact .inr (by omega)
end
end Go.Proofs.Qxb6500275aGreatDoor
