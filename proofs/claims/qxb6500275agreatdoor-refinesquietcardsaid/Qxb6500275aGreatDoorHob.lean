import Derived.Test.Qxb6500275aGreatDoorHoa
import Derived.Test.Qxb6500275aGreatDoorAp3
set_option maxRecDepth 100000
set_option linter.unusedVariables false
set_option linter.unusedSimpArgs false
namespace Go.Proofs.Qxb6500275aGreatDoor
open Go Go.RowKit
/- A CALL OF AN IMPORT -/
def rowH (k : Nat) (args : List Nat) : List Nat := [32, 48 + k, 40] ++ rowN args ++ [41]
def tracedH (H : Hm) (k : Nat) (args : List Nat) : Hm := { H with tr := H.tr ++ rowH k args, rows := H.rows + 1 }
/- the function's own answer -/
def fnH (H : Hm) (kd want pages : Nat) : Nat × Nat × Hm :=
  if kd = 1 then (if want = 0 then (0, 0, H) else match takeH H with | none => (0, 47, H) | some (v, H') => ((cutB want (v : Int)).toNat, 0, H'))
  else if kd = 2 then (0, 0, H) else if kd = 3 then (if want = 0 then (0, 0, H) else ((cutB want (pages : Int)).toNat, 0, H)) else (0, 49, H)
def callH (H : Hm) (k : Nat) (args : List Nat) (want pages : Nat) : Nat × Nat × Hm :=
  if 12 ≤ H.rows then (0, 48, H) else fnH (tracedH H k args) (H.bd.getD k 0) want pages
theorem hexD_r : ∀ d : Nat, d < 16 → (hexD d).toNat < 256 ∧ (hexD d).toNat ≠ 32 := by decide
theorem hexL_r : ∀ (n v : Nat), ∀ c, c ∈ hexL v n → c.toNat < 256 ∧ c.toNat ≠ 32
  | 0, v, c, h => by simp [hexL] at h
  | n + 1, v, c, h => by
    rw [hexL] at h
    rcases List.mem_append.1 h with h | h
    · exact hexL_r n _ c h
    · simp at h
      subst h
      exact hexD_r _ (Nat.mod_lt _ (by decide))
theorem rowN_r : ∀ (l : List Nat) (x : Nat), x ∈ rowN l → x < 256 ∧ x ≠ 32
  | [], x, h => by simp [rowN] at h
  | v :: vs, x, h => by
    rw [rowN] at h
    rcases List.mem_append.1 h with h | h
    · rcases List.mem_append.1 h with h | h
      · unfold hexN at h
        obtain ⟨c, hc, rfl⟩ := List.mem_map.1 h
        exact hexL_r 16 v c hc
      · simp at h; omega
    · exact rowN_r vs x h
theorem rowH_len (k : Nat) (args : List Nat) : (rowH k args).length = 17 * args.length + 4 := by
  unfold rowH
  rw [List.length_append, List.length_append, rowN_len]
  simp
  omega
theorem tracedH_ok {H : Hm} (h : HmOk H) {k : Nat} (hk : k < 4) {args : List Nat} (ha : args.length ≤ 4) (hr : H.rows < 12) : HmOk (tracedH H k args) := by
  refine ⟨h.bd, h.tp, ⟨?_, fun v hv => ?_, ?_⟩, by unfold tracedH; dsimp only; omega⟩
  · have := h.tr.1
    unfold tracedH; dsimp only
    rw [List.length_append, rowH_len]; omega
  · unfold tracedH at hv
    dsimp only at hv
    rcases List.mem_append.1 hv with hv | hv
    · exact h.tr.2.1 v hv
    · unfold rowH at hv
      rcases List.mem_append.1 hv with hv | hv
      · rcases List.mem_append.1 hv with hv | hv
        · simp at hv; omega
        · exact (rowN_r _ _ hv).1
      · simp at hv; omega
  · unfold tracedH; dsimp only
    rw [List.count_append, h.tr.2.2]
    have : (rowH k args).count 32 = 1 := by
      unfold rowH
      rw [List.count_append, List.count_append]
      have h0 : (rowN args).count 32 = 0 := List.count_eq_zero.2 (fun hm => (rowN_r _ _ hm).2 rfl)
      rw [h0]
      have hk2 : ¬ 48 + k = 32 := by omega
      simp [List.count_cons, hk2]
    rw [this]
theorem fnH_ok {H : Hm} (h : HmOk H) (kd want pages : Nat) : HmOk (fnH H kd want pages).2.2 := by
  have ht := takeH_ok h
  unfold fnH
  split
  · split
    · exact h
    · cases hk : takeH H with
      | none => exact h
      | some p => rw [hk] at ht; exact ht
  split
  · exact h
  split
  · split
    · exact h
    · exact h
  · exact h
theorem callH_ok {H : Hm} (h : HmOk H) {k : Nat} (hk : k < 4) {args : List Nat} (ha : args.length ≤ 4) (want pages : Nat) : HmOk (callH H k args want pages).2.2 := by
  unfold callH
  split
  · exact h
  · exact fnH_ok (tracedH_ok h hk ha (by omega)) _ _ _
section
variable {w w' : World} {hb bb tb : Nat} {T : Nat → Prop} {H : Hm}
theorem Tb.join {tb len : Nat} {C D : Nat → Value} {a b : List Nat} (h : Tb w tb (len + a.length) D b) (h1 : ∀ j, j < len → D j = C j) (h2 : ∀ j x, (byV a)[j]? = some x → D (len + j) = x) : Tb w tb len C (a ++ b) := by
  obtain ⟨E, e1, e2, e3⟩ := h.is
  have hl : (byV a).length = a.length := by unfold byV; rw [List.length_map]
  refine ⟨E, e1, fun j hj => (e2 j (by omega)).trans (h1 j hj), fun j x hx => ?_⟩
  unfold byV at hx
  rw [List.map_append] at hx
  by_cases e : j < a.length
  · rw [List.getElem?_append_left (by simpa using e)] at hx
    rw [e2 _ (by omega)]
    exact h2 j x hx
  · rw [List.getElem?_append_right (by simp; omega), List.length_map] at hx
    have := e3 (j - a.length) x hx
    rw [show len + a.length + (j - a.length) = len + j by omega] at this
    exact this
/- the trace's row stands -/
theorem Hw.traced {wf : World} {F G C : Nat → Value} {head k : Nat} {args : List Nat} (b1 : Blk w hb 11 F) (b2 : Blk w bb 4 G) (b3 : Blk w tb 864 C) (hl : HL w F G C hb bb tb T H head) (d1 : hb ≠ bb) (d2 : hb ≠ tb) (d3 : bb ≠ tb) (t : ¬ T hb ∧ ¬ T bb ∧ ¬ T tb)
    (hk : Kp (fun k => k = hb ∨ k = tb) w wf) (hF : Blk wf hb 11 (upd (upd F 10 (.int .i64 ((H.rows : Int) + 1))) 9 (.slice (some ⟨tb, 0, none⟩) (H.tr.length + (rowH k args).length) 864))) (hT : Tb wf tb H.tr.length C (rowH k args)) : Hw wf hb bb tb T (tracedH H k args) := by
  obtain ⟨D, e1, e2, e3⟩ := hT.is
  have hl' := hl.keep hk (fun k hTk h => by
    rcases h with h | h
    · exact t.1 (h ▸ hTk)
    · exact t.2.2 (h ▸ hTk))
  refine ⟨⟨_, G, D, head, hF, b2.keep hk (fun h => by rcases h with h | h; exact d1 h.symm; exact d3 h), e1, ⟨?_, fun i v hi => ?_, ?_, ?_, ?_, ?_, hl.hd, fun i v hi => ?_, hl'.bd, hl'.st⟩⟩, d1, d2, d3, t⟩
  · rw [upd_ne _ _ (by omega), upd_ne _ _ (by omega)]; exact hl.f0
  · have h1 := (List.getElem?_eq_some_iff.1 hi).1
    have h2 := hl.hd
    unfold tracedH at h1
    dsimp only at h1
    rw [upd_ne _ _ (by omega), upd_ne _ _ (by omega)]; exact hl.tp i v hi
  · rw [upd_ne _ _ (by omega), upd_ne _ _ (by omega)]; exact hl.f7
  · rw [upd_ne _ _ (by omega), upd_ne _ _ (by omega)]; exact hl.f8
  · rw [upd_same]; unfold tracedH; dsimp only; rw [List.length_append]
  · rw [upd_ne _ _ (by omega), upd_same]; unfold tracedH; simp
  · unfold tracedH at hi
    dsimp only at hi
    by_cases e : i < H.tr.length
    · rw [List.getElem?_append_left e] at hi
      rw [e2 i e]
      exact hl.tr i v hi
    · rw [List.getElem?_append_right (by omega)] at hi
      have := e3 (i - H.tr.length) (.int .u8 (v : Int)) (by unfold byV; rw [List.getElem?_map, hi]; rfl)
      rw [show H.tr.length + (i - H.tr.length) = i by omega] at this
      exact this
end
end Go.Proofs.Qxb6500275aGreatDoor
