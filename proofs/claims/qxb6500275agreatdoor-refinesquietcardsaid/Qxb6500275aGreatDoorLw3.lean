import Derived.Test.Qxb6500275aGreatDoorLw2
set_option linter.unusedVariables false
set_option linter.unusedSimpArgs false
set_option maxRecDepth 100000
namespace Go.Proofs.Qxb6500275aGreatDoor
open Go Go.RowKit
/- THE MODEL'S SEARCH for a block's end and its else -/
def matchL : List Ins → Nat → Nat → Int → Nat × Int
  | [], j, d, els => (j, els)
  | x :: xs, j, d, els =>
    if x.op = 2 ∨ x.op = 3 ∨ x.op = 4 then matchL xs (j + 1) (d + 1) els
    else if x.op = 5 then matchL xs (j + 1) d (if d = 0 then (j : Int) else els)
    else if x.op = 11 then (if d = 0 then (j, els) else matchL xs (j + 1) (d - 1) els)
    else matchL xs (j + 1) d els
/- .. from a body's begin -/
def matchF (fn : Fn) (s : Nat) : Nat × Int := matchL (fn.body.drop s) s 0 (-1)
section
variable {M : Mod} {fn : Fn} {t : Ty} {cells : List Ins}
theorem drop_at {pc : Nat} (hp : pc < fn.body.length) : fn.body.drop pc = opAt fn pc :: fn.body.drop (pc + 1) := by
  rw [List.drop_eq_getElem_cons hp]
  unfold opAt
  rw [List.getD_eq_getElem?_getD, List.getElem?_eq_getElem hp]
  rfl
theorem Tw.last (h : Tw M fn t cells) {pc : Nat} (hp : pc + 1 = fn.body.length) : (opAt fn pc).op = 11 ∧ (osAt fn pc).length = 1 := by
  obtain ⟨v', a, hv⟩ := (h.at_ pc (by omega)).vl hp
  obtain ⟨h1, _, _, h4, _⟩ := stepV_yes hv
  rw [settledV_ctl] at h4
  exact ⟨h1, by rw [(h.op1 pc (by omega)).1]; exact h4⟩
theorem Tw.os_pos (h : Tw M fn t cells) {pc : Nat} (hp : pc < fn.body.length) : 1 ≤ (osAt fn pc).length := by
  obtain ⟨f, r, hc, _⟩ := h.parts hp
  rw [(h.op1 pc hp).1, hc]
  simp
/- what the search finds: m + 1 blocks stand open at the block's own level -/
structure MatchR (fn : Fn) (m j : Nat) (els : Int) (e : Nat) (els' : Int) : Prop where
  le : j ≤ e
  lt : e < fn.body.length
  op : (opAt fn e).op = 11
  len : (osAt fn e).length = m + 1
  opn : ∀ i, j ≤ i → i ≤ e → m + 1 ≤ (osAt fn i).length
  fst : ∀ i, j ≤ i → i < e → ¬ ((opAt fn i).op = 11 ∧ (osAt fn i).length = m + 1)
  els : (els' = els ∧ ∀ k, j ≤ k → k < e → ¬ ((opAt fn k).op = 5 ∧ (osAt fn k).length = m + 1)) ∨ ∃ k, j ≤ k ∧ k < e ∧ els' = (k : Int) ∧ ((opAt fn k).op = 5 ∧ (osAt fn k).length = m + 1) ∧ ∀ k', k < k' → k' < e → ¬ ((opAt fn k').op = 5 ∧ (osAt fn k').length = m + 1)
theorem MatchR.step {m j e : Nat} {els els1 els' : Int} (h : MatchR fn m (j + 1) els1 e els') (hl : m + 1 ≤ (osAt fn j).length) (hf : ¬ ((opAt fn j).op = 11 ∧ (osAt fn j).length = m + 1))
    (he : (els1 = els ∧ ¬ ((opAt fn j).op = 5 ∧ (osAt fn j).length = m + 1)) ∨ (els1 = (j : Int) ∧ ((opAt fn j).op = 5 ∧ (osAt fn j).length = m + 1))) : MatchR fn m j els e els' := by
  have h1 := h.le
  have sp : ∀ (i : Nat), j ≤ i → i = j ∨ j + 1 ≤ i := fun i hi => by omega
  refine ⟨by omega, h.lt, h.op, h.len, fun i hi hie => ?_, fun i hi hie => ?_, ?_⟩
  · rcases sp i hi with rfl | hi
    · exact hl
    · exact h.opn i hi hie
  · rcases sp i hi with rfl | hi
    · exact hf
    · exact h.fst i hi hie
  · rcases h.els with ⟨h2, h3⟩ | ⟨k, h2, h3, h4, h5, h6⟩
    · rcases he with ⟨e1, e2⟩ | ⟨e1, e2⟩
      · refine .inl ⟨h2.trans e1, fun k hk hke => ?_⟩
        rcases sp k hk with rfl | hk
        · exact e2
        · exact h3 k hk hke
      · exact .inr ⟨j, Nat.le_refl _, by omega, h2.trans e1, e2, fun k' hk hke => h3 k' (by omega) hke⟩
    · exact .inr ⟨k, by omega, h3, h4, h5, h6⟩
theorem Tw.match_go (h : Tw M fn t cells) (m : Nat) : ∀ (k j : Nat) (els : Int), fn.body.length - j ≤ k → j < fn.body.length → m + 1 ≤ (osAt fn j).length → ∃ e els', matchL (fn.body.drop j) j ((osAt fn j).length - (m + 1)) els = (e, els') ∧ MatchR fn m j els e els'
  | 0, j, els, hk, hj, hl => by omega
  | k + 1, j, els, hk, hj, hl => by
    rw [drop_at hj, matchL]
    by_cases hlast : j + 1 = fn.body.length
    · obtain ⟨h1, h2⟩ := h.last hlast
      rw [if_neg (by omega), if_neg (by omega), if_pos h1, if_pos (by omega)]
      refine ⟨j, els, rfl, Nat.le_refl _, hj, h1, by omega, fun i hi hie => ?_, fun i hi hie => by omega, .inl ⟨rfl, fun k h1 h2 => by omega⟩⟩
      have : i = j := by omega
      subst this
      exact hl
    have hj1 : j + 1 < fn.body.length := by omega
    by_cases ho : (opAt fn j).op = 2 ∨ (opAt fn j).op = 3 ∨ (opAt fn j).op = 4
    · rw [if_pos ho]
      have hos : osAt fn (j + 1) = (j + 1) :: osAt fn j := by rw [osAt, if_pos ho]
      have hl1 : (osAt fn (j + 1)).length = (osAt fn j).length + 1 := by rw [hos]; rfl
      obtain ⟨e, els', h1, h2⟩ := h.match_go m k (j + 1) els (by omega) hj1 (by omega)
      refine ⟨e, els', ?_, h2.step hl (fun h => by omega) (.inl ⟨rfl, fun h => by omega⟩)⟩
      rw [← h1, hl1]
      congr 1
      omega
    rw [if_neg ho]
    by_cases h5 : (opAt fn j).op = 5
    · rw [if_pos h5]
      have hos : osAt fn (j + 1) = osAt fn j := by rw [osAt, if_neg ho, if_neg (by omega)]
      have hl1 : (osAt fn (j + 1)).length = (osAt fn j).length := by rw [hos]
      obtain ⟨e, els', h1, h2⟩ := h.match_go m k (j + 1) (if (osAt fn j).length - (m + 1) = 0 then (j : Int) else els) (by omega) hj1 (by omega)
      refine ⟨e, els', by rw [← h1, hl1], h2.step hl (fun h => by omega) ?_⟩
      by_cases hd : (osAt fn j).length - (m + 1) = 0
      · rw [if_pos hd]
        exact .inr ⟨rfl, h5, by omega⟩
      · rw [if_neg hd]
        exact .inl ⟨rfl, fun h => by omega⟩
    rw [if_neg h5]
    by_cases h11 : (opAt fn j).op = 11
    · rw [if_pos h11]
      by_cases hd : (osAt fn j).length - (m + 1) = 0
      · rw [if_pos hd]
        refine ⟨j, els, rfl, Nat.le_refl _, hj, h11, by omega, fun i hi hie => ?_, fun i hi hie => by omega, .inl ⟨rfl, fun k h1 h2 => by omega⟩⟩
        have : i = j := by omega
        subst this
        exact hl
      · rw [if_neg hd]
        have hos : osAt fn (j + 1) = (osAt fn j).tail := by rw [osAt, if_neg ho, if_pos h11]
        have hl1 : (osAt fn (j + 1)).length = (osAt fn j).length - 1 := by rw [hos, List.length_tail]
        obtain ⟨e, els', h1, h2⟩ := h.match_go m k (j + 1) els (by omega) hj1 (by omega)
        refine ⟨e, els', ?_, h2.step hl (fun h => by omega) (.inl ⟨rfl, fun h => by omega⟩)⟩
        rw [← h1, hl1]
        congr 1
        omega
    · rw [if_neg h11]
      have hos : osAt fn (j + 1) = osAt fn j := by rw [osAt, if_neg ho, if_neg h11]
      have hl1 : (osAt fn (j + 1)).length = (osAt fn j).length := by rw [hos]
      obtain ⟨e, els', h1, h2⟩ := h.match_go m k (j + 1) els (by omega) hj1 (by omega)
      exact ⟨e, els', by rw [← h1, hl1], h2.step hl (fun h => by omega) (.inl ⟨rfl, fun h => by omega⟩)⟩
/- the level of the block whose body begins at s -/
def lvl (fn : Fn) (s : Nat) : Nat := (osAt fn s).length - 1
def endF (fn : Fn) (s : Nat) : Nat := (matchF fn s).1
def elsF (fn : Fn) (s : Nat) : Int := (matchF fn s).2
theorem Tw.match_ (h : Tw M fn t cells) {s : Nat} (hs : s < fn.body.length) : MatchR fn (lvl fn s) s (-1) (endF fn s) (elsF fn s) := by
  have hp := h.os_pos hs
  obtain ⟨e, els', h1, h2⟩ := h.match_go (lvl fn s) fn.body.length s (-1) (by omega) hs (by unfold lvl; omega)
  have e0 : (osAt fn s).length - (lvl fn s + 1) = 0 := by unfold lvl; omega
  rw [e0] at h1
  have e1 : endF fn s = e := by unfold endF matchF; rw [h1]
  have e2 : elsF fn s = els' := by unfold elsF matchF; rw [h1]
  rw [e1, e2]
  exact h2
/- while a block stands open, what lies below it stays -/
theorem Tw.os_low (h : Tw M fn t cells) {m a : Nat} (ha : m ≤ (osAt fn a).length) : ∀ (b : Nat), a ≤ b → (∀ i, a ≤ i → i ≤ b → m ≤ (osAt fn i).length) → bot m (osAt fn b) = bot m (osAt fn a)
  | 0, hb, hi => by
    have : a = 0 := by omega
    rw [this]
  | b + 1, hb, hi => by
    by_cases e : a = b + 1
    · rw [e]
    · rw [← h.os_low ha b (by omega) (fun i h1 h2 => hi i h1 (by omega))]
      have h1 := hi b (by omega) (by omega)
      have h2 := hi (b + 1) (by omega) (Nat.le_refl _)
      rw [osAt] at h2 ⊢
      split
      · exact bot_cons h1
      · rename_i ho
        rw [if_neg ho] at h2
        split
        · rename_i h11
          rw [if_pos h11, List.length_tail] at h2
          by_cases h0 : m < (osAt fn b).length
          · exact bot_tail h0
          · have e0 : m = 0 := by omega
            subst e0
            unfold bot
            simp
            omega
        · rfl
/- at its end the same blocks stand open as at its begin -/
theorem Tw.os_end (h : Tw M fn t cells) {s : Nat} (hs : s < fn.body.length) : osAt fn (endF fn s) = osAt fn s := by
  have hm := h.match_ hs
  have hp := h.os_pos hs
  have hl : (osAt fn s).length = lvl fn s + 1 := by unfold lvl; omega
  have h1 := h.os_low (m := lvl fn s + 1) (a := s) (by omega) (endF fn s) hm.le hm.opn
  have h2 := hm.len
  have e1 : bot (lvl fn s + 1) (osAt fn (endF fn s)) = osAt fn (endF fn s) := by rw [← h2]; exact bot_self _
  have e2 : bot (lvl fn s + 1) (osAt fn s) = osAt fn s := by rw [← hl]; exact bot_self _
  rw [e1, e2] at h1
  exact h1
/- behind its end it is gone -/
theorem osAt_new (fn : Fn) (e : Nat) : ∀ (j : Nat), e < j → ∀ x, x ∈ osAt fn j → x ∈ osAt fn (e + 1) ∨ e + 1 < x
  | 0, hj, x, hx => by omega
  | j + 1, hj, x, hx => by
    by_cases e1 : j = e
    · rw [e1] at hx; exact .inl hx
    rw [osAt] at hx
    split at hx
    · rcases List.mem_cons.1 hx with rfl | hx
      · exact .inr (by omega)
      · exact osAt_new fn e j (by omega) x hx
    · split at hx
      · exact osAt_new fn e j (by omega) x (List.mem_of_mem_tail hx)
      · exact osAt_new fn e j (by omega) x hx
/- a block's body begins where its opener stands before it; or it is the function's own -/
theorem osAt_head {s : Nat} {r : List Nat} (h : osAt fn s = s :: r) : (s = 0 ∧ r = []) ∨ ∃ p, s = p + 1 ∧ r = osAt fn p ∧ ((opAt fn p).op = 2 ∨ (opAt fn p).op = 3 ∨ (opAt fn p).op = 4) := by
  cases s with
  | zero => simp [osAt] at h; exact .inl ⟨rfl, h⟩
  | succ p =>
    right
    rw [osAt] at h
    have hle : ∀ (q : Nat), ∀ x, x ∈ osAt fn q → x ≤ q := by
      intro q
      induction q with
      | zero => intro x hx; simp [osAt] at hx; omega
      | succ q ih =>
        intro x hx
        rw [osAt] at hx
        split at hx
        · rcases List.mem_cons.1 hx with rfl | hx
          · exact Nat.le_refl _
          · have := ih x hx; omega
        · split at hx
          · have := ih x (List.mem_of_mem_tail hx); omega
          · have := ih x hx; omega
    split at h
    · rename_i ho
      simp at h
      exact ⟨p, rfl, h.symm, ho⟩
    · split at h
      · have : p + 1 ∈ (osAt fn p).tail := by rw [h]; simp
        have := hle p _ (List.mem_of_mem_tail this)
        omega
      · have : p + 1 ∈ osAt fn p := by rw [h]; simp
        have := hle p _ this
        omega
theorem osAt_le (fn : Fn) : ∀ (q : Nat), ∀ x, x ∈ osAt fn q → x ≤ q
  | 0, x, hx => by simp [osAt] at hx; omega
  | q + 1, x, hx => by
    rw [osAt] at hx
    split at hx
    · rcases List.mem_cons.1 hx with rfl | hx
      · exact Nat.le_refl _
      · have := osAt_le fn q x hx; omega
    · split at hx
      · have := osAt_le fn q x (List.mem_of_mem_tail hx); omega
      · have := osAt_le fn q x hx; omega
/- THE END is the only place that shuts the block -/
theorem Tw.end_only (h : Tw M fn t cells) {s j : Nat} {r : List Nat} (hs : osAt fn s = s :: r) (hsn : s < fn.body.length) (hj : osAt fn j = s :: r) (ho : (opAt fn j).op = 11) : j = endF fn s := by
  have hm := h.match_ hsn
  have hl : lvl fn s + 1 = (osAt fn s).length := by unfold lvl; rw [hs]; rfl
  have hsj : s ≤ j := osAt_le fn j s (by rw [hj]; simp)
  rcases Nat.lt_trichotomy j (endF fn s) with hlt | heq | hgt
  · exact absurd ⟨ho, by rw [hj, hl, hs]⟩ (hm.fst j hsj hlt)
  · exact heq
  · exfalso
    have h1 := osAt_new fn (endF fn s) j hgt s (by rw [hj]; simp)
    have hle := hm.le
    rcases h1 with h1 | h1
    · have h2 : osAt fn (endF fn s + 1) = r := by
        have hop := hm.op
        rw [osAt, if_neg (by omega), if_pos hop, h.os_end hsn, hs]
        rfl
      rw [h2] at h1
      rcases osAt_head hs with ⟨e1, e2⟩ | ⟨p, e1, e2, _⟩
      · rw [e2] at h1; simp at h1
      · rw [e2] at h1
        have := osAt_le fn p s h1
        omega
    · omega
end
end Go.Proofs.Qxb6500275aGreatDoor
