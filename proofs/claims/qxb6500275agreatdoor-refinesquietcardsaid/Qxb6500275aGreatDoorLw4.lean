import Derived.Test.Qxb6500275aGreatDoorLw3
set_option linter.unusedVariables false
set_option linter.unusedSimpArgs false
set_option maxRecDepth 100000
namespace Go.Proofs.Qxb6500275aGreatDoor
open Go Go.RowKit
section
variable {M : Mod} {fn : Fn} {t : Ty} {cells : List Ins}
theorem Tw.gone (h : Tw M fn t cells) {s k : Nat} {r : List Nat} (hs : osAt fn s = s :: r) (hsn : s < fn.body.length) (hk : endF fn s < k) : s ∉ osAt fn k := fun hmem => by
  have hm := h.match_ hsn
  have h1 := osAt_new fn (endF fn s) k hk s hmem
  have hle := hm.le
  rcases h1 with h1 | h1
  · have h2 : osAt fn (endF fn s + 1) = r := by
      have hop := hm.op
      rw [osAt, if_neg (by omega), if_pos hop, h.os_end hsn, hs]
      rfl
    rw [h2] at h1
    rcases osAt_head hs with ⟨e1, e2⟩ | ⟨p, e1, e2, _⟩
    · rw [e2] at h1; simp at h1
    · rw [e2] at h1
      have := osAt_le fn p s h1
      omega
  · omega
theorem rev_cons {α : Type} {a : α} {l : List α} {m : Nat} {x : α} (h : (a :: l).reverse[m]? = some x) : (m < l.length ∧ l.reverse[m]? = some x) ∨ (m = l.length ∧ x = a) := by
  rw [List.reverse_cons] at h
  rcases get_snoc3 h with ⟨h1, h2⟩ | ⟨h1, h2⟩
  · exact .inl ⟨by simpa using h1, h2⟩
  · exact .inr ⟨by simpa using h1, h2⟩
theorem rev_old {α : Type} {a : α} {l : List α} {m : Nat} (h : m < l.length) : (a :: l).reverse[m]? = l.reverse[m]? := by
  rw [List.reverse_cons, List.getElem?_append_left (by simpa using h)]
theorem rev_top {α : Type} (a : α) (l : List α) : (a :: l).reverse[l.length]? = some a := by
  rw [List.reverse_cons]
  have : l.length = l.reverse.length := by simp
  rw [this]
  simp
/- a block's row of the validator, by its level -/
theorem Tw.fr_step (h : Tw M fn t cells) {j m : Nat} (hj : j + 1 < fn.body.length) {f : VF} (hf : (vsAt M fn t j).ctl.reverse[m]? = some f) (hk : m < (osAt fn (j + 1)).length) :
    ∃ f', (vsAt M fn t (j + 1)).ctl.reverse[m]? = some f' ∧ f'.floor = f.floor ∧ f'.res = f.res ∧ ((¬ ((opAt fn j).op = 5 ∧ (osAt fn j).length = m + 1) ∧ f'.op = f.op) ∨ (((opAt fn j).op = 5 ∧ (osAt fn j).length = m + 1) ∧ f.op = 4 ∧ f'.op = 5)) := by
  obtain ⟨f0, r0, hc, hfl, _⟩ := h.parts (pc := j) (by omega)
  have hS := h.fine hj hc hfl
  have hl0 := (h.op1 j (by omega)).1
  rw [(h.op1 (j + 1) hj).1] at hk
  rw [hl0, hc]
  rw [hc] at hf
  by_cases ho : (opAt fn j).op = 2 ∨ (opAt fn j).op = 3 ∨ (opAt fn j).op = 4
  · have h1 := hS.opn ho
    have hm : m < (f0 :: r0).length := by
      have := (List.getElem?_eq_some_iff.1 hf).1
      simpa using this
    exact ⟨f, by rw [h1, rev_old hm]; exact hf, rfl, rfl, .inl ⟨fun h => by omega, rfl⟩⟩
  by_cases h5 : (opAt fn j).op = 5
  · obtain ⟨k1, k2, k3, k4⟩ := hS.tu h5
    rcases rev_cons hf with ⟨h1, h2⟩ | ⟨h1, h2⟩
    · exact ⟨f, by rw [k3, rev_old h1]; exact h2, rfl, rfl, .inl ⟨fun h => by have := h.2; simp at this; omega, rfl⟩⟩
    · subst h1 h2
      exact ⟨{ f with op := 5, dead := false }, by rw [k3]; exact rev_top _ _, rfl, rfl, .inr ⟨⟨h5, rfl⟩, k1, rfl⟩⟩
  by_cases h11 : (opAt fn j).op = 11
  · obtain ⟨k1, k2, k3, k4⟩ := hS.en h11
    rw [k2] at hk
    rcases rev_cons hf with ⟨h1, h2⟩ | ⟨h1, h2⟩
    · exact ⟨f, by rw [k2]; exact h2, rfl, rfl, .inl ⟨fun h => by omega, rfl⟩⟩
    · omega
  · rcases hS.no (by omega) with e | e
    · exact ⟨f, by rw [e]; exact hf, rfl, rfl, .inl ⟨fun h => by omega, rfl⟩⟩
    · rcases rev_cons hf with ⟨h1, h2⟩ | ⟨h1, h2⟩
      · exact ⟨f, by rw [e, rev_old h1]; exact h2, rfl, rfl, .inl ⟨fun h => by omega, rfl⟩⟩
      · subst h1 h2
        exact ⟨{ f with dead := true }, by rw [e]; exact rev_top _ _, rfl, rfl, .inl ⟨fun h => by omega, rfl⟩⟩
theorem Tw.fr_between (h : Tw M fn t cells) {m a : Nat} {fa : VF} (hfa : (vsAt M fn t a).ctl.reverse[m]? = some fa) : ∀ (b : Nat), a ≤ b → b < fn.body.length → (∀ i, a ≤ i → i ≤ b → m < (osAt fn i).length) →
    ∃ fb, (vsAt M fn t b).ctl.reverse[m]? = some fb ∧ fb.floor = fa.floor ∧ fb.res = fa.res ∧ ((fb.op = fa.op ∧ ∀ k, a ≤ k → k < b → ¬ ((opAt fn k).op = 5 ∧ (osAt fn k).length = m + 1)) ∨ ∃ k, a ≤ k ∧ k < b ∧ ((opAt fn k).op = 5 ∧ (osAt fn k).length = m + 1) ∧ fa.op = 4 ∧ fb.op = 5 ∧ ∀ k', a ≤ k' → k' < b → ((opAt fn k').op = 5 ∧ (osAt fn k').length = m + 1) → k' = k)
  | 0, hab, hb, hi => by
    have e : a = 0 := by omega
    subst e
    exact ⟨fa, hfa, rfl, rfl, .inl ⟨rfl, fun k h1 h2 => by omega⟩⟩
  | b + 1, hab, hb, hi => by
    by_cases e : a = b + 1
    · subst e
      exact ⟨fa, hfa, rfl, rfl, .inl ⟨rfl, fun k h1 h2 => by omega⟩⟩
    obtain ⟨fb, h1, h2, h3, h4⟩ := h.fr_between hfa b (by omega) (by omega) (fun i h1 h2 => hi i h1 (by omega))
    obtain ⟨f', g1, g2, g3, g4⟩ := h.fr_step hb h1 (hi (b + 1) (by omega) (Nat.le_refl _))
    have sp : ∀ k, a ≤ k → k < b + 1 → (k < b) ∨ k = b := fun k h1 h2 => by omega
    refine ⟨f', g1, g2.trans h2, g3.trans h3, ?_⟩
    rcases h4 with ⟨h4, h5⟩ | ⟨k, k1, k2, k3, k4, k5, k6⟩
    · rcases g4 with ⟨g4, g5⟩ | ⟨g4, g5, g6⟩
      · refine .inl ⟨g5.trans h4, fun k ka kb => ?_⟩
        rcases sp k ka kb with hk | rfl
        · exact h5 k ka hk
        · exact g4
      · refine .inr ⟨b, by omega, by omega, g4, by rw [← h4]; exact g5, g6, fun k' ka kb hk' => ?_⟩
        rcases sp k' ka kb with hk | rfl
        · exact absurd hk' (h5 k' ka hk)
        · rfl
    · rcases g4 with ⟨g4, g5⟩ | ⟨g4, g5, g6⟩
      · refine .inr ⟨k, k1, by omega, k3, k4, g5.trans k5, fun k' ka kb hk' => ?_⟩
        rcases sp k' ka kb with hk | rfl
        · exact k6 k' ka hk hk'
        · exact absurd hk' g4
      · omega
/- a block's row where it begins, and at its end -/
theorem Tw.fr_ends (h : Tw M fn t cells) {s : Nat} {r : List Nat} (hs : osAt fn s = s :: r) (hsn : s < fn.body.length) :
    ∃ g f rr, (vsAt M fn t s).ctl = g :: rr ∧ (vsAt M fn t (endF fn s)).ctl = f :: rr ∧ f.floor = g.floor ∧ f.res = g.res ∧ g.floor = (vsAt M fn t s).ops.length ∧ g.floor ≤ (vsAt M fn t (endF fn s)).ops.length ∧ (vsAt M fn t s).ops = bot g.floor (vsAt M fn t (endF fn s)).ops ∧
      ((f.op = g.op ∧ elsF fn s = -1) ∨ ∃ k : Nat, s ≤ k ∧ k < endF fn s ∧ (opAt fn k).op = 5 ∧ osAt fn k = s :: r ∧ elsF fn s = (k : Int) ∧ g.op = 4 ∧ f.op = 5) := by
  have hm := h.match_ hsn
  have hen := h.os_end hsn
  have hen' : osAt fn (endF fn s) = s :: r := by rw [hen]; exact hs
  have hl : lvl fn s = r.length := by unfold lvl; rw [hs]; rfl
  obtain ⟨hlen, hO⟩ := h.op1 (endF fn s) hm.lt
  obtain ⟨q1, q2, g, f, rr, g1, g2, g3, g4, g5, g6, g7, g8⟩ := hO 0 s (by rw [hen']; rfl)
  simp only [List.drop_zero] at g2
  have hlr : rr.length = r.length := by
    have := (h.op1 s hsn).1
    rw [hs, g1] at this
    simp at this
    exact this.symm
  have htop : (vsAt M fn t s).ctl.reverse[lvl fn s]? = some g := by rw [g1, hl, ← hlr]; exact rev_top _ _
  obtain ⟨fb, b1, b2, b3, b4⟩ := h.fr_between htop (endF fn s) hm.le hm.lt (fun i h1 h2 => by have := hm.opn i h1 h2; omega)
  have hfb : fb = f := by
    rw [g2, hl, ← hlr, rev_top] at b1
    simp at b1
    exact b1.symm
  subst hfb
  refine ⟨g, fb, rr, g1, g2, g3, g4, g6, g7, g8, ?_⟩
  rcases b4 with ⟨b4, b5⟩ | ⟨k, k1, k2, k3, k4, k5, k6⟩
  · refine .inl ⟨b4, ?_⟩
    rcases hm.els with ⟨e1, _⟩ | ⟨k, e1, e2, e3, e4, e5⟩
    · exact e1
    · exact absurd e4 (b5 k e1 e2)
  · refine .inr ⟨k, k1, k2, k3.1, ?_, ?_, k4, k5⟩
    · have hos := h.os_low (m := lvl fn s + 1) (a := s) (by rw [hs]; simp; omega) k k1 (fun i h1 h2 => hm.opn i h1 (by omega))
      have e1 : bot (lvl fn s + 1) (osAt fn k) = osAt fn k := by rw [← k3.2]; exact bot_self _
      have e2 : bot (lvl fn s + 1) (osAt fn s) = osAt fn s := by
        have : lvl fn s + 1 = (osAt fn s).length := by rw [hs, hl]; rfl
        rw [this]; exact bot_self _
      rw [e1, e2, hs] at hos
      exact hos
    · rcases hm.els with ⟨e1, e2⟩ | ⟨k', e1, e2, e3, e4, e5⟩
      · exact absurd k3 (e2 k k1 k2)
      · rw [e3, k6 k' e1 e2 e4]
/- an else of the block is the one that the search finds -/
theorem Tw.else_only (h : Tw M fn t cells) {s k : Nat} {r : List Nat} (hs : osAt fn s = s :: r) (hsn : s < fn.body.length) (hk : osAt fn k = s :: r) (ho : (opAt fn k).op = 5) : elsF fn s = (k : Int) ∧ s ≤ k ∧ k < endF fn s := by
  have hm := h.match_ hsn
  have hsk : s ≤ k := osAt_le fn k s (by rw [hk]; simp)
  have hke : k < endF fn s := by
    rcases Nat.lt_trichotomy k (endF fn s) with hlt | heq | hgt
    · exact hlt
    · have := hm.op; rw [← heq] at this; omega
    · exact absurd (by rw [hk]; simp) (h.gone hs hsn hgt)
  have hl : lvl fn s = r.length := by unfold lvl; rw [hs]; rfl
  have hlk : (osAt fn k).length = lvl fn s + 1 := by rw [hk, hl]; rfl
  refine ⟨?_, hsk, hke⟩
  obtain ⟨g, f, rr, g1, g2, g3, g4, g6, g7, g8, b4⟩ := h.fr_ends hs hsn
  have hlr : rr.length = r.length := by
    have := (h.op1 s hsn).1
    rw [hs, g1] at this
    simp at this
    exact this.symm
  have htop : (vsAt M fn t s).ctl.reverse[lvl fn s]? = some g := by rw [g1, hl, ← hlr]; exact rev_top _ _
  obtain ⟨fb, b1, b2, b3, b4⟩ := h.fr_between htop (endF fn s) hm.le hm.lt (fun i h1 h2 => by have := hm.opn i h1 h2; omega)
  rcases b4 with ⟨b4, b5⟩ | ⟨k', k1, k2, k3, k4, k5, k6⟩
  · exact absurd ⟨ho, hlk⟩ (b5 k hsk hke)
  · have e := k6 k hsk hke ⟨ho, hlk⟩
    subst e
    rcases hm.els with ⟨e1, e2⟩ | ⟨k', e1, e2, e3, e4, e5⟩
    · exact absurd k3 (e2 k k1 k2)
    · rw [e3, k6 k' e1 e2 e4]
end
end Go.Proofs.Qxb6500275aGreatDoor
