import Derived.Test.Qxb6500275aGreatDoorXp3
set_option linter.unusedVariables false
set_option linter.unusedSimpArgs false
set_option maxRecDepth 100000
namespace Go.Proofs.Qxb6500275aGreatDoor
open Go Go.RowKit
section
variable {C : XC}
theorem Gd.step (hK : CodeOk C) {n m : Nat} {s s' : Xs} (h : Gd C s) (hs : stepX C (n, s) = .ok (m, s')) : Gd C s' := by
  obtain ⟨ff, ks, hh, hc, hch⟩ := h.cur
  obtain ⟨c, h1, h2, h3, h4, h5⟩ := hc.cell
  unfold stepX at hs
  dsimp only at hs
  rw [h2] at hs
  have key : ∀ q, coreX C { s with pc := s.pc + 1 } c = .ok q → Gd C q := fun q hq => core_good hK hc hch h.env h.dp h4 h5 hq
  rcases iteC hs with ⟨_, hs⟩ | ⟨_, hs⟩
  · cases hq : coreX C { s with pc := s.pc + 1 } c with
    | error r => rw [hq] at hs; simp at hs
    | ok q => rw [hq] at hs; simp at hs; rw [← hs.2]; exact key q hq
  · rcases iteC hs with ⟨_, hs⟩ | ⟨_, hs⟩
    · simp at hs
    · cases hq : coreX C { s with pc := s.pc + 1 } c with
      | error r => rw [hq] at hs; simp at hs
      | ok q => rw [hq] at hs; simp at hs; rw [← hs.2]; exact key q hq
/- IT ENDS -/
def lenX (C : XC) : Nat := (C.fs.map (fun f => f.cells.length)).sum + 1
theorem le_sumN : ∀ {l : List Nat} {x : Nat}, x ∈ l → x ≤ l.sum
  | [], x, h => by simp at h
  | a :: r, x, h => by
    rcases List.mem_cons.1 h with h | h
    · subst h; simp
    · have := le_sumN h; simp; omega
theorem len_lt {k : Nat} {ff : FF} (h : C.fs[k]? = some ff) : ff.cells.length < lenX C := by
  have : ff.cells.length ∈ C.fs.map (fun f => f.cells.length) := List.mem_map.2 ⟨ff, List.mem_of_getElem? h, rfl⟩
  have := le_sumN this
  unfold lenX
  omega
def muX (C : XC) (p : Nat × Xs) : Nat := p.1 * (7 * lenX C) + p.2.fr.length * lenX C + ((ffX C p.2).cells.length - p.2.pc)
theorem muX_le {s : Xs} (h : Gd C s) (n : Nat) : muX C (n, s) < n * (7 * lenX C) + 6 * lenX C := by
  obtain ⟨ff, ks, hh, hc, hch⟩ := h.cur
  obtain ⟨c, h1, h2, h3, h4, h5⟩ := hc.cell
  have hd := h.dp
  have hl := len_lt hc.fh.at_
  unfold muX
  dsimp only
  rw [h3]
  have : s.fr.length * lenX C ≤ 5 * lenX C := Nat.mul_le_mul_right _ hd
  omega
theorem mu_step (hK : CodeOk C) {n m : Nat} {s s' : Xs} (h : Gd C s) (hs : stepX C (n, s) = .ok (m, s')) : muX C (m, s') < muX C (n, s) := by
  have hG' := h.step hK hs
  have hmu := muX_le hG' m
  obtain ⟨ff, ks, hh, hc, hch⟩ := h.cur
  obtain ⟨c, h1, h2, h3, h4, h5⟩ := hc.cell
  have hpl := (List.getElem?_eq_some_iff.1 h1).1
  unfold stepX at hs
  dsimp only at hs
  rw [h2] at hs
  rcases iteC hs with ⟨hf, hs⟩ | ⟨_, hs⟩
  · unfold free at hf
    simp at hf
    cases hq : coreX C { s with pc := s.pc + 1 } c with
    | error r => rw [hq] at hs; simp at hs
    | ok q =>
      rw [hq] at hs
      simp at hs
      obtain ⟨rfl, rfl⟩ := hs
      unfold coreX at hq
      rcases hf with e | e
      · rw [if_neg (by omega), if_neg (by omega), if_neg (by omega), if_pos e] at hq
        simp at hq
        subst hq
        rcases h5.jump e with ⟨j, hx, hij, _⟩ | ⟨g, hg, _⟩
        · have hj : c.x.toNat = j := by omega
          have e1 : ffX C { s with pc := c.x.toNat } = ffX C s := rfl
          unfold muX
          dsimp only
          rw [hj] at e1 ⊢
          show _ + _ + ((ffX C { s with pc := j }).cells.length - j) < _
          rw [e1, h3]
          omega
        · simp at hg
      · rw [if_neg (by omega), if_neg (by omega), if_neg (by omega), if_neg (by omega), if_neg (by omega), if_neg (by omega), if_neg (by omega), if_pos (.inr e)] at hq
        unfold leaveX at hq
        dsimp only at hq
        cases hfr : s.fr with
        | nil => rw [hfr] at hq; simp at hq
        | cons a r =>
          rw [hfr] at hq
          simp only [Except.ok.injEq] at hq
          obtain ⟨ff', ks', hh', hc', _⟩ := hG'.cur
          have hl' := len_lt hc'.fh.at_
          obtain ⟨_, _, _, h3', _, _⟩ := hc'.cell
          have hfl : q.fr = r := by rw [← hq]
          unfold muX
          dsimp only
          rw [h3', hfl, hfr, List.length_cons, Nat.add_mul]
          omega
  · rcases iteC hs with ⟨_, hs⟩ | ⟨h0, hs⟩
    · simp at hs
    · cases hq : coreX C { s with pc := s.pc + 1 } c with
      | error r => rw [hq] at hs; simp at hs
      | ok q =>
        rw [hq] at hs
        simp at hs
        obtain ⟨rfl, rfl⟩ := hs
        have : muX C (n, s) ≥ n * (7 * lenX C) := by unfold muX; dsimp only; omega
        have e : n * (7 * lenX C) = (n - 1) * (7 * lenX C) + 7 * lenX C := by
          obtain ⟨k, rfl⟩ : ∃ k, n = k + 1 := ⟨n - 1, by omega⟩
          rw [Nat.add_sub_cancel, Nat.add_mul, Nat.one_mul]
        have : 0 < lenX C := by unfold lenX; omega
        omega
theorem Ends.step {p q : Nat × Xs} {r : Nat × Xe} (hs : stepX C p = .ok q) (h : Ends C q r) : Ends C p r := by
  obtain ⟨n, h⟩ := h
  exact ⟨n + 1, by rw [iterX, hs]; exact h⟩
theorem ends (hK : CodeOk C) : ∀ (k n : Nat) (s : Xs), Gd C s → muX C (n, s) ≤ k → ∃ r, Ends C (n, s) r := by
  intro k
  induction k with
  | zero =>
    intro n s h hm
    cases hs : stepX C (n, s) with
    | error r => exact ⟨r, 1, by rw [iterX, hs]⟩
    | ok q =>
      obtain ⟨m, s'⟩ := q
      have := mu_step hK h hs
      omega
  | succ k ih =>
    intro n s h hm
    cases hs : stepX C (n, s) with
    | error r => exact ⟨r, 1, by rw [iterX, hs]⟩
    | ok q =>
      obtain ⟨m, s'⟩ := q
      have := mu_step hK h hs
      obtain ⟨r, hr⟩ := ih m s' (h.step hK hs) (by omega)
      exact ⟨r, hr.step hs⟩
theorem Gd.ends (hK : CodeOk C) {s : Xs} (h : Gd C s) (n : Nat) : ∃ r, Ends C (n, s) r := Go.Proofs.Qxb6500275aGreatDoor.ends hK _ n s h (Nat.le_refl _)
end
end Go.Proofs.Qxb6500275aGreatDoor
