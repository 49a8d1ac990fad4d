import Derived.Test.Qxb6500275aGreatDoorSp10
import Derived.Test.Qxb6500275aGreatDoorDm1
set_option linter.unusedVariables false
set_option linter.unusedSimpArgs false
set_option maxRecDepth 100000
namespace Go.Proofs.Qxb6500275aGreatDoor
open Go Go.RowKit
theorem PI.dead {p : PS} (h : PI p) (n : Nat) : PI { p with dead := n } := ⟨h.g, h.dj, h.z, h.h, h.lC⟩
theorem PI.rows : ∀ (ls : List Int) {p q : PS}, PI p → (∀ l, l ∈ ls → 0 ≤ l) → rowsP p ls = some q → PI q ∧ q.ctl.length = p.ctl.length ∧ q.cells.length = p.cells.length + ls.length ∧ q.dead = p.dead
  | [], p, q, h, hr, hs => by simp [rowsP] at hs; subst hs; exact ⟨h, rfl, rfl, rfl⟩
  | l :: ls, p, q, h, hr, hs => by
    rw [rowsP] at hs
    rcases iteC hs with ⟨_, hs⟩ | ⟨hl, hs⟩
    · simp at hs
    · have h0 := hr l (by simp)
      have hb := h.branch (op := 225) (l := l.toNat) (by unfold isBr; omega) (by omega)
      obtain ⟨h1, h2, h3, h4⟩ := PI.rows ls hb.1 (fun l hl => hr l (by simp [hl])) hs
      exact ⟨h1, by rw [h2, hb.2.1], by rw [h3, hb.2.2.1]; simp; omega, by rw [h4, hb.2.2.2.2]⟩
/- what a step keeps -/
structure PK (p q : PS) (n : Nat) (last : Bool) : Prop where
  pi : PI q
  n : q.cells.length ≤ p.cells.length + n
  d : q.dead ≤ p.dead + 1
  e : q.ctl = [] → last = true
theorem length_pos_ne {α : Type} {l k : List α} (h : l.length = k.length) (hk : k ≠ []) : l ≠ [] := fun e => hk (List.length_eq_zero_iff.1 (by rw [← h, e]; rfl))
theorem PI.step {M : Mod} {fn : Fn} {last : Bool} {p q : PS} (h : PI p) (hc : p.ctl ≠ []) {x : Ins} (hx : InsOk x) (hF : FnOk fn) (hs : stepP M fn last p x = some q) : PK p q (1 + tabY x) last := by
  have hxr := hx.x
  have hyr := hx.y
  unfold u32R at hxr
  unfold u64R at hyr
  unfold stepP at hs
  split at hs
  · rename_i q' hk
    simp at hs
    subst hs
    unfold skipP at hk
    rcases iteC hk with ⟨_, hk⟩ | ⟨_, hk⟩
    · simp at hk
    rcases iteC hk with ⟨_, hk⟩ | ⟨_, hk⟩
    · simp at hk; subst hk; exact ⟨h.dead _, by dsimp only; omega, by dsimp only; omega, fun e => absurd e hc⟩
    rcases iteC hk with ⟨_, hk⟩ | ⟨_, hk⟩
    · rcases iteC hk with ⟨_, hk⟩ | ⟨_, hk⟩
      · simp at hk; subst hk; exact ⟨h, by omega, by omega, fun e => absurd e hc⟩
      · simp at hk
    rcases iteC hk with ⟨_, hk⟩ | ⟨_, hk⟩
    · rcases iteC hk with ⟨_, hk⟩ | ⟨_, hk⟩
      · simp at hk
      · simp at hk; subst hk; exact ⟨h.dead _, by dsimp only; omega, by dsimp only; omega, fun e => absurd e hc⟩
    · simp at hk; subst hk; exact ⟨h, by omega, by omega, fun e => absurd e hc⟩
  · rcases iteC hs with ⟨ho, hs⟩ | ⟨_, hs⟩
    · refine ⟨h.open hc ho hs, ?_, ?_, ?_⟩
      all_goals
        unfold openP at hs
        rcases iteC hs with ⟨_, hs⟩ | ⟨_, hs⟩
        · simp at hs
        rcases iteC hs with ⟨_, hs⟩ | ⟨_, hs⟩
        · rcases iteC hs with ⟨_, hs⟩ | ⟨_, hs⟩
          · simp at hs
          · simp at hs; subst hs; first | (intro e; simp at e; done) | (dsimp only; simp only [setX_len, List.length_append, List.length_cons, List.length_nil]; omega) | (dsimp only; omega)
        · simp at hs; subst hs; first | (intro e; simp at e; done) | (dsimp only; simp only [setX_len, List.length_append, List.length_cons, List.length_nil]; omega) | (dsimp only; omega)
    rcases iteC hs with ⟨_, hs⟩ | ⟨_, hs⟩
    · refine ⟨h.turn hc hs, ?_, ?_, ?_⟩
      all_goals
        unfold turnP at hs
        rcases iteC hs with ⟨_, hs⟩ | ⟨_, hs⟩
        · simp at hs
        rcases iteC hs with ⟨_, hs⟩ | ⟨_, hs⟩
        · simp at hs
        rcases iteC hs with ⟨_, hs⟩ | ⟨_, hs⟩
        · simp at hs; subst hs; first | (intro e; simp at e; done) | (dsimp only; simp only [setX_len, List.length_append, List.length_cons, List.length_nil]; omega) | (dsimp only; omega)
        · simp at hs; subst hs; first | (intro e; simp at e; done) | (dsimp only; simp only [setX_len, List.length_append, List.length_cons, List.length_nil]; omega) | (dsimp only; omega)
    rcases iteC hs with ⟨_, hs⟩ | ⟨_, hs⟩
    · split at hs
      · simp at hs
      · rename_i q' hq
        rcases iteC hs with ⟨_, hs⟩ | ⟨hl, hs⟩
        · simp at hs
        · simp at hs
          subst hs
          refine ⟨h.shut hc hq, ?_, ?_, fun e => ?_⟩
          · unfold shutP at hq
            dsimp only at hq
            rcases iteC hq with ⟨_, hq⟩ | ⟨_, hq⟩
            · simp at hq
            rcases iteC hq with ⟨_, hq⟩ | ⟨_, hq⟩
            · simp at hq
            · simp at hq
              subst hq
              dsimp only
              split
              · simp only [List.length_append, List.length_cons, List.length_nil, setX0_len, patchP_len]; omega
              · simp [setX0_len, patchP_len]
          · unfold shutP at hq
            dsimp only at hq
            rcases iteC hq with ⟨_, hq⟩ | ⟨_, hq⟩
            · simp at hq
            rcases iteC hq with ⟨_, hq⟩ | ⟨_, hq⟩
            · simp at hq
            · simp at hq
              subst hq
              dsimp only
              omega
          · cases last with
            | true => rfl
            | false => exact absurd ⟨by rw [e]; rfl, rfl⟩ hl
    rcases iteC hs with ⟨ho, hs⟩ | ⟨_, hs⟩
    · unfold brP at hs
      rcases iteC hs with ⟨_, hs⟩ | ⟨_, hs⟩
      · rcases iteC hs with ⟨_, hs⟩ | ⟨hl, hs⟩
        · simp at hs
        · simp at hs
          subst hs
          have hh := h.h
          have hp : PI { p with h := p.h - 1 } := ⟨h.g, h.dj, h.z, by dsimp only; omega, h.lC⟩
          have hb := hp.branch (op := 13) (l := x.x.toNat) (by unfold isBr; omega) (by dsimp only; omega)
          exact ⟨hb.1, by rw [hb.2.2.1]; dsimp only; omega, by rw [hb.2.2.2.2]; dsimp only; omega, fun e => absurd e (length_pos_ne hb.2.1 hc)⟩
      · rcases iteC hs with ⟨_, hs⟩ | ⟨hl, hs⟩
        · simp at hs
        · simp at hs
          subst hs
          have hb := h.branch (op := 12) (l := x.x.toNat) (by unfold isBr; omega) (by omega)
          exact ⟨hb.1.dead 1, by dsimp only; rw [hb.2.2.1]; omega, by dsimp only; omega, fun e => absurd e (length_pos_ne hb.2.1 hc)⟩
    rcases iteC hs with ⟨ho, hs⟩ | ⟨_, hs⟩
    · unfold tableP at hs
      rcases iteC hs with ⟨_, hs⟩ | ⟨hl, hs⟩
      · simp at hs
      · split at hs
        · simp at hs
        · rename_i q' hq
          simp at hs
          subst hs
          have hh := h.h
          obtain ⟨h1, h2, h3, h4⟩ := PI.rows _ (h.lay [⟨14, x.y, 0⟩] (p.h - 1) p.dead (by omega)) (fun l hl => (hF.tabs l (List.mem_of_mem_drop (List.mem_of_mem_take hl))).1) hq
          refine ⟨h1.dead 1, ?_, by dsimp only; omega, fun e => absurd e (length_pos_ne h2 hc)⟩
          dsimp only
          rw [h3]
          unfold tabY
          rw [if_pos ho]
          simp
          omega
    rcases iteC hs with ⟨ho, hs⟩ | ⟨_, hs⟩
    · simp at hs
      subst hs
      exact ⟨h.lay _ _ _ h.h, by dsimp only; simp only [List.length_append, List.length_cons, List.length_nil]; omega, by dsimp only; omega, fun e => absurd e hc⟩
    · refine ⟨h.plain hs, ?_, ?_, ?_⟩
      all_goals
        unfold plainP at hs
        split at hs
        · simp at hs
        · rcases iteC hs with ⟨_, hs⟩ | ⟨_, hs⟩
          · simp at hs
          · simp at hs
            subst hs
            first | exact (fun e => absurd e hc) | (dsimp only; simp only [List.length_append, List.length_cons, List.length_nil]; omega) | (dsimp only; split <;> omega)
theorem PI.first (results : Nat) (hr : results ≤ 1) : PI ⟨[⟨0, 0, 0⟩], [⟨11, 0, results, 0, [], 0, 0⟩], 0, 0⟩ := by
  refine ⟨fun g hg => ?_, by simp, rfl, by simp, by simp⟩
  simp at hg
  subst hg
  exact ⟨trivial, by simp, hr, by simp, fun e => by simp at e, by simp, fun e => absurd rfl e, fun e => absurd rfl e⟩
/- the room that a body wants -/
def costL (l : List Ins) : Nat := l.length + tabSum l
theorem costL_cons (x : Ins) (l : List Ins) : costL (x :: l) = 1 + tabY x + costL l := by unfold costL tabSum; simp; omega
end Go.Proofs.Qxb6500275aGreatDoor
