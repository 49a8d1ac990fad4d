import Derived.Test.Qxb6500275aGreatDoorSp5
set_option linter.unusedVariables false
namespace Go.Proofs.Qxb6500275aGreatDoor
open Go Go.RowKit
/- what an instruction may give -/
def giveOk (t : Nat) : Prop := t = 64 ∨ t = 0 ∨ isVal t
theorem VI.settled0 {v : VS} (h : VI v) (hc : v.ctl ≠ []) : VI (settledV v).1 ∧ (settledV v).1.ctl = v.ctl := by
  unfold settledV
  split
  · exact h.carry hc _
  · exact h.carry hc _
theorem VI.give {r : VR} {pc : Nat} (h : VI r.1) (ht : giveOk r.2.1) : VI (giveV pc r).1 ∧ (giveV pc r).1.ctl = r.1.ctl := by
  unfold giveV
  split
  · exact ⟨h, rfl⟩
  · split
    · exact ⟨h, rfl⟩
    · rename_i h64
      have ht2 : r.2.1 = 0 ∨ isVal r.2.1 := by
        rcases ht with h1 | h1
        · exact absurd h1 h64
        · exact h1
      split
      · exact h.push ht2
      · exact h.push ht2
theorem VI.table {v : VS} (h : VI v) (hc : v.ctl ≠ []) (pc : Nat) (tabs : List Int) (b : Bool) : ∀ (n i : Nat), VI (tableV v pc tabs b n i).1 ∧ (tableV v pc tabs b n i).1.ctl ≠ []
  | 0, i => by rw [tableV]; exact h.cut hc
  | n + 1, i => by
    rw [tableV]
    split
    · exact ⟨h, hc⟩
    · split
      · exact ⟨h, hc⟩
      · split
        · exact VI.table h hc pc tabs b n (i + 1)
        · exact ⟨h, hc⟩
/- a block opens -/
theorem VI.open {v : VS} (h : VI v) (hc : v.ctl ≠ []) (hl : ¬ 6 < v.ctl.length) {op res : Nat} (ho : 2 ≤ op ∧ op ≤ 5) (hr : resOk res) : VI ⟨v.ops, ⟨op, res, v.ops.length, false⟩ :: v.ctl⟩ := by
  refine ⟨⟨Nat.le_refl _, h.fl⟩, h.ops, fun g hg => ?_, fun g hg => ?_, h.lO, by simp; omega⟩
  · rcases List.mem_cons.1 hg with rfl | hg
    · exact ⟨ho, hr⟩
    · exact h.ctl g hg
  · refine h.bot g ?_
    cases hk : v.ctl with
    | nil => exact absurd hk hc
    | cons f r =>
      rw [hk] at hg
      simpa [List.getLast?_cons_cons] using hg
/- the innermost closes -/
theorem VI.shut {o : List Nat} {f : VF} {r : List VF} (h : VI ⟨o, f :: r⟩) : VI ⟨o, r⟩ := by
  refine ⟨h.fl.2.mono h.fl.1, h.ops, fun g hg => h.ctl g (by simp [hg]), fun g hg => ?_, h.lO, by have := h.lC; simp at this; show r.length ≤ 7; omega⟩
  cases r with
  | nil => simp at hg
  | cons f2 r2 =>
    refine h.bot g ?_
    simpa [List.getLast?_cons_cons] using hg
/- an else -/
theorem VI.turn {o : List Nat} {f : VF} {r : List VF} (h : VI ⟨o, f :: r⟩) (hr : r ≠ []) : VI ⟨o, { f with op := 5, dead := false } :: r⟩ := by
  refine ⟨h.fl, h.ops, fun g hg => ?_, fun g hg => ?_, h.lO, h.lC⟩
  · rcases List.mem_cons.1 hg with rfl | hg
    · exact ⟨⟨by show 2 ≤ 5; decide, by show 5 ≤ 5; decide⟩, (h.ctl f (by simp)).2⟩
    · exact h.ctl g (by simp [hg])
  · refine h.bot g ?_
    cases r with
    | nil => exact absurd rfl hr
    | cons f2 r2 => simpa [List.getLast?_cons_cons] using hg
end Go.Proofs.Qxb6500275aGreatDoor
