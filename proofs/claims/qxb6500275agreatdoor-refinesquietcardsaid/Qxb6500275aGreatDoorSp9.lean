import Derived.Test.Qxb6500275aGreatDoorSp8
set_option linter.unusedVariables false
set_option maxRecDepth 100000
namespace Go.Proofs.Qxb6500275aGreatDoor
open Go Go.RowKit
theorem VI.giveN {r : VR} {pc : Nat} (h : VI r.1) (hc : r.1.ctl ≠ []) (ht : giveOk r.2.1) : VI (giveV pc r).1 ∧ (giveV pc r).1.ctl ≠ [] := by
  obtain ⟨h1, h2⟩ := h.give (pc := pc) ht
  exact ⟨h1, by rw [h2]; exact hc⟩
theorem resOk.give {t : Nat} (h : resOk t) : giveOk t := by
  rcases h with h | h
  · exact .inl h
  · exact .inr (.inr h)
theorem VI.top {v : VS} (h : VI v) (hc : v.ctl ≠ []) : (2 ≤ v.top.op ∧ v.top.op ≤ 5) ∧ resOk v.top.res := by
  obtain ⟨o, c⟩ := v
  cases c with
  | nil => exact absurd rfl hc
  | cons f r => exact h.ctl f (by simp)
theorem VI.atL {v : VS} (h : VI v) {l : Nat} (hl : l < v.ctl.length) : resOk (labelV v l) := by
  unfold labelV
  split
  · exact .inl rfl
  · rw [List.getD_eq_getElem?_getD, List.getElem?_eq_getElem hl]
    exact (h.ctl _ (List.getElem_mem hl)).2
/- what a round keeps -/
structure VK (r : VO) : Prop where
  vi : VI r.1
  nn : r.2 = none → r.1.ctl ≠ []
theorem VK.ite {c : Prop} [Decidable c] {a b : VO} (h1 : c → VK a) (h2 : ¬ c → VK b) : VK (if c then a else b) := by
  by_cases h : c
  · rw [if_pos h]; exact h1 h
  · rw [if_neg h]; exact h2 h
theorem VI.step {M : Mod} (hM : ModOk M) {fn : Fn} (hF : FnOk fn) {params : ByteArray} (hp : Vals params) {v : VS} (h : VI v) (hc : v.ctl ≠ []) (pc : Nat) (x : Ins) (hx : InsOk x) : VK (stepV M fn params pc v x) := by
  have hblk := hx.blk
  have hx0 := hx.x
  unfold u32R at hx0
  unfold stepV
  refine VK.ite (fun _ => ?_) (fun _ => ?_)
  · exact ⟨h, fun _ => hc⟩
  refine VK.ite (fun _ => ?_) (fun _ => ?_)
  · exact ⟨(h.cut hc).1, fun _ => (h.cut hc).2⟩
  have hb256 : x.op = 2 ∨ x.op = 3 ∨ x.op = 4 → resOk (x.x.toNat % 256) := fun ho => by
    rcases hblk ho with h1 | ⟨t, h1, h2⟩
    · rw [h1]; exact .inl rfl
    · have : x.x.toNat % 256 = t := by unfold isVal at h2; omega
      rw [this]; exact .inr h2
  refine VK.ite (fun _ => ?_) (fun _ => ?_)
  · rename_i ho
    refine VK.ite (fun _ => ?_) (fun _ => ?_)
    · exact ⟨h, fun _ => hc⟩
    · rename_i hl
      exact ⟨h.open hc hl (by omega) (hb256 (by omega)), fun _ => by simp⟩
  obtain ⟨h1, c1⟩ := h.carry hc 127
  have hc1 : (carryV v 127).1.ctl ≠ [] := by rw [c1]; exact hc
  refine VK.ite (fun _ => ?_) (fun _ => ?_)
  · rename_i ho
    refine VK.ite (fun _ => ?_) (fun _ => ?_)
    · refine VK.ite (fun _ => ?_) (fun _ => ?_)
      · exact ⟨h1, fun _ => hc1⟩
      · rename_i hl
        exact ⟨h1.open hc1 hl (by omega) (hb256 (by omega)), fun _ => by simp⟩
    · exact ⟨h1, fun _ => hc1⟩
  obtain ⟨hs, cs⟩ := h.settled0 hc
  have hcs : (settledV v).1.ctl ≠ [] := by rw [cs]; exact hc
  generalize settledV v = sv at *
  obtain ⟨⟨o, c⟩, b⟩ := sv
  dsimp only at hs cs hcs
  cases c with
  | nil => exact absurd rfl hcs
  | cons g r =>
  refine VK.ite (fun _ => ?_) (fun _ => ?_)
  · dsimp only
    refine VK.ite (fun _ => ?_) (fun _ => ?_)
    · refine VK.ite (fun _ => ?_) (fun _ => ?_)
      · exact ⟨hs, fun _ => by simp⟩
      · rename_i hl
        refine VK.ite (fun _ => ?_) (fun _ => ?_)
        · exact ⟨VI.turn hs (by intro e; subst e; simp at hl), fun _ => by simp⟩
        · exact ⟨hs, fun _ => by simp⟩
    · exact ⟨hs, fun _ => by simp⟩
  refine VK.ite (fun _ => ?_) (fun _ => ?_)
  · dsimp only
    refine VK.ite (fun _ => ?_) (fun _ => ?_)
    · refine VK.ite (fun _ => ?_) (fun _ => ?_)
      · exact ⟨hs, fun _ => by simp⟩
      · refine VK.ite (fun _ => ?_) (fun _ => ?_)
        · refine VK.ite (fun _ => ?_) (fun _ => ?_)
          · exact ⟨VI.shut hs, fun h => by simp at h⟩
          · exact ⟨VI.shut hs, fun h => by simp at h⟩
        · rename_i hl
          have := VI.giveN (r := (⟨o, r⟩, g.res, 0)) (pc := pc) (VI.shut hs) (by intro e; dsimp only at e; subst e; simp at hl) (hs.ctl g (by simp)).2.give
          exact ⟨this.1, fun _ => this.2⟩
    · exact ⟨hs, fun _ => by simp⟩
  refine VK.ite (fun _ => ?_) (fun _ => ?_)
  · refine VK.ite (fun _ => ?_) (fun _ => ?_)
    · exact ⟨h, fun _ => hc⟩
    · obtain ⟨h2, c2⟩ := h.carry hc (labelV v x.x.toNat)
      have hc2 : (carryV v (labelV v x.x.toNat)).1.ctl ≠ [] := by rw [c2]; exact hc
      refine VK.ite (fun _ => ?_) (fun _ => ?_)
      · exact ⟨(h2.cut hc2).1, fun _ => (h2.cut hc2).2⟩
      · exact ⟨h2, fun _ => hc2⟩
  refine VK.ite (fun _ => ?_) (fun _ => ?_)
  · refine VK.ite (fun _ => ?_) (fun _ => ?_)
    · refine VK.ite (fun _ => ?_) (fun _ => ?_)
      · exact ⟨h1, fun _ => hc1⟩
      · rename_i hl
        obtain ⟨h2, c2⟩ := h1.carry hc1 (labelV (carryV v 127).1 x.x.toNat)
        have hc2 : (carryV (carryV v 127).1 (labelV (carryV v 127).1 x.x.toNat)).1.ctl ≠ [] := by rw [c2]; exact hc1
        refine VK.ite (fun _ => ?_) (fun _ => ?_)
        · have hl2 : x.x.toNat < (carryV v 127).1.ctl.length := by omega
          have := VI.giveN (r := ((carryV (carryV v 127).1 (labelV (carryV v 127).1 x.x.toNat)).1, labelV (carryV v 127).1 x.x.toNat, 0)) (pc := pc) h2 hc2 (h1.atL hl2).give
          exact ⟨this.1, fun _ => this.2⟩
        · exact ⟨h2, fun _ => hc2⟩
    · exact ⟨h1, fun _ => hc1⟩
  refine VK.ite (fun _ => ?_) (fun _ => ?_)
  · refine VK.ite (fun _ => ?_) (fun _ => ?_)
    · refine VK.ite (fun _ => ?_) (fun _ => ?_)
      · exact ⟨h1, fun _ => hc1⟩
      · refine VK.ite (fun _ => ?_) (fun _ => ?_)
        · exact ⟨h1, fun _ => hc1⟩
        · have := VI.table h1 hc1 pc fn.tabs (decide (labelV (carryV v 127).1 (fn.tabs.getD (x.x.toNat + x.y.toNat - 1) 0).toNat = 64)) x.y.toNat x.x.toNat
          exact ⟨this.1, fun _ => this.2⟩
    · exact ⟨h1, fun _ => hc1⟩
  refine VK.ite (fun _ => ?_) (fun _ => ?_)
  · obtain ⟨h2, c2⟩ := h.carry hc (v.ctl.getLastD VF.zero).res
    have hc2 : (carryV v (v.ctl.getLastD VF.zero).res).1.ctl ≠ [] := by rw [c2]; exact hc
    refine VK.ite (fun _ => ?_) (fun _ => ?_)
    · exact ⟨(h2.cut hc2).1, fun _ => (h2.cut hc2).2⟩
    · exact ⟨h2, fun _ => hc2⟩
  · obtain ⟨h2, c2, g2⟩ := h.plain hM hp hF.locals hc x hx (by omega)
    have := VI.giveN (pc := pc) h2 (by rw [c2]; exact hc) g2
    exact ⟨this.1, fun _ => this.2⟩
theorem VI.start {res : Nat} (hr : resOk res) : VI ⟨[], [⟨2, res, 0, false⟩]⟩ := by
  refine ⟨⟨Nat.le_refl _, trivial⟩, fun t ht => by simp at ht, fun g hg => ?_, fun g hg => ?_, by simp, by simp⟩
  · simp at hg
    subst hg
    exact ⟨⟨Nat.le_refl _, by show 2 ≤ 5; decide⟩, hr⟩
  · simp at hg
    subst hg
    exact ⟨rfl, rfl⟩
end Go.Proofs.Qxb6500275aGreatDoor
