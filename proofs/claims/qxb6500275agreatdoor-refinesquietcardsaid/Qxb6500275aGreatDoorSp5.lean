import Derived.Test.Qxb6500275aGreatDoorSp4
set_option linter.unusedVariables false
namespace Go.Proofs.Qxb6500275aGreatDoor
open Go Go.RowKit
/- what holds of the validator's state, whatever it has met -/
def Fl : Nat → List VF → Prop
  | _, [] => True
  | h, f :: r => f.floor ≤ h ∧ Fl f.floor r
theorem Fl.mono : ∀ {c : List VF} {h k : Nat}, Fl h c → h ≤ k → Fl k c
  | [], _, _, _, _ => trivial
  | f :: r, h, k, hf, hk => ⟨Nat.le_trans hf.1 hk, hf.2⟩
def resOk (t : Nat) : Prop := t = 64 ∨ isVal t
structure VI (v : VS) : Prop where
  fl : Fl v.ops.length v.ctl
  ops : ∀ t, t ∈ v.ops → t = 0 ∨ isVal t
  ctl : ∀ f, f ∈ v.ctl → (2 ≤ f.op ∧ f.op ≤ 5) ∧ resOk f.res
  bot : ∀ f, v.ctl.getLast? = some f → f.floor = 0 ∧ f.op = 2
  lO : v.ops.length ≤ 10
  lC : v.ctl.length ≤ 7
theorem VI.pop {v : VS} (h : VI v) (hc : v.ctl ≠ []) (t : Nat) : VI (popV v t).1 ∧ (popV v t).1.ctl = v.ctl := by
  obtain ⟨ops, ctl⟩ := v
  cases ctl with
  | nil => exact absurd rfl hc
  | cons f r =>
    unfold popV
    split
    · exact ⟨h, rfl⟩
    · rename_i hne
      have h1 := h.fl.1
      have hlo := h.lO
      dsimp only at h1 hlo
      have hne' : ¬ ops.length = f.floor := hne
      refine ⟨⟨⟨?_, h.fl.2⟩, fun t ht => h.ops t (List.mem_of_mem_tail ht), h.ctl, h.bot, ?_, h.lC⟩, rfl⟩
      · show f.floor ≤ ops.tail.length
        rw [List.length_tail]; omega
      · show ops.tail.length ≤ 10
        rw [List.length_tail]; omega
theorem VI.carry {v : VS} (h : VI v) (hc : v.ctl ≠ []) (t : Nat) : VI (carryV v t).1 ∧ (carryV v t).1.ctl = v.ctl := by
  unfold carryV
  split
  · exact ⟨h, rfl⟩
  · exact h.pop hc t
theorem VI.pops : ∀ (ts : List Nat) {v : VS}, VI v → v.ctl ≠ [] → VI (popsV v ts).1 ∧ (popsV v ts).1.ctl = v.ctl
  | [], v, h, hc => ⟨h, rfl⟩
  | t :: ts, v, h, hc => by
    obtain ⟨h1, h2⟩ := h.pop hc t
    rw [popsV]
    split
    · obtain ⟨h3, h4⟩ := VI.pops ts h1 (by rw [h2]; exact hc)
      exact ⟨h3, h4.trans h2⟩
    · exact ⟨h1, h2⟩
theorem VI.push {v : VS} (h : VI v) {t : Nat} (ht : t = 0 ∨ isVal t) : VI (pushV v t).1 ∧ (pushV v t).1.ctl = v.ctl := by
  unfold pushV
  split
  · exact ⟨h, rfl⟩
  · refine ⟨⟨h.fl.mono (by simp), fun u hu => ?_, h.ctl, h.bot, by simp; omega, h.lC⟩, rfl⟩
    rcases List.mem_cons.1 hu with rfl | hu
    · exact ht
    · exact h.ops u hu
theorem VI.cut {v : VS} (h : VI v) (hc : v.ctl ≠ []) : VI (cutV v) ∧ (cutV v).ctl ≠ [] := by
  obtain ⟨ops, ctl⟩ := v
  cases ctl with
  | nil => exact absurd rfl hc
  | cons f r =>
    have h1 := h.fl.1
    have hlo := h.lO
    have hlc := h.lC
    dsimp only at h1 hlo hlc
    have hlen : (ops.drop (ops.length - f.floor)).length = f.floor := by rw [List.length_drop]; omega
    refine ⟨⟨⟨by show f.floor ≤ _; exact Nat.le_of_eq hlen.symm, h.fl.2⟩, fun t ht => h.ops t (List.mem_of_mem_drop ht), fun g hg => ?_, fun g hg => ?_, by show (ops.drop (ops.length - f.floor)).length ≤ 10; omega, by simpa [cutV] using hlc⟩, by simp [cutV]⟩
    · rcases List.mem_cons.1 hg with rfl | hg
      · exact h.ctl f (by simp)
      · exact h.ctl g (by simp [hg])
    · cases r with
      | nil =>
        simp [cutV] at hg
        subst hg
        exact h.bot f (by simp)
      | cons f2 r2 =>
        refine h.bot g ?_
        simpa [cutV, List.getLast?_cons_cons] using hg
end Go.Proofs.Qxb6500275aGreatDoor
