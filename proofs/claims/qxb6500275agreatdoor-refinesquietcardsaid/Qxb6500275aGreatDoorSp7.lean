import Derived.Test.Qxb6500275aGreatDoorSp6
set_option linter.unusedVariables false
set_option maxRecDepth 100000
namespace Go.Proofs.Qxb6500275aGreatDoor
open Go Go.RowKit
theorem popV_give {v : VS} (h : VI v) {t : Nat} (ht : t = 0 ∨ isVal t) : (popV v t).2.1 = 0 ∨ isVal (popV v t).2.1 := by
  unfold popV
  split
  · exact ht
  · dsimp only
    split
    · exact ht
    · rename_i hne
      cases ho : v.ops with
      | nil => rw [ho] at hne; simp at hne
      | cons u o => exact h.ops u (by rw [ho]; simp)
theorem firstV_ok {t : Ty} (h : TyOk t) : giveOk (firstV t.q) := by
  unfold firstV giveOk
  split
  · exact .inl rfl
  · exact .inr (.inr (h.q 0 (by omega)))
theorem VI.sel {v : VS} (h : VI v) (hc : v.ctl ≠ []) : VI (selV v).1 ∧ (selV v).1.ctl = v.ctl ∧ giveOk (selV v).2.1 := by
  obtain ⟨h1, c1⟩ := h.carry hc 127
  have hc1 : (carryV v 127).1.ctl ≠ [] := by rw [c1]; exact hc
  obtain ⟨h2, c2⟩ := h1.pop hc1 0
  have hc2 : (popV (carryV v 127).1 0).1.ctl ≠ [] := by rw [c2]; exact hc1
  have t2 := popV_give h1 (t := 0) (.inl rfl)
  obtain ⟨h3, c3⟩ := h2.pop hc2 (popV (carryV v 127).1 0).2.1
  have t3 := popV_give h2 t2
  unfold selV
  split
  · split
    · exact ⟨h3, (c3.trans c2).trans c1, .inr t3⟩
    · exact ⟨h2, c2.trans c1, .inl rfl⟩
  · exact ⟨h1, c1, .inl rfl⟩
theorem VI.call {M : Mod} (hM : ModOk M) {v : VS} (h : VI v) (hc : v.ctl ≠ []) (x : Ins) : VI (callV M v x).1 ∧ (callV M v x).1.ctl = v.ctl ∧ giveOk (callV M v x).2.1 := by
  obtain ⟨h1, c1⟩ := h.carry hc 127
  have hc1 : (carryV v 127).1.ctl ≠ [] := by rw [c1]; exact hc
  unfold callV
  split
  · split
    · exact ⟨h, rfl, .inl rfl⟩
    · rename_i t ht
      have hok : TyOk t := by
        unfold Mod.typeOf Mod.typeAt at ht
        split at ht
        · simp at ht
        · exact hM.types t (List.mem_of_getElem? ht)
      obtain ⟨h2, c2⟩ := VI.pops (argsV t.p) h hc
      exact ⟨h2, c2, firstV_ok hok⟩
  · split
    · exact ⟨h, rfl, .inl rfl⟩
    · split
      · exact ⟨h, rfl, .inl rfl⟩
      · rename_i t ht
        have hok : TyOk t := hM.types t (List.mem_of_getElem? ht)
        split
        · obtain ⟨h2, c2⟩ := VI.pops (argsV t.p) h1 hc1
          exact ⟨h2, c2.trans c1, firstV_ok hok⟩
        · exact ⟨h1, c1, .inl rfl⟩
end Go.Proofs.Qxb6500275aGreatDoor
