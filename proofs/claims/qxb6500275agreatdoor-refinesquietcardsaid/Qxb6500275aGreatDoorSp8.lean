import Derived.Test.Qxb6500275aGreatDoorSp7
set_option linter.unusedVariables false
set_option maxRecDepth 100000
namespace Go.Proofs.Qxb6500275aGreatDoor
open Go Go.RowKit
set_option maxHeartbeats 4000000 in
theorem memSig_val : ∀ op : Nat, op < 63 → 40 ≤ op → ((memSig op).2.1 = 127 ∨ (memSig op).2.1 = 126 ∨ (memSig op).2.1 = 125 ∨ (memSig op).2.1 = 124) := by decide +kernel
set_option maxHeartbeats 4000000 in
theorem numSig_val : ∀ op : Nat, op < 192 → 69 ≤ op → ((numSig op).2.2 = 127 ∨ (numSig op).2.2 = 126 ∨ (numSig op).2.2 = 125 ∨ (numSig op).2.2 = 124) := by decide +kernel
theorem VI.memory {M : Mod} {v : VS} (h : VI v) (hc : v.ctl ≠ []) (x : Ins) (ho : 40 ≤ x.op) : VI (memoryV M v x).1 ∧ (memoryV M v x).1.ctl = v.ctl ∧ giveOk (memoryV M v x).2.1 := by
  obtain ⟨h1, c1⟩ := h.carry hc 127
  obtain ⟨h2, c2⟩ := h.carry hc (memSig x.op).2.1
  have hc2 : (carryV v (memSig x.op).2.1).1.ctl ≠ [] := by rw [c2]; exact hc
  obtain ⟨h3, c3⟩ := h2.carry hc2 127
  have g127 : giveOk 127 := .inr (.inr (.inl rfl))
  unfold memoryV
  split
  · exact ⟨h, rfl, .inl rfl⟩
  · split
    · exact ⟨h, rfl, g127⟩
    · split
      · rename_i hle
        split
        · exact ⟨h, rfl, .inl rfl⟩
        · split
          · split
            · exact ⟨h3, c3.trans c2, .inl rfl⟩
            · exact ⟨h2, c2, .inl rfl⟩
          · exact ⟨h1, c1, .inr (.inr (memSig_val x.op (by omega) ho))⟩
      · exact ⟨h1, c1, g127⟩
theorem localV_val {params decl : ByteArray} (hp : Vals params) (hd : Vals decl) {x : Int} (hx : 0 ≤ x) {t : Nat} (h : localV params decl x = some t) : isVal t := by
  unfold localV at h
  split at h
  · simp at h; rw [← h]; exact hp _ (by omega)
  · split at h
    · simp at h; rw [← h]; exact hd _ (by omega)
    · simp at h
theorem VI.plain {M : Mod} (hM : ModOk M) {params decl : ByteArray} (hp : Vals params) (hd : Vals decl) {v : VS} (h : VI v) (hc : v.ctl ≠ []) (x : Ins) (hx : InsOk x) (ho : ¬ (x.op ≤ 5 ∨ 11 ≤ x.op ∧ x.op ≤ 15)) : VI (plainV M params decl v x).1 ∧ (plainV M params decl v x).1.ctl = v.ctl ∧ giveOk (plainV M params decl v x).2.1 := by
  have hop := hx.op
  have hxx := hx.x.1
  unfold opOk at hop
  unfold plainV
  split
  · exact h.call hM hc x
  split
  · exact ⟨(h.pop hc 0).1, (h.pop hc 0).2, .inl rfl⟩
  split
  · exact h.sel hc
  split
  · split
    · exact ⟨h, rfl, .inl rfl⟩
    · rename_i t ht
      have hv := localV_val hp hd hxx ht
      split
      · exact ⟨h, rfl, .inr (.inr hv)⟩
      · refine ⟨(h.carry hc t).1, (h.carry hc t).2, ?_⟩
        dsimp only
        split
        · exact .inl rfl
        · exact .inr (.inr hv)
  split
  · split
    · exact ⟨h, rfl, .inl rfl⟩
    · rename_i g hg
      have hv := (hM.globals g (List.mem_of_getElem? hg)).ty
      split
      · exact ⟨h, rfl, .inr (.inr hv)⟩
      · split
        · exact ⟨(h.carry hc g.ty).1, (h.carry hc g.ty).2, .inl rfl⟩
        · exact ⟨h, rfl, .inl rfl⟩
  split
  · exact h.memory hc x (by omega)
  split
  · rename_i h68
    refine ⟨h, rfl, .inr (.inr ?_)⟩
    show isVal (constOfV x.op)
    unfold constOfV isVal
    rw [if_neg (by omega)]
    omega
  split
  · exact ⟨h, rfl, .inl rfl⟩
  have hn := numSig_val x.op (by omega) (by omega)
  obtain ⟨h1, c1⟩ := h.carry hc (numSig x.op).2.1
  have hc1 : (carryV v (numSig x.op).2.1).1.ctl ≠ [] := by rw [c1]; exact hc
  obtain ⟨h2, c2⟩ := h1.carry hc1 (numSig x.op).2.1
  split
  · exact ⟨h2, c2.trans c1, .inr (.inr hn)⟩
  · exact ⟨h1, c1, .inr (.inr hn)⟩
end Go.Proofs.Qxb6500275aGreatDoor
