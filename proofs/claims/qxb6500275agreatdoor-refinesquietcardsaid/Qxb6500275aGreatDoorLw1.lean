import Derived.Test.Qxb6500275aGreatDoorSp18
set_option linter.unusedVariables false
set_option linter.unusedSimpArgs false
set_option maxRecDepth 100000
namespace Go.Proofs.Qxb6500275aGreatDoor
open Go Go.RowKit
/- the lowest n of a stack (the top first) -/
def bot (n : Nat) (l : List Nat) : List Nat := l.drop (l.length - n)
theorem bot_len {n : Nat} {l : List Nat} (h : n ≤ l.length) : (bot n l).length = n := by unfold bot; rw [List.length_drop]; omega
theorem bot_self (l : List Nat) : bot l.length l = l := by unfold bot; rw [Nat.sub_self]; rfl
theorem bot_cons {n a : Nat} {l : List Nat} (h : n ≤ l.length) : bot n (a :: l) = bot n l := by
  unfold bot
  rw [List.length_cons, show l.length + 1 - n = (l.length - n) + 1 by omega]
  rfl
theorem bot_tail {n : Nat} {l : List Nat} (h : n < l.length) : bot n l.tail = bot n l := by
  cases l with
  | nil => simp at h
  | cons a r => exact (bot_cons (l := r) (by simp at h; omega)).symm
theorem bot_bot {n m : Nat} {l : List Nat} (h : n ≤ m) (hm : m ≤ l.length) : bot n (bot m l) = bot n l := by
  have := bot_len hm
  unfold bot at this ⊢
  rw [this, List.drop_drop]
  congr 1
  omega
theorem bot_drop {n : Nat} {l : List Nat} (h : n ≤ l.length) : bot n (l.drop (l.length - n)) = bot n l := bot_bot (Nat.le_refl _) h
/- what lies below the floor stays -/
structure KB (fl : Nat) (v v' : VS) : Prop where
  ctl : v'.ctl = v.ctl
  le : fl ≤ v'.ops.length
  b : bot fl v'.ops = bot fl v.ops
section
variable {v v' v'' : VS} {fl : Nat} {f : VF} {r : List VF}
theorem KB.refl (h : fl ≤ v.ops.length) : KB fl v v := ⟨rfl, h, rfl⟩
theorem KB.trans (h : KB fl v v') (h' : KB fl v' v'') : KB fl v v'' := ⟨h'.ctl.trans h.ctl, h'.le, h'.b.trans h.b⟩
theorem VS.top_of (hc : v.ctl = f :: r) : v.top = f := by unfold VS.top; rw [hc]; rfl
theorem KB.pop (hc : v.ctl = f :: r) (hf : f.floor ≤ v.ops.length) (t : Nat) : KB f.floor v (popV v t).1 := by
  unfold popV
  rw [VS.top_of hc]
  split
  · exact KB.refl hf
  · rename_i hne
    exact ⟨rfl, by rw [List.length_tail]; omega, bot_tail (by omega)⟩
theorem KB.carry (hc : v.ctl = f :: r) (hf : f.floor ≤ v.ops.length) (t : Nat) : KB f.floor v (carryV v t).1 := by
  unfold carryV
  split
  · exact KB.refl hf
  · exact KB.pop hc hf t
theorem KB.and_carry (h : KB f.floor v v') (hc : v.ctl = f :: r) (t : Nat) : KB f.floor v (carryV v' t).1 := h.trans (KB.carry (h.ctl.trans hc) h.le t)
theorem KB.and_pop (h : KB f.floor v v') (hc : v.ctl = f :: r) (t : Nat) : KB f.floor v (popV v' t).1 := h.trans (KB.pop (h.ctl.trans hc) h.le t)
theorem KB.pops : ∀ (ts : List Nat) {v : VS}, v.ctl = f :: r → f.floor ≤ v.ops.length → KB f.floor v (popsV v ts).1
  | [], v, hc, hf => KB.refl hf
  | t :: ts, v, hc, hf => by
    rw [popsV]
    have h1 := KB.pop hc hf t
    split
    · exact h1.trans (KB.pops ts (h1.ctl.trans hc) h1.le)
    · exact h1
theorem KB.and_pops (h : KB f.floor v v') (hc : v.ctl = f :: r) (ts : List Nat) : KB f.floor v (popsV v' ts).1 := h.trans (KB.pops ts (h.ctl.trans hc) h.le)
theorem KB.call (hc : v.ctl = f :: r) (hf : f.floor ≤ v.ops.length) (M : Mod) (x : Ins) : KB f.floor v (callV M v x).1 := by
  have h1 := KB.carry hc hf 127
  unfold callV
  split
  · split
    · exact KB.refl hf
    · exact KB.pops _ hc hf
  · split
    · exact KB.refl hf
    · split
      · exact KB.refl hf
      · split
        · exact h1.and_pops hc _
        · exact h1
theorem KB.sel (hc : v.ctl = f :: r) (hf : f.floor ≤ v.ops.length) : KB f.floor v (selV v).1 := by
  have h1 := KB.carry hc hf 127
  have h2 := h1.and_pop hc 0
  unfold selV
  split
  · split
    · exact h2.and_pop hc _
    · exact h2
  · exact h1
theorem KB.memory (hc : v.ctl = f :: r) (hf : f.floor ≤ v.ops.length) (M : Mod) (x : Ins) : KB f.floor v (memoryV M v x).1 := by
  have h1 := KB.carry hc hf 127
  have h2 := KB.carry hc hf (memSig x.op).2.1
  have h3 := h2.and_carry hc 127
  have h0 := KB.refl hf
  unfold memoryV
  repeat' split
  all_goals first | exact h0 | exact h1 | exact h2 | exact h3
theorem KB.plain (hc : v.ctl = f :: r) (hf : f.floor ≤ v.ops.length) (M : Mod) (params decl : ByteArray) (x : Ins) : KB f.floor v (plainV M params decl v x).1 := by
  have h0 := KB.refl hf
  have h1 := KB.call hc hf M x
  have h2 := KB.pop hc hf 0
  have h3 := KB.sel hc hf
  have h4 := fun t => KB.carry hc hf t
  have h5 := KB.memory hc hf M x
  have h6 := fun t u => (KB.carry hc hf t).and_carry hc u
  unfold plainV
  repeat' split
  all_goals first | exact h0 | exact h1 | exact h2 | exact h3 | exact h4 _ | exact h5 | exact h6 _ _
theorem KB.settled (hc : v.ctl = f :: r) (hf : f.floor ≤ v.ops.length) : KB f.floor v (settledV v).1 := by
  unfold settledV
  split <;> exact KB.carry hc hf _
/- .. over a give, over a cut -/
theorem give_kb {x : VR} {pc : Nat} (h : KB fl v x.1) : KB fl v (giveV pc x).1 := by
  unfold giveV
  split
  · exact h
  · split
    · exact h
    · have : KB fl x.1 (pushV x.1 x.2.1).1 := by
        unfold pushV
        split
        · exact KB.refl h.le
        · exact ⟨rfl, by have := h.le; simp; omega, bot_cons h.le⟩
      split <;> exact h.trans this
theorem cut_kb (hc : v'.ctl = f :: r) (h : KB f.floor v v') : f.floor = (cutV v').ops.length ∧ bot f.floor (cutV v').ops = bot f.floor v.ops := by
  have h1 : (cutV v').ops = v'.ops.drop (v'.ops.length - f.floor) := by unfold cutV; rw [hc]
  have := h.le
  rw [h1]
  exact ⟨by rw [List.length_drop]; omega, (bot_drop h.le).trans h.b⟩
end
/- A STEP, finely -/
structure StE (x : Ins) (v v' : VS) (f : VF) (r : List VF) : Prop where
  le : x.op ≠ 11 → f.floor ≤ v'.ops.length
  b : x.op ≠ 11 → bot f.floor v'.ops = bot f.floor v.ops
  opn : x.op = 2 ∨ x.op = 3 ∨ x.op = 4 → v'.ctl = ⟨x.op, x.x.toNat % 256, v'.ops.length, false⟩ :: f :: r
  tu : x.op = 5 → f.op = 4 ∧ r ≠ [] ∧ v'.ctl = { f with op := 5, dead := false } :: r ∧ v'.ops = bot f.floor v.ops
  en : x.op = 11 → r ≠ [] ∧ v'.ctl = r ∧ ¬ (f.op = 4 ∧ f.res ≠ 64) ∧ v'.ops = (if f.res = 64 then [] else [f.res]) ++ bot f.floor v.ops
  no : ¬ (x.op = 2 ∨ x.op = 3 ∨ x.op = 4 ∨ x.op = 5 ∨ x.op = 11) → v'.ctl = f :: r ∨ v'.ctl = { f with dead := true } :: r
theorem settled_ops {v : VS} {f : VF} {r : List VF} (hc : v.ctl = f :: r) (hf : f.floor ≤ v.ops.length) (h : (settledV v).2 = true) : (settledV v).1.ops = bot f.floor v.ops := by
  have h1 := KB.settled hc hf
  have h2 := settled_len h
  rw [VS.top_of hc] at h2
  rw [← h1.b, ← h2, bot_self]
set_option maxHeartbeats 4000000 in
theorem stepV_fine {M : Mod} {fn : Fn} {params : ByteArray} {v v' : VS} {f : VF} {r : List VF} (hc : v.ctl = f :: r) (hf : f.floor ≤ v.ops.length) {pc : Nat} {x : Ins} (hs : stepV M fn params pc v x = (v', none)) : StE x v v' f r := by
  have hno : ∀ w : VS, ¬ (x.op = 2 ∨ x.op = 3 ∨ x.op = 4 ∨ x.op = 5 ∨ x.op = 11) → KB f.floor v w → v' = w → StE x v v' f r := fun w ho hk e => by
    subst e
    exact ⟨fun _ => hk.le, fun _ => hk.b, fun h => absurd h (by omega), fun h => absurd h (by omega), fun h => absurd h (by omega), fun _ => .inl (hk.ctl.trans hc)⟩
  have hct : ∀ w : VS, ¬ (x.op = 2 ∨ x.op = 3 ∨ x.op = 4 ∨ x.op = 5 ∨ x.op = 11) → KB f.floor v w → v' = cutV w → StE x v v' f r := fun w ho hk e => by
    subst e
    have hwc := hk.ctl.trans hc
    obtain ⟨h1, h2⟩ := cut_kb hwc hk
    refine ⟨fun _ => by omega, fun _ => h2, fun h => absurd h (by omega), fun h => absurd h (by omega), fun h => absurd h (by omega), fun _ => .inr ?_⟩
    unfold cutV
    rw [hwc]
  have k0 := KB.refl (v := v) hf
  have k1 := fun t => KB.carry hc hf t
  unfold stepV at hs
  rcases iteC hs with ⟨e, hs⟩ | ⟨n1, hs⟩
  · simp at hs
    exact hno v (by omega) k0 hs.symm
  rcases iteC hs with ⟨e, hs⟩ | ⟨n0, hs⟩
  · simp at hs
    exact hct v (by omega) k0 hs.symm
  rcases iteC hs with ⟨e, hs⟩ | ⟨n2, hs⟩
  · rcases iteC hs with ⟨_, hs⟩ | ⟨_, hs⟩
    · simp at hs
    · simp at hs
      subst hs
      exact ⟨fun _ => hf, fun _ => rfl, fun _ => by rw [hc], fun h => absurd h (by omega), fun h => absurd h (by omega), fun h => absurd h (by omega)⟩
  rcases iteC hs with ⟨e, hs⟩ | ⟨n4, hs⟩
  · rcases iteC hs with ⟨_, hs⟩ | ⟨_, hs⟩
    · rcases iteC hs with ⟨_, hs⟩ | ⟨_, hs⟩
      · simp at hs
      · simp at hs
        subst hs
        exact ⟨fun _ => (k1 127).le, fun _ => (k1 127).b, fun _ => by rw [e, (k1 127).ctl, hc], fun h => absurd h (by omega), fun h => absurd h (by omega), fun h => absurd h (by omega)⟩
    · simp at hs
  rcases iteC hs with ⟨e, hs⟩ | ⟨n5, hs⟩
  · rcases iteC hs with ⟨hst, hs⟩ | ⟨_, hs⟩
    · have hso := settled_ops hc hf hst
      have hsc := settledV_ctl v
      rcases iteC hs with ⟨_, hs⟩ | ⟨hl, hs⟩
      · simp at hs
      rcases iteC hs with ⟨h4, hs⟩ | ⟨_, hs⟩
      · simp at hs
        subst hs
        have htop : (settledV v).1.top = f := VS.top_of (hsc.trans hc)
        rw [htop] at h4 ⊢
        have hl2 := bot_len hf
        refine ⟨fun _ => by rw [hso, hl2]; exact Nat.le_refl _, fun _ => by rw [hso]; exact bot_bot (Nat.le_refl _) hf, fun h => absurd h (by omega), fun _ => ⟨h4, ?_, by rw [hsc, hc]; rfl, hso⟩, fun h => absurd h (by omega), fun h => absurd h (by omega)⟩
        intro hr
        rw [hsc, hc, hr] at hl
        exact hl rfl
      · simp at hs
    · simp at hs
  rcases iteC hs with ⟨e, hs⟩ | ⟨n11, hs⟩
  · rcases iteC hs with ⟨hst, hs⟩ | ⟨_, hs⟩
    · have hso := settled_ops hc hf hst
      have hsc := settledV_ctl v
      have htop : (settledV v).1.top = f := VS.top_of (hsc.trans hc)
      rw [htop] at hs
      rcases iteC hs with ⟨_, hs⟩ | ⟨h4, hs⟩
      · simp at hs
      rcases iteC hs with ⟨_, hs⟩ | ⟨hl, hs⟩
      · rcases iteC hs with ⟨_, hs⟩ | ⟨_, hs⟩
        · simp at hs
        · simp at hs
      · have hr : r ≠ [] := fun hr => by
          rw [hsc, hc, hr] at hl
          exact hl rfl
        refine ⟨fun h => absurd e h, fun h => absurd e h, fun h => absurd h (by omega), fun h => absurd h (by omega), fun _ => ⟨hr, ?_, h4, ?_⟩, fun h => absurd h (by omega)⟩
        · have := giveV_ctl pc (⟨(settledV v).1.ops, (settledV v).1.ctl.tail⟩, f.res, 0)
          rw [hs] at this
          rw [this]
          show (settledV v).1.ctl.tail = r
          rw [hsc, hc]; rfl
        · unfold giveV at hs
          rw [if_neg (by simp)] at hs
          rcases iteC hs with ⟨h64, hs⟩ | ⟨h64, hs⟩
          · simp at hs
            subst hs
            rw [if_pos h64]
            exact hso
          · rcases iteC hs with ⟨hp, hs⟩ | ⟨_, hs⟩
            · simp at hs
              subst hs
              rw [if_neg h64]
              unfold pushV at hp ⊢
              dsimp only at hp ⊢
              by_cases h10 : 10 ≤ (settledV v).1.ops.length
              · rw [if_pos h10] at hp; simp at hp
              · rw [if_neg h10, hso]; rfl
            · simp at hs
    · simp at hs
  rcases iteC hs with ⟨e, hs⟩ | ⟨n12, hs⟩
  · rcases iteC hs with ⟨_, hs⟩ | ⟨_, hs⟩
    · simp at hs
    rcases iteC hs with ⟨_, hs⟩ | ⟨_, hs⟩
    · simp at hs
      exact hct _ (by omega) (k1 _) hs.symm
    · simp at hs
  rcases iteC hs with ⟨e, hs⟩ | ⟨n13, hs⟩
  · rcases iteC hs with ⟨_, hs⟩ | ⟨_, hs⟩
    · rcases iteC hs with ⟨_, hs⟩ | ⟨_, hs⟩
      · simp at hs
      rcases iteC hs with ⟨_, hs⟩ | ⟨_, hs⟩
      · refine hno _ (by omega) (give_kb (pc := pc) (x := ((carryV (carryV v 127).1 (labelV (carryV v 127).1 x.x.toNat)).1, labelV (carryV v 127).1 x.x.toNat, 0)) ((k1 127).and_carry hc _)) ?_
        rw [hs]
      · simp at hs
    · simp at hs
  rcases iteC hs with ⟨e, hs⟩ | ⟨n14, hs⟩
  · rcases iteC hs with ⟨_, hs⟩ | ⟨_, hs⟩
    · rcases iteC hs with ⟨_, hs⟩ | ⟨_, hs⟩
      · simp at hs
      rcases iteC hs with ⟨_, hs⟩ | ⟨_, hs⟩
      · simp at hs
      · exact hct _ (by omega) (k1 127) (tableV_none _ _ hs)
    · simp at hs
  rcases iteC hs with ⟨e, hs⟩ | ⟨n15, hs⟩
  · rcases iteC hs with ⟨_, hs⟩ | ⟨_, hs⟩
    · simp at hs
      exact hct _ (by omega) (k1 _) hs.symm
    · simp at hs
  · refine hno _ (by omega) (give_kb (pc := pc) (x := plainV M params fn.locals v x) (KB.plain hc hf M params fn.locals x)) ?_
    rw [hs]
end Go.Proofs.Qxb6500275aGreatDoor
