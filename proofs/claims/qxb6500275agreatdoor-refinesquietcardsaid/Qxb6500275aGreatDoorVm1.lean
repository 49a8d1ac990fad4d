import Derived.Test.Qxb6500275aGreatDoorSp3
set_option linter.unusedVariables false
set_option linter.unusedSimpArgs false
set_option maxRecDepth 100000
namespace Go.Proofs.Qxb6500275aGreatDoor
open Go Go.RowKit
/- THE MODEL'S VALIDATOR: a block's operands are a text of types, the top last -/
def popS (st : ByteArray) (poly : Bool) (want : Nat) : ByteArray × Nat × Bool :=
  if st.size = 0 then (st, want, poly) else
  (st.extract 0 (st.size - 1), if bAt st (st.size - 1) = 0 then want else bAt st (st.size - 1), decide (bAt st (st.size - 1) = 0 ∨ want = 0 ∨ bAt st (st.size - 1) = want))
def popsS (poly : Bool) : List Nat → ByteArray → ByteArray × Bool
  | [], st => (st, true)
  | t :: ts, st => if (popS st poly t).2.2 = true then popsS poly ts (popS st poly t).1 else ((popS st poly t).1, false)
theorem argsV_len (s : ByteArray) : (argsV s).length = s.size := by
  unfold argsV
  rw [List.length_map, List.length_reverse, Array.length_toList]
  rfl
theorem ba_size (s : ByteArray) : s.data.toList.length = s.size := Array.length_toList
theorem bAt_idx {s : ByteArray} {i : Nat} (h : i < s.size) : s.data.toList[i]? = some s[i] := by
  rw [List.getElem?_eq_getElem (by rw [ba_size]; exact h)]
  rfl
theorem argsV_top {s : ByteArray} (h : s.size ≠ 0) : argsV s = bAt s (s.size - 1) :: argsV (s.extract 0 (s.size - 1)) := by
  unfold argsV
  have hd : (s.extract 0 (s.size - 1)).data.toList = s.data.toList.take (s.size - 1) := by
    rw [ByteArray.data_extract]
    simp [List.dropLast_eq_take, ba_size]
  rw [hd]
  have hn : s.data.toList ≠ [] := fun e => h (by rw [← ba_size, e]; rfl)
  have hl := List.dropLast_concat_getLast hn
  have hk : s.data.toList.dropLast = s.data.toList.take (s.size - 1) := by rw [List.dropLast_eq_take, ba_size]
  have hb : (s.data.toList.getLast hn).toNat = bAt s (s.size - 1) := by
    rw [← bAt_get s (s.size - 1) (by omega), List.getLast_eq_getElem]
    congr 1
  have e : s.data.toList.reverse = s.data.toList.getLast hn :: (s.data.toList.take (s.size - 1)).reverse := by
    rw [← hk]
    conv => lhs; rw [← hl]
    rw [List.reverse_append]
    rfl
  rw [e, List.map_cons, hb]
theorem argsV_nil {s : ByteArray} (h : s.size = 0) : argsV s = [] := List.eq_nil_of_length_eq_zero (by rw [argsV_len]; exact h)
theorem argsV_app (a b : ByteArray) : argsV (a ++ b) = argsV b ++ argsV a := by
  unfold argsV
  rw [ByteArray.data_append]
  simp
/- the validator's state at a block whose own operands are st -/
def mkV (o t : Nat) (st : ByteArray) (p : Bool) (rest : List Nat) (r : List VF) : VS := ⟨argsV st ++ rest, ⟨o, t, rest.length, p⟩ :: r⟩
section
variable {o t : Nat} {st : ByteArray} {p : Bool} {rest : List Nat} {r : List VF}
theorem mkV_len : (mkV o t st p rest r).ops.length = st.size + rest.length := by unfold mkV; rw [List.length_append, argsV_len]
theorem popV_mk (want : Nat) : popV (mkV o t st p rest r) want = (mkV o t (popS st p want).1 p rest r, (popS st p want).2) := by
  unfold popV popS
  by_cases h : st.size = 0
  · rw [if_pos (by rw [mkV_len, h, Nat.zero_add]; rfl), if_pos h]
    rfl
  · rw [if_neg (by rw [mkV_len]; show ¬ st.size + rest.length = rest.length; omega), if_neg h]
    have e : (mkV o t st p rest r).ops = bAt st (st.size - 1) :: (argsV (st.extract 0 (st.size - 1)) ++ rest) := by unfold mkV; rw [argsV_top h]; rfl
    rw [e]
    rfl
theorem popsV_mk : ∀ (ts : List Nat) (st : ByteArray), popsV (mkV o t st p rest r) ts = (mkV o t (popsS p ts st).1 p rest r, (popsS p ts st).2)
  | [], st => rfl
  | a :: ts, st => by
    unfold popsV popsS
    rw [popV_mk]
    dsimp only
    by_cases h : (popS st p a).2.2 = true
    · rw [if_pos h, if_pos h]
      exact popsV_mk ts _
    · rw [if_neg h, if_neg h]
theorem carryV_mk {want : Nat} (h : want ≠ 64) : carryV (mkV o t st p rest r) want = (mkV o t (popS st p want).1 p rest r, (popS st p want).2.2) := by
  unfold carryV
  rw [if_neg h, popV_mk]
/- a type of a block or a label, as a text -/
def OneT (b : ByteArray) : Prop := b.size ≤ 1 ∧ (b.size = 1 → isVal (bAt b 0))
theorem OneT.ne {b : ByteArray} (h : OneT b) (hs : b.size ≠ 0) : firstV b = bAt b 0 ∧ firstV b ≠ 64 ∧ argsV b = [bAt b 0] := by
  have h1 : b.size = 1 := by have := h.1; omega
  have hv := h.2 h1
  refine ⟨by unfold firstV; rw [if_neg hs], by unfold firstV; rw [if_neg hs]; rcases hv with e | e | e | e <;> omega, ?_⟩
  rw [argsV_top hs, h1, argsV_nil (by rw [ByteArray.size_extract]; omega)]
theorem OneT.zero {b : ByteArray} (hs : b.size = 0) : firstV b = 64 ∧ argsV b = [] := ⟨by unfold firstV; rw [if_pos hs], argsV_nil hs⟩
theorem firstV_64 {b : ByteArray} (h : OneT b) : firstV b = 64 ↔ b.size = 0 := by
  constructor
  · intro e
    by_cases hs : b.size = 0
    · exact hs
    · exact absurd e (h.ne hs).2.1
  · intro e; exact (OneT.zero e).1
theorem carry_text {b : ByteArray} (h : OneT b) : carryV (mkV o t st p rest r) (firstV b) = (mkV o t (popsS p (argsV b) st).1 p rest r, (popsS p (argsV b) st).2) := by
  by_cases hs : b.size = 0
  · rw [(OneT.zero hs).1, (OneT.zero hs).2]
    rfl
  · obtain ⟨h1, h2, h3⟩ := h.ne hs
    rw [carryV_mk h2, h3, h1]
    unfold popsS popsS
    cases hb : (popS st p (bAt b 0)).2.2 <;> rfl
theorem settled_mk {b : ByteArray} (h : OneT b) (ht : t = firstV b) : settledV (mkV o t st p rest r) = (mkV o t (popsS p (argsV b) st).1 p rest r, (popsS p (argsV b) st).2 && decide ((popsS p (argsV b) st).1.size = 0)) := by
  unfold settledV
  have e1 : (mkV o t st p rest r).top.res = firstV b := ht
  have e2 : (mkV o t st p rest r).top.floor = rest.length := rfl
  rw [e1, e2, carry_text h]
  dsimp only
  cases hb : (popsS p (argsV b) st).2 with
  | true =>
    rw [if_pos rfl]
    congr 1
    rw [mkV_len, Bool.true_and]
    exact decide_eq_decide.2 (by omega)
  | false => rw [if_neg (by decide)]; rfl
theorem cut_mk : cutV (mkV o t st p rest r) = mkV o t ByteArray.empty true rest r := by
  unfold cutV mkV
  dsimp only
  congr 1
  rw [List.length_append, Nat.add_sub_cancel, List.drop_left]
  rfl
theorem give_text {b : ByteArray} {pc : Nat} (h : b.size ≤ 1) (hb : b.size = 1 → bAt b 0 ≠ 64) (hl : rest.length + st.size ≤ 10) : giveV pc (mkV o t st p rest r, firstV b, 0) = if 10 < rest.length + (st ++ b).size then (mkV o t st p rest r, some (pc, 28)) else (mkV o t (st ++ b) p rest r, none) := by
  unfold giveV
  dsimp only
  rw [if_neg (by simp)]
  by_cases hs : b.size = 0
  · rw [(OneT.zero hs).1, if_pos rfl, if_neg (by rw [ByteArray.size_append]; omega)]
    congr 1
    unfold mkV
    rw [argsV_app, argsV_nil hs]
    rfl
  · have h1 : b.size = 1 := by omega
    have hf : firstV b = bAt b 0 := by unfold firstV; rw [if_neg hs]
    rw [if_neg (by rw [hf]; exact hb h1), hf]
    unfold pushV
    rw [mkV_len]
    by_cases h10 : 10 ≤ st.size + rest.length
    · rw [if_pos h10, if_neg (by simp), if_pos (by rw [ByteArray.size_append]; omega)]
    · rw [if_neg h10, if_pos rfl, if_neg (by rw [ByteArray.size_append]; omega)]
      congr 1
      unfold mkV
      have ha : argsV b = [bAt b 0] := by rw [argsV_top hs, h1, argsV_nil (s := b.extract 0 (1 - 1)) (by rw [ByteArray.size_extract]; omega)]
      rw [argsV_app, ha]
      rfl
theorem popS_size (st : ByteArray) (p : Bool) (want : Nat) : (popS st p want).1.size ≤ st.size := by
  unfold popS
  split
  · exact Nat.le_refl _
  · dsimp only; rw [ByteArray.size_extract]; omega
theorem popsS_size (p : Bool) : ∀ (ts : List Nat) (st : ByteArray), (popsS p ts st).1.size ≤ st.size
  | [], st => Nat.le_refl _
  | a :: ts, st => by
    unfold popsS
    split
    · exact Nat.le_trans (popsS_size p ts _) (popS_size _ _ _)
    · exact popS_size _ _ _
theorem popS_got (st : ByteArray) (p : Bool) {want : Nat} (hw : want < 256) : (popS st p want).2.1 < 256 := by
  unfold popS
  split
  · exact hw
  · dsimp only
    split
    · exact hw
    · exact bAt_lt _ _
end
end Go.Proofs.Qxb6500275aGreatDoor
