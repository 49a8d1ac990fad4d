import Derived.Test.Qxb6500275aGreatDoorBi5
import Derived.Test.Qxb6500275aGreatDoorRe6
import Derived.Test.Qxb6500275aGreatDoorWr17
import Derived.StillTailTactics
import Derived.Deep.QuietTactic
import Derived.BigQuiet
set_option maxRecDepth 100000
set_option linter.unusedVariables false
set_option linter.unusedSimpArgs false
namespace Go.Proofs.Qxb6500275aGreatDoor
open Go Go.RowKit
/- the open blocks, as a text: 'i': an if that may have its else -/
def opnT (l : List Nat) : ByteArray := ⟨(l.map (fun o => if o = 4 then (105 : UInt8) else 98)).toArray⟩
theorem opnT_size (l : List Nat) : (opnT l).size = l.length := by unfold opnT; show (Array.size _) = _; simp
theorem opnT_app (l : List Nat) (o : Nat) : opnT (l ++ [o]) = opnT l ++ ⟨#[if o = 4 then 105 else 98]⟩ := by
  apply ByteArray.ext
  rw [ByteArray.data_append]
  unfold opnT
  simp
theorem opnT_drop (l : List Nat) : opnT l.dropLast = (opnT l).extract 0 ((opnT l).size - 1) := by
  apply ByteArray.ext
  rw [ByteArray.data_extract, opnT_size]
  unfold opnT
  apply Array.ext'
  simp [List.map_dropLast, List.dropLast_eq_take]
theorem opnT_last {l : List Nat} (h : l ≠ []) (hl : (opnT l).size - 1 < (opnT l).size) : ((opnT l)[(opnT l).size - 1].toNat = 105 ↔ l.getLast? = some 4) ∧ ((opnT l)[(opnT l).size - 1].toNat = 105 ∨ (opnT l)[(opnT l).size - 1].toNat = 98) := by
  have e : (opnT l)[(opnT l).size - 1] = if l.getLast h = 4 then (105 : UInt8) else 98 := by
    have : (opnT l).data.toList[(opnT l).size - 1]? = some (if l.getLast h = 4 then (105 : UInt8) else 98) := by
      rw [opnT_size]
      unfold opnT
      simp only [List.toList_toArray]
      rw [List.getElem?_map, List.getLast_eq_getElem, List.getElem?_eq_getElem (by have := List.length_pos_iff.2 h; omega)]
      rfl
    have h2 : (opnT l).data.toList[(opnT l).size - 1]? = some (opnT l)[(opnT l).size - 1] := by
      rw [List.getElem?_eq_getElem (by rw [Array.length_toList]; exact hl)]
      rfl
    rw [h2] at this
    exact Option.some.inj this
  have hg : l.getLast? = some (l.getLast h) := by first | exact List.getLast?_eq_some_getLast h | exact List.getLast?_eq_getLast h | simp [List.getLast?_eq_getElem?, List.getLast_eq_getElem]
  rw [e, hg]
  by_cases h4 : l.getLast h = 4
  · rw [if_pos h4, h4]
    exact ⟨⟨fun _ => rfl, fun _ => rfl⟩, .inl rfl⟩
  · rw [if_neg h4]
    refine ⟨⟨fun h => absurd h (by decide), fun h => absurd (Option.some.inj h) h4⟩, .inr rfl⟩
def swapB (x : List Ins × List Int × Nat) : (List Ins × List Int) × Nat := ((x.1, x.2.1), x.2.2)
def mapE {α β : Type} (f : α → β) (o : Except (Int × Nat) α) : Except (Int × Nat) β := match o with
  | .error f => .error f
  | .ok x => .ok (f x)
def bodyQ (s : ByteArray) (e n q : Nat) (opn : List Nat) (ins : List Ins) (tabs : List Int) : R (List Ins × List Int) := mapE swapB (bodyL s e n q opn ins tabs)
theorem bodyQ_succ (s : ByteArray) (e n q : Nat) (opn : List Nat) (ins : List Ins) (tabs : List Int) : bodyQ s e (n + 1) q opn ins tabs = bindQ (insT s q e tabs) fun y => mapE swapB (contL s e n q y.1.1.op opn ins (y.1.1, y.2, y.1.2)) := by
  unfold bodyQ insT
  rw [bodyL_succ]
  cases nextS s q e with
  | error f => rfl
  | ok a =>
    show mapE swapB (bindR (restS s a.2 e a.1 q tabs) _) = bindQ (match restS s a.2 e a.1 q tabs with
      | .error f => .error f
      | .ok y => .ok ((y.1, y.2.2), y.2.1)) _
    cases h : restS s a.2 e a.1 q tabs with
    | error f => rfl
    | ok x =>
      obtain ⟨x, r, t⟩ := x
      show mapE swapB (contL s e n q a.1 opn ins (x, r, t)) = mapE swapB (contL s e n q x.op opn ins (x, r, t))
      rw [(restS_ok h).2]
theorem insT_ok {s : ByteArray} {q e : Nat} {tabs t : List Int} {x : Ins} {r : Nat} (h : insT s q e tabs = .ok ((x, t), r)) (hl : tabs.length ≤ 24) : q < r ∧ t.length ≤ 24 ∧ x.op < 256 := by
  unfold insT at h
  cases hn : nextS s q e with
  | error f => rw [hn] at h; simp [bindQ] at h
  | ok a =>
    rw [hn] at h
    have h2 : ((match restS s a.2 e a.1 q tabs with
      | .error f => .error f
      | .ok y => .ok ((y.1, y.2.2), y.2.1)) : R (Ins × List Int)) = .ok ((x, t), r) := h
    cases hr : restS s a.2 e a.1 q tabs with
    | error f => rw [hr] at h2; simp at h2
    | ok y =>
      obtain ⟨y, r2, t2⟩ := y
      rw [hr] at h2
      simp at h2
      obtain ⟨⟨rfl, rfl⟩, rfl⟩ := h2
      have h3 := restS_ok hr
      unfold nextS at hn
      split at hn
      · simp at hn
        obtain ⟨rfl⟩ := hn
        refine ⟨by have := h3.1; dsimp only at this; omega, ?_, by rw [h3.2]; exact bAt_lt _ _⟩
        by_cases h14 : bAt s q = 14
        · dsimp only at hr
          rw [h14] at hr
          have h4 := restS_14 (s := s) (q := q + 1) (e := e) (at_ := q) (tabs := tabs)
          rw [hr] at h4
          unfold tabR at h4
          cases hc : countS s (q + 1) e (24 - (tabs.length : Int) - 1) with
          | error f => rw [hc] at h4; simp [bindQ] at h4
          | ok c =>
            rw [hc] at h4
            have hcb := (countS_ok hc).1
            cases hq : tabsQ s e (c.1.toNat + 1) c.2 tabs with
            | error f => simp [bindQ, hq] at h4
            | ok z =>
              simp [bindQ, hq] at h4
              have hlen := tabsQ_len _ _ _ _ hq
              rw [← h4.1.2] at hlen
              have : t2.length = tabs.length + (c.1.toNat + 1) := hlen
              omega
        · rw [restS_1 h14] at hr
          cases h5 : rest1 s (q + 1) e (bAt s q) q with
          | error f => rw [h5] at hr; simp at hr
          | ok z => rw [h5] at hr; simp at hr; rw [← hr.2.2]; exact hl
      · simp at hn
/- how 'body' ends -/
def Bd (o : R (List Ins × List Int)) (b : Nat) (s : ByteArray) (e : Nat) (er : Int) (a fb : Nat) (f : Fn) (vb vt : Value) (w : World) (en : Ending) (w' : World) : Prop :=
  ∃ ins t q er' a' vb' vt', en = .returned (.tuple #[]) ∧ Rc w' b s q e er' a' ∧ Fb w' fb { f with body := ins, tabs := t } vb' vt' ∧ Kp (fun k => k = b ∨ FbB fb vb vt k) w w' ∧ OwnO w vb vb' ∧ OwnO w vt vt' ∧ ins.length ≤ 100 ∧ t.length ≤ 60 ∧ Hid (Cu o er a (ins, t) q er' a')
theorem posOf_rc {w : World} {b : Nat} {s : ByteArray} {p e : Nat} {er : Int} {a : Nat} (h : Rc w b s p e er a) : posOf w b = p := by unfold posOf; rw [h.c1]; simp
/- amid the body: w the world ahead, w1 now -/
structure Bs1 (w w1 : World) (b : Nat) (s : ByteArray) (e : Nat) (fb : Nat) (f : Fn) (vb vt : Value) (ins : List Ins) (t : List Int) (vb1 vt1 : Value) : Prop where
  fb_ : Fb w1 fb { f with body := ins, tabs := t } vb1 vt1
  ob : OwnO w vb vb1
  ot : OwnO w vt vt1
  ne : ∀ k, FbB fb vb1 vt1 k → k ≠ b
  kp : Kp (fun k => k = b ∨ FbB fb vb vt k) w w1
section
variable {w w1 w2 : World} {b : Nat} {s : ByteArray} {p e : Nat} {er : Int} {a : Nat} {fb : Nat} {f : Fn} {vb vt vb1 vt1 : Value} {ins : List Ins} {t : List Int}
theorem Bs1.cur (h : Bs1 w w1 b s e fb f vb vt ins t vb1 vt1) (hk : Kp (· = b) w1 w2) : Bs1 w w2 b s e fb f vb vt ins t vb1 vt1 :=
  ⟨h.fb_.keep hk (fun k hk2 e => h.ne k hk2 e), h.ob, h.ot, h.ne, h.kp.trans (hk.mono (fun k hk2 => .inl hk2))⟩
theorem Bs1.new (h : Bs1 w w1 b s e fb f vb vt ins t vb1 vt1) (hk : Kp (fun _ => False) w1 w2) : Bs1 w w2 b s e fb f vb vt ins t vb1 vt1 := h.cur (hk.mono (fun _ h => h.elim))
/- behind an instruction read -/
theorem Bs1.read (h : Bs1 w w1 b s e fb f vb vt ins t vb1 vt1) {t2 : List Int} {vt2 : Value} (hb : b < w1.heap.size) (hF : Fb w2 fb { f with body := ins, tabs := t2 } vb1 vt2) (hk : Kp (fun k => k = b ∨ FbB fb vb1 vt1 k) w1 w2) (ho : OwnO w1 vt1 vt2) : Bs1 w w2 b s e fb f vb vt ins t2 vb1 vt2 := by
  refine ⟨hF, h.ob, fun k hk2 => ?_, fun k hk2 e => ?_, h.kp.later hk (fun j hj => ?_)⟩
  · rcases ho k hk2 with h5 | h5
    · exact h.ot k h5
    · exact .inr (Nat.le_trans h.kp.size h5)
  · rcases hk2 with h5 | h5 | h5
    · exact h.ne k (.inl h5) e
    · exact h.ne k (.inr (.inl h5)) e
    · rcases ho k h5 with h6 | h6
      · exact h.ne k (.inr (.inr h6)) e
      · omega
  · rcases hj with h5 | h5 | h5 | h5
    · exact .inl (.inl h5)
    · exact .inl (.inr (.inl h5))
    · rcases h.ob j h5 with h6 | h6
      · exact .inl (.inr (.inr (.inl h6)))
      · exact .inr h6
    · rcases h.ot j h5 with h6 | h6
      · exact .inl (.inr (.inr (.inr h6)))
      · exact .inr h6
/- behind an instruction laid -/
theorem Bs1.lay (h : Bs1 w w1 b s e fb f vb vt ins t vb1 vt1) {ins2 : List Ins} {vb2 : Value} (hb : b < w1.heap.size) (hF : Fb w2 fb { f with body := ins2, tabs := t } vb2 vt1) (hk : Kp (FbB fb vb1 vt1) w1 w2) (ho : OwnO w1 vb1 vb2) : Bs1 w w2 b s e fb f vb vt ins2 t vb2 vt1 := by
  refine ⟨hF, fun k hk2 => ?_, h.ot, fun k hk2 e => ?_, h.kp.later hk (fun j hj => ?_)⟩
  · rcases ho k hk2 with h5 | h5
    · exact h.ob k h5
    · exact .inr (Nat.le_trans h.kp.size h5)
  · rcases hk2 with h5 | h5 | h5
    · exact h.ne k (.inl h5) e
    · rcases ho k h5 with h6 | h6
      · exact h.ne k (.inr (.inl h6)) e
      · omega
    · exact h.ne k (.inr (.inr h5)) e
  · rcases hj with h5 | h5 | h5
    · exact .inl (.inr (.inl h5))
    · rcases h.ob j h5 with h6 | h6
      · exact .inl (.inr (.inr (.inl h6)))
      · exact .inr h6
    · rcases h.ot j h5 with h6 | h6
      · exact .inl (.inr (.inr (.inr h6)))
      · exact .inr h6
end
end Go.Proofs.Qxb6500275aGreatDoor
