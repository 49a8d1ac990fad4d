import Derived.Test.Qxb6500274aGreatRn
import Derived.Test.Qxb6500274aGreatLd
set_option linter.unusedVariables false
set_option linter.unusedSimpArgs false
set_option maxRecDepth 100000
namespace Go.Sx
open Go Go.RowKit
/- two states, the same to the sign -/
def sameCell : Value → Value → Bool
  | .pointer (some p), .pointer (some q) => Nat.beq p.block q.block && (Nat.beq p.off q.off && (p.spot.isNone && q.spot.isNone))
  | .slice (some p) a b, .slice (some q) c d => Nat.beq p.block q.block && (Nat.beq p.off q.off && (p.spot.isNone && (q.spot.isNone && (Nat.beq a c && Nat.beq b d))))
  | a, b => eqPlain a b
def sameCells : List Value → List Value → Bool
  | [], [] => true
  | a :: x, b :: y => match sameCell a b with
    | true => sameCells x y
    | false => false
  | _, _ => false
def eqBlks : List (Nat × Blk) → List (Nat × Blk) → Bool
  | [], [] => true
  | a :: x, b :: y => match Nat.beq a.1 b.1 && (Nat.beq a.2.kind b.2.kind && sameCells a.2.cells b.2.cells) with
    | true => eqBlks x y
    | false => false
  | _, _ => false
def eqAll {α : Type} (f : α → α → Bool) : List α → List α → Bool
  | [], [] => true
  | a :: x, b :: y => match f a b with
    | true => eqAll f x y
    | false => false
  | _, _ => false
def sameSt (s t : St) : Bool := eqAll (eqAll eqBlks) s.heap t.heap && (Nat.beq s.next t.next && (s.facts.isEmpty && (t.facts.isEmpty && (s.vals.isEmpty && t.vals.isEmpty))))

theorem sameCell_eq {a b : Value} (h : sameCell a b = true) : a = b := by
  unfold sameCell at h
  split at h
  · rename_i p q
    simp only [Bool.and_eq_true] at h
    obtain ⟨h1, h2, h3, h4⟩ := h
    cases p; cases q
    simp at h1 h2 h3 h4
    simp [h1, h2, h3, h4]
  · rename_i p a b q c d
    simp only [Bool.and_eq_true] at h
    obtain ⟨h1, h2, h3, h4, h5, h6⟩ := h
    cases p; cases q
    simp at h1 h2 h3 h4 h5 h6
    simp [h1, h2, h3, h4, h5, h6]
  · exact (eqPlain_eq h).1
theorem sameCells_eq : ∀ {x y : List Value}, sameCells x y = true → x = y
  | [], [], _ => rfl
  | [], _ :: _, h => by simp [sameCells] at h
  | _ :: _, [], h => by simp [sameCells] at h
  | a :: x, b :: y, h => by
    simp only [sameCells] at h
    split at h
    · rename_i hc
      rw [sameCell_eq hc, sameCells_eq h]
    · cases h
theorem eqBlks_eq : ∀ {x y : List (Nat × Blk)}, eqBlks x y = true → x = y
  | [], [], _ => rfl
  | [], _ :: _, h => by simp [eqBlks] at h
  | _ :: _, [], h => by simp [eqBlks] at h
  | (n, ⟨c, k⟩) :: x, (m, ⟨d, l⟩) :: y, h => by
    simp only [eqBlks] at h
    split at h
    · rename_i hc
      simp only [Bool.and_eq_true] at hc
      rw [Nat.eq_of_beq_eq_true hc.1, Nat.eq_of_beq_eq_true hc.2.1, sameCells_eq hc.2.2, eqBlks_eq h]
    · cases h
theorem eqAll_eq {α : Type} {f : α → α → Bool} (hf : ∀ a b, f a b = true → a = b) : ∀ {x y : List α}, eqAll f x y = true → x = y
  | [], [], _ => rfl
  | [], _ :: _, h => by simp [eqAll] at h
  | _ :: _, [], h => by simp [eqAll] at h
  | a :: x, b :: y, h => by
    simp only [eqAll] at h
    split at h
    · rename_i hc
      rw [hf a b hc, eqAll_eq hf h]
    · cases h
theorem sameSt_eq {s t : St} (h : sameSt s t = true) : s = t := by
  unfold sameSt at h
  simp only [Bool.and_eq_true] at h
  obtain ⟨h1, h2, h3, h4, h5, h6⟩ := h
  cases s; cases t
  simp only [List.isEmpty_iff] at h3 h4 h5 h6
  have e1 := eqAll_eq (fun a b hab => eqAll_eq (fun _ _ => eqBlks_eq) hab) h1
  have e2 := Nat.eq_of_beq_eq_true h2
  simp_all
/- Load of the one text from the one state -/
def primLoad (txt : Value) (sA sB : St) : List Value → St → Option (List (Value × St))
  | [p, t, f], s => match sameCell p (.pointer (some ⟨12, 0, none⟩)) && (eqPlain t txt && (eqPlain f (.int .i64 3) && sameSt s sA)) with
    | true => some [(.tuple #[.int .i64 0, .int .i64 0, .int .i64 0], sB)]
    | false => none
  | _, _ => none
end Go.Sx
