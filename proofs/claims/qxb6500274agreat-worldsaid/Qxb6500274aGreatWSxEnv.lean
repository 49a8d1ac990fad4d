import Derived.Test.Qxb6500274aGreatWSxCov2
import Derived.KernelRfl
set_option linter.unusedSimpArgs false
namespace Go.Sx
open Go Go.RowKit

/- TABLES HELD AGAINST A PROGRAM -/
def AllRows {α : Type} (Q : Nat → α → Prop) : List (Nat × α) → Prop
  | [] => True
  | x :: l => Q x.1 x.2 ∧ AllRows Q l

theorem AllRows.get {α : Type} {Q : Nat → α → Prop} {t : Nat} {a : α} : ∀ {l : List (Nat × α)}, AllRows Q l → row t l = some a → Q t a
  | [], _, h => by simp [row] at h
  | (k, b) :: l, hq, h => by
    simp only [row] at h
    split at h
    · rename_i e
      have e := Nat.eq_of_beq_eq_true e
      simp at h
      subst h; subst e
      exact hq.1
    · exact AllRows.get hq.2 h

/- a struct's fields have cells -/
def fldsOK (P : Program) : TypeDesc → Bool
  | .struct fs => fs.toList.all (fun fd => match P.info? fd.type with | some inf => !Nat.beq inf.size 0 | none => false)
  | _ => true

structure TRow (P : Program) (t : TypeId) (i : TI) : Prop where
  ok : TIOK P t i
  fl : fldsOK P i.desc = true

theorem TRow.make {P : Program} {t : TypeId} {i : TI} (inf : TypeInfo) (h1 : P.underlying t = some i.desc) (h2 : P.info? t = some inf) (h3 : (Nat.beq inf.size i.size && (Nat.ble inf.bytes 1000000 && (Nat.beq i.zero.length i.size && (i.zero.all plain && (i.agg || Nat.beq i.zero.length 1))))) = true)
    (h4 : inf.zero = some (zeroVal i)) (h6 : i.agg = (match i.desc with | .struct _ => true | .array _ _ => true | _ => false)) (h7 : fldsOK P i.desc = true) : TRow P t i := by
  simp only [Bool.and_eq_true, List.all_eq_true] at h3
  obtain ⟨a1, a2, a3, a4, a5⟩ := h3
  refine ⟨⟨h1, ⟨inf, h2, Nat.eq_of_beq_eq_true a1, h4, Nat.le_of_ble_eq_true a2⟩, h6, Nat.eq_of_beq_eq_true a3, fun hf => ?_, a4⟩, h7⟩
  rw [hf] at a5
  have := Nat.eq_of_beq_eq_true (by simpa using a5)
  exact List.length_eq_one_iff.1 this

theorem fld_of {P : Program} {d : TypeDesc} (h : fldsOK P d = true) (fs : Array Field) (j : Nat) (fd : Field) (hd : d = .struct fs) (hj : fs.toList[j]? = some fd) : ∃ inf, P.info? fd.type = some inf ∧ inf.size ≠ 0 := by
  subst hd
  simp only [fldsOK, List.all_eq_true] at h
  have h1 := h fd (List.mem_of_getElem? hj)
  split at h1
  · rename_i inf hi
    refine ⟨inf, hi, fun e => ?_⟩
    rw [e] at h1
    simp at h1
  · simp at h1

def bodyOK (E : Env) (g : Nat) (f : Func) : Bool :=
  match f.body with
  | some c => slotsOK f.ntmps c && drawsOK E g c
  | none => true

structure FRow (P : Program) (E : Env) (g : FuncId) (f : Func) : Prop where
  here : P.funcs[g]? = some f
  nm : f.name ≠ "runtime.NumGoroutine"
  ok : bodyOK E g f = true

theorem FRow.body {P : Program} {E : Env} {g : FuncId} {f : Func} (h : FRow P E g f) {c : Code} (hc : f.body = some c) : slotsOK f.ntmps c = true ∧ drawsOK E g c = true := by
  have := h.ok
  unfold bodyOK at this
  rw [hc] at this
  simpa using this

end Go.Sx
