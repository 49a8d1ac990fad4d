import Derived.Test.Qxb6500275aGreatDoorKq
import Derived.Deep.QuietTactic
import Derived.BigQuiet
set_option maxRecDepth 1000000
set_option linter.unusedVariables false
namespace Go.Proofs.Qxb6500275aGreatDoor
open Go Go.RowKit
/- the worlds that keep all of W, numbered -/
theorem kpF (W : World) : ∃ (I : Type) (F : I → World), (∃ i, { W with drawn := W.drawn + 1 } = F i) ∧ (∀ i, Kp (fun _ => False) W (F i)) ∧ (∀ i w', Kp (fun _ => False) (F i) w' → ∃ j, w' = F j) :=
  ⟨{ w' : World // Kp (fun _ => False) W w' }, Subtype.val, ⟨⟨_, (Kp.refl _ W).drew⟩, rfl⟩, fun i => i.2, fun i w' h => ⟨⟨w', i.2.trans h⟩, rfl⟩⟩
/- a region that draws, every operation quiet in that set of worlds -/
theorem wp_region_F {P : Program} {id : Nat} {Q : Exit → Act → World → Prop} {a : Act} {w : World} {l : List Oper} {I : Type} {F : I → World} (hm : P.follows .mixedOrders = true) (hB : Region.lexB .any l.toArray = true) (h0 : ∃ i, { w with drawn := w.drawn + 1 } = F i)
    (h : wpQuiet P l.toArray (fun w' => ∃ i, w' = F i) (fun a' => ∀ w', (∃ i, w' = F i) → Q .normal a' w') l a) : (Code.region id l.toArray true).wp P Q a w :=
  wp_region_quiet (C := fun w' => ∃ i, w' = F i) hm hB h0 (by simpa using h)
theorem Calls.F {P : Program} {f : FuncId} {args : Array Value} {I : Type} {F : I → World} {i : I} {v : Value} (hF : ∀ i w', Kp (fun _ => False) (F i) w' → ∃ j, w' = F j)
    (h : Calls P f args (F i) fun e w' => e = .returned v ∧ Kp (fun _ => False) (F i) w') : Calls P f args (F i) fun e w'' => e = .returned v ∧ ∃ j, w'' = F j :=
  h.mono fun _ _ ⟨he, hk⟩ => ⟨he, hF _ _ hk⟩
theorem cellF {W : World} {I : Type} {F : I → World} (hF : ∀ i, Kp (fun _ => False) W (F i)) {p : Addr} {v : Value} (h : W.cell? p = some v) (i : I) : (F i).cell? p = some v := by
  rw [(hF i).cell (lt_of_cell h) (fun h => h)]
  exact h
end Go.Proofs.Qxb6500275aGreatDoor
