import Derived.Test.Qxb6500275aGreatDoorWr13
import Derived.Test.Qxb6500275aGreatDoorWr14
import Derived.Test.Qxb6500275aGreatDoorWr15
import Derived.Test.Qxb6500275aGreatDoorLs
set_option maxRecDepth 100000
set_option linter.unusedVariables false
set_option linter.unusedSimpArgs false
set_option linter.unusedSectionVars false
namespace Go.Proofs.Qxb6500275aGreatDoor
open Go Go.RowKit
variable [Inhabited TV]
/- one reading behind another -/
def bindR {α β : Type} (o : Except (Int × Nat) α) (k : α → Except (Int × Nat) β) : Except (Int × Nat) β :=
  match o with
  | .error f => .error f
  | .ok x => k x
theorem bindR_ok {α β : Type} {o : Except (Int × Nat) α} {x : α} (h : o = .ok x) (k : α → Except (Int × Nat) β) : bindR o k = k x := by subst h; rfl
theorem bindR_err {α β : Type} {o : Except (Int × Nat) α} {f : Int × Nat} (h : o = .error f) (k : α → Except (Int × Nat) β) : bindR o k = .error f := by subst h; rfl
theorem bindR_get {α β : Type} {o : Except (Int × Nat) α} {k : α → Except (Int × Nat) β} {y : β} (h : bindR o k = .ok y) : ∃ x, o = .ok x ∧ k x = .ok y := by
  match o, h with
  | .ok x, h => exact ⟨x, rfl, h⟩
/- a call of a reader's method: one goal is left, that of the value -/
theorem RP.step {α β : Type} {enc : α → Value} {o : R α} {X : Except (Int × Nat) β} {k : α × Nat → Except (Int × Nat) β} {w : World} {b : Nat} {s : ByteArray} {e bb : Nat} {f : Nat} {args : Array Value} {Post : Ending → World → Prop}
    (HS : Hid (X = bindR o k)) (h : Calls Tryz.prog f args w (RP enc o b s e bb w)) (h1 : ∀ c a w4, X = .error (c, a) → Kp (· = b) w w4 → Post (fault c a) w4)
    (h2 : ∀ v q w4, Hid (o = .ok (v, q)) → Hid (X = k (v, q)) → Kp (· = b) w w4 → Rd w4 b s q e bb → Post (.returned (enc v)) w4) : Calls Tryz.prog f args w Post := by
  refine calls_two h (fun c a w4 ho hK => h1 c a w4 (HS.out.trans (bindR_err ho k)) hK) (fun v q w4 ho hK hR => h2 v q w4 ho (HS.out.trans (bindR_ok ho k)) hK hR)
theorem bindR_assoc {α β γ : Type} (o : Except (Int × Nat) α) (k : α → Except (Int × Nat) β) (k' : β → Except (Int × Nat) γ) : bindR (bindR o k) k' = bindR o fun x => bindR (k x) k' := by
  cases o <;> rfl
/- a call of 'next' -/
theorem next_calls {w : World} {b : Nat} {s : ByteArray} {p e bb : Nat} (h : Rd w b s p e bb) : Calls Tryz.prog 63 #[.pointer (some ⟨b, 0, none⟩)] w (RP encB (nextS s p e) b s e bb w) := by
  by_cases hp : p < e
  · refine (next_ok h hp).mono ?_
    rintro en w2 ⟨h1, h2, h3⟩
    exact RP.mkOk (by unfold nextS; rw [if_pos hp]) h3 h1 h2
  · refine (next_err h hp).mono ?_
    rintro en w2 ⟨h1, h2⟩
    exact RP.mkErr (by unfold nextS; rw [if_neg hp]) h2 h1
/- a call of 'rest' -/
theorem QP.step {β : Type} {o : RO} {X : Except (Int × Nat) β} {k : Ins × Nat × List Int → Except (Int × Nat) β} {w : World} {b : Nat} {s : ByteArray} {e bb ib tb : Nat} {ty : List Int} {opn : List Nat} {ins : List Ins} {f : Nat} {args : Array Value} {Post : Ending → World → Prop}
    (HS : Hid (X = bindR o k)) (h : Calls Tryz.prog f args w (QP o b s e bb ib tb ty opn ins w)) (h1 : ∀ c a w4, X = .error (c, a) → Kp (fun j => j = b ∨ j = bb ∨ j = tb) w w4 → (∃ t, Bn w4 bb ib tb ty opn ins t) → Post (fault c a) w4)
    (h2 : ∀ i q t w4, Hid (o = .ok (i, q, t)) → Hid (X = k (i, q, t)) → Kp (fun j => j = b ∨ j = bb ∨ j = tb) w w4 → Rd w4 b s q e bb → Bn w4 bb ib tb ty opn ins t → Post (.returned i.val) w4) : Calls Tryz.prog f args w Post := by
  refine h.mono ?_
  intro en w4 hP
  cases ho : o with
  | error f =>
    obtain ⟨c, a⟩ := f
    obtain ⟨hk, rfl, hb⟩ := hP.err ho
    exact h1 c a w4 (HS.out.trans (bindR_err ho k)) hk hb
  | ok x =>
    obtain ⟨v, q2, t⟩ := x
    obtain ⟨hk, rfl, hr, hb⟩ := hP.ok ho
    exact h2 v q2 t w4 ho (HS.out.trans (bindR_ok ho k)) hk hr hb
/- THE BODY, as a plain function: what comes behind an instruction -/
def bodyL (s : ByteArray) (e : Nat) : Nat → Nat → List Nat → List Ins → List Int → Except (Int × Nat) (List Ins × List Int × Nat)
  | 0, _, _, _, _ => .error (3, e)
  | n + 1, q, opn, ins, tabs => bindR (nextS s q e) fun a => bindR (restS s a.2 e a.1 q tabs) fun x =>
      if 96 ≤ ins.length then .error (7, q)
      else if a.1 = 2 ∨ a.1 = 3 ∨ a.1 = 4 then (if 6 ≤ opn.length then .error (11, q) else bodyL s e n x.2.1 (opn ++ [a.1]) (ins ++ [x.1]) x.2.2)
      else if a.1 = 5 then (if opn.getLast? = some 4 then bodyL s e n x.2.1 (opn.dropLast ++ [5]) (ins ++ [x.1]) x.2.2 else .error (11, q))
      else if a.1 = 11 then (if opn = [] then .ok (ins ++ [x.1], x.2.2, x.2.1) else bodyL s e n x.2.1 opn.dropLast (ins ++ [x.1]) x.2.2)
      else bodyL s e n x.2.1 opn (ins ++ [x.1]) x.2.2
def bodyS (s : ByteArray) (p e : Nat) : Except (Int × Nat) (List Ins × List Int × Nat) := bodyL s e (e - p + 1) p [] [] []
def insP (x : Ins) (f : Nat → Value) : Prop := f 0 = .int .u8 x.op ∧ f 1 = .int .u32 x.x ∧ f 2 = .int .u64 x.y
def u32P (t : Int) (f : Nat → Value) : Prop := f 0 = .int .u32 t
def InsAt (w : World) (n0 : Nat) (v : Value) (l : List Ins) : Prop := Ls (pureRel insP) 3 n0 w v l
def TabAt (w : World) (n0 : Nat) (v : Value) (l : List Int) : Prop := Ls (pureRel u32P) 1 n0 w v l
section
variable {w w' : World} {n0 m0 : Nat} {v : Value} {S : Nat → Prop}
theorem InsAt.keep {l : List Ins} (h : InsAt w n0 v l) (hk : Kp S w w') (hs : ∀ k, S k → k < n0) : InsAt w' n0 v l := Ls.keep (pureRel_ok _) h hk hs
theorem InsAt.mono {l : List Ins} (h : InsAt w n0 v l) (hm : m0 ≤ n0) : InsAt w m0 v l := Ls.mono (pureRel_ok _) h hm
theorem TabAt.keep {l : List Int} (h : TabAt w n0 v l) (hk : Kp S w w') (hs : ∀ k, S k → k < n0) : TabAt w' n0 v l := Ls.keep (pureRel_ok _) h hk hs
theorem TabAt.mono {l : List Int} (h : TabAt w n0 v l) (hm : m0 ≤ n0) : TabAt w m0 v l := Ls.mono (pureRel_ok _) h hm
end
end Go.Proofs.Qxb6500275aGreatDoor
