/-
  No cell of these rows narrows 'for every input' (looked for: loops, veiled, ifaces, maps, wideKeys, modest, calm, conditions, laid).
  DERIVED. THE GIVEN ROWS OF THIS SEAT. 3 by the template 'for every input the law returns true; each argument reads behind the call as it read before'; 0 by the template 'total and deterministic' (their statements: Qxb6500274aGreatTotals.lean).
  GIVEN WITH THE SEED: the statements are not yours to turn. If you find one false, say at which input.
  Laid BY PROGRAM, IN A SANDBOX (cutbox-rows.mjs): the forced cells as the released guide's own fill.sh prints them over the translation 687f43e955ab905d… (all of the seat's roots in one cut). By AI agents, Wed Nov 11 2026. No macro, syntax, notation, axiom, sorry.
-/
import Derived.Test.Qxb6500274aGreatChecked
import GoSem.Claim
import GoSem.ClaimJoined
import GoSem.ClaimMapViews
import Derived.JoinedTies
import Derived.KernelRfl
namespace Go.Proofs.Qxb6500274aGreat
/- THE CELL 'sum', in the pinned program and in every row, IS THE sha256 OF THE DUMP (.gsa) THAT Qxb6500274aGreatProg.lean LOADS. Nothing in Lean hashes anything: it is a label: what it is worth is what the hold of that sum in a sandbox is worth. -/
noncomputable def Tryz.pinned : Pinned := { name := "qxb6500274agreat", sum := "687f43e955ab905d6132ae64cea2988d787cb6fe53d028c9786e951d1df6c89c", checked := Tryz.checked }
namespace Rows
def none {H : Type} : Left H := { results := [], args := [] }

/-- 'towerlaw.Sound': WHATEVER THE INPUT: true; the input reads as it did. -/
def soundSpec : ChangeSpec := { name := "sound", fn := fun _ => fun
  | [d] => { results := [.lit (.bool true)], args := [d] }
  | _ => none }
def soundRow : OpenClaim := { program := "qxb6500274agreat", sum := "687f43e955ab905d6132ae64cea2988d787cb6fe53d028c9786e951d1df6c89c", func := "e2e/towerlaw.Sound", spec := "sound", unfollowed := true, recurses := true, apart := false }
def SoundSaid : Prop := soundRow.holds Tryz.pinned (OpenSpec.ofChange soundSpec)

/-- ITS FALSE NEIGHBOUR: 'it returns false'. Refute it at one input. -/
def soundWrong : ChangeSpec := { name := "sound", fn := fun _ => fun
  | [d] => { results := [.lit (.bool false)], args := [d] }
  | _ => none }
def SoundWrongFalsely : Prop := soundRow.holds Tryz.pinned (OpenSpec.ofChange soundWrong)

/-- 'towerlaw.Means2': WHATEVER THE INPUT: true; the input reads as it did. -/
def means2Spec : ChangeSpec := { name := "means2", fn := fun _ => fun
  | [d] => { results := [.lit (.bool true)], args := [d] }
  | _ => none }
def means2Row : OpenClaim := { program := "qxb6500274agreat", sum := "687f43e955ab905d6132ae64cea2988d787cb6fe53d028c9786e951d1df6c89c", func := "e2e/towerlaw.Means2", spec := "means2", inPlace := ["math.Float32frombits", "math.Float64frombits", "math.Float32bits", "math.sqrt", "math.Float64bits"], unfollowed := true, recurses := true, apart := false }
def Means2Said : Prop := means2Row.holds Tryz.pinned (OpenSpec.ofChange means2Spec)

/-- ITS FALSE NEIGHBOUR: 'it returns false'. Refute it at one input. -/
def means2Wrong : ChangeSpec := { name := "means2", fn := fun _ => fun
  | [d] => { results := [.lit (.bool false)], args := [d] }
  | _ => none }
def Means2WrongFalsely : Prop := means2Row.holds Tryz.pinned (OpenSpec.ofChange means2Wrong)

/-- 'towerlaw.World': WHATEVER THE INPUT: true; the input reads as it did. -/
def worldSpec : ChangeSpec := { name := "world", fn := fun _ => fun
  | [d] => { results := [.lit (.bool true)], args := [d] }
  | _ => none }
def worldRow : OpenClaim := { program := "qxb6500274agreat", sum := "687f43e955ab905d6132ae64cea2988d787cb6fe53d028c9786e951d1df6c89c", func := "e2e/towerlaw.World", spec := "world", inPlace := ["math.Float32frombits", "math.Float64frombits", "math.Float32bits", "math.sqrt", "math.Float64bits"], unfollowed := true, recurses := true, apart := false }
def WorldSaid : Prop := worldRow.holds Tryz.pinned (OpenSpec.ofChange worldSpec)

/-- ITS FALSE NEIGHBOUR: 'it returns false'. Refute it at one input. -/
def worldWrong : ChangeSpec := { name := "world", fn := fun _ => fun
  | [d] => { results := [.lit (.bool false)], args := [d] }
  | _ => none }
def WorldWrongFalsely : Prop := worldRow.holds Tryz.pinned (OpenSpec.ofChange worldWrong)

end Rows
end Go.Proofs.Qxb6500274aGreat
