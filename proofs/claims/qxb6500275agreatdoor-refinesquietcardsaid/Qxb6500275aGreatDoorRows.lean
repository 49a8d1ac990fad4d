/-
  NARROWER THAN 'FOR EVERY INPUT', by the rows' own cells (each row's printed sentence says how): Refines: laid · RefinesQuiet: laid · Keeps: laid · Recode: laid.
  DERIVED. THE GIVEN ROWS OF THIS SEAT. 4 by the template 'for every input the law returns true; each argument reads behind the call as it read before'; 0 by the template 'total and deterministic' (their statements: Qxb6500275aGreatDoorTotals.lean).
  GIVEN WITH THE SEED: the statements are not yours to turn. If you find one false, say at which input.
  Laid BY PROGRAM, IN A SANDBOX (cutbox-rows.mjs): the forced cells as the released guide's own fill.sh prints them over the translation e8eaf5393a7ca455… (all of the seat's roots in one cut). By AI agents, Wed Nov 11 2026. No macro, syntax, notation, axiom, sorry.
-/
import Derived.Test.Qxb6500275aGreatDoorChecked
import GoSem.Claim
import GoSem.ClaimJoined
import GoSem.ClaimMapViews
import Derived.JoinedTies
import Derived.KernelRfl
namespace Go.Proofs.Qxb6500275aGreatDoor
/- THE CELL 'sum', in the pinned program and in every row, IS THE sha256 OF THE DUMP (.gsa) THAT Qxb6500275aGreatDoorProg.lean LOADS. Nothing in Lean hashes anything: it is a label: what it is worth is what the hold of that sum in a sandbox is worth. -/
noncomputable def Tryz.pinned : Pinned := { name := "qxb6500275agreatdoor", sum := "e8eaf5393a7ca45523afb526e78857348a229ec024cd94e5f9ff9f337b37e684", checked := Tryz.checked }
namespace Rows
def none {H : Type} : Left H := { results := [], args := [] }

/- WHAT THE LISTED PACKAGE-LEVEL VARIABLES READ AS WHEN THE CALL BEGINS. Each datum BY PROGRAM (the guide's laid-datum.mjs) off the statement by which the dump's own 'gosem.cut.vars' lays the variable. In a bare row this is a premise. The card (Qxb6500275aGreatDoorCards.lean) ties it to the program's text. -/
def laid_e2e_host_known {H : Type} : DataW H := .agg [.lit (.string [115, 105, 122, 101]), .lit (.string [116, 97, 112, 101]), .lit (.string [116, 114, 97, 112]), .lit (.string [122, 101, 114, 111])]

/-- 'towerlaw.Refines': WHATEVER THE INPUT: true; the input reads as it did. -/
def refinesSpec : ChangeSpec := { name := "refines", fn := fun _ => fun
  | [d] => { results := [.lit (.bool true)], args := [d] }
  | _ => none }
def refinesRow : OpenClaim := { program := "qxb6500275agreatdoor", sum := "e8eaf5393a7ca45523afb526e78857348a229ec024cd94e5f9ff9f337b37e684", func := "e2e/towerlaw.Refines", spec := "refines", inPlace := ["math.Float32frombits", "math.Float64frombits", "math.Float32bits", "math.sqrt", "math.Float64bits"], unfollowed := true, recurses := true, named := ["e2e/host.known"], apart := false, laid := [("e2e/host.known", laid_e2e_host_known)] }
def RefinesSaid : Prop := refinesRow.holds Tryz.pinned (OpenSpec.ofChange refinesSpec)

/-- ITS FALSE NEIGHBOUR: 'it returns false'. Refute it at one input. -/
def refinesWrong : ChangeSpec := { name := "refines", fn := fun _ => fun
  | [d] => { results := [.lit (.bool false)], args := [d] }
  | _ => none }
def RefinesWrongFalsely : Prop := refinesRow.holds Tryz.pinned (OpenSpec.ofChange refinesWrong)

/-- 'towerlaw.RefinesQuiet': WHATEVER THE INPUT: true; the input reads as it did. -/
def refinesQuietSpec : ChangeSpec := { name := "refinesQuiet", fn := fun _ => fun
  | [d] => { results := [.lit (.bool true)], args := [d] }
  | _ => none }
def refinesQuietRow : OpenClaim := { program := "qxb6500275agreatdoor", sum := "e8eaf5393a7ca45523afb526e78857348a229ec024cd94e5f9ff9f337b37e684", func := "e2e/towerlaw.RefinesQuiet", spec := "refinesQuiet", inPlace := ["math.Float32frombits", "math.Float64frombits", "math.Float32bits", "math.sqrt", "math.Float64bits"], unfollowed := true, recurses := true, named := ["e2e/host.known"], apart := false, laid := [("e2e/host.known", laid_e2e_host_known)] }
def RefinesQuietSaid : Prop := refinesQuietRow.holds Tryz.pinned (OpenSpec.ofChange refinesQuietSpec)

/-- ITS FALSE NEIGHBOUR: 'it returns false'. Refute it at one input. -/
def refinesQuietWrong : ChangeSpec := { name := "refinesQuiet", fn := fun _ => fun
  | [d] => { results := [.lit (.bool false)], args := [d] }
  | _ => none }
def RefinesQuietWrongFalsely : Prop := refinesQuietRow.holds Tryz.pinned (OpenSpec.ofChange refinesQuietWrong)

/-- 'towerlaw.Keeps': WHATEVER THE INPUT: true; the input reads as it did. -/
def keepsSpec : ChangeSpec := { name := "keeps", fn := fun _ => fun
  | [d] => { results := [.lit (.bool true)], args := [d] }
  | _ => none }
def keepsRow : OpenClaim := { program := "qxb6500275agreatdoor", sum := "e8eaf5393a7ca45523afb526e78857348a229ec024cd94e5f9ff9f337b37e684", func := "e2e/towerlaw.Keeps", spec := "keeps", inPlace := ["math.Float32frombits", "math.Float64frombits", "math.Float32bits", "math.sqrt", "math.Float64bits"], unfollowed := true, recurses := true, named := ["e2e/host.known"], apart := false, laid := [("e2e/host.known", laid_e2e_host_known)] }
def KeepsSaid : Prop := keepsRow.holds Tryz.pinned (OpenSpec.ofChange keepsSpec)

/-- ITS FALSE NEIGHBOUR: 'it returns false'. Refute it at one input. -/
def keepsWrong : ChangeSpec := { name := "keeps", fn := fun _ => fun
  | [d] => { results := [.lit (.bool false)], args := [d] }
  | _ => none }
def KeepsWrongFalsely : Prop := keepsRow.holds Tryz.pinned (OpenSpec.ofChange keepsWrong)

/-- 'towerlaw.Recode': WHATEVER THE INPUT: true; the input reads as it did. -/
def recodeSpec : ChangeSpec := { name := "recode", fn := fun _ => fun
  | [d] => { results := [.lit (.bool true)], args := [d] }
  | _ => none }
def recodeRow : OpenClaim := { program := "qxb6500275agreatdoor", sum := "e8eaf5393a7ca45523afb526e78857348a229ec024cd94e5f9ff9f337b37e684", func := "e2e/towerlaw.Recode", spec := "recode", inPlace := ["math.Float32frombits", "math.Float64frombits", "math.Float32bits", "math.sqrt", "math.Float64bits"], unfollowed := true, recurses := true, named := ["e2e/host.known"], apart := false, laid := [("e2e/host.known", laid_e2e_host_known)] }
def RecodeSaid : Prop := recodeRow.holds Tryz.pinned (OpenSpec.ofChange recodeSpec)

/-- ITS FALSE NEIGHBOUR: 'it returns false'. Refute it at one input. -/
def recodeWrong : ChangeSpec := { name := "recode", fn := fun _ => fun
  | [d] => { results := [.lit (.bool false)], args := [d] }
  | _ => none }
def RecodeWrongFalsely : Prop := recodeRow.holds Tryz.pinned (OpenSpec.ofChange recodeWrong)

end Rows
end Go.Proofs.Qxb6500275aGreatDoor
