import Derived.Test.Qxb6500274aGreatWZs
import Derived.Test.Qxb6500274aGreatWEnv
import Derived.KernelRfl
namespace Go.Proofs.Qxb6500274aGreat
open Go Go.Sx
/- what the kernel runs -/
def ShowOK (E : Env) (l h t : Nat) : Prop := showRun E (bodyAt Tryz.f8.body pShow) l h t = true
def StillOK (E : Env) (l h t : Nat) : Prop := stillRun E (bodyAt Tryz.f8.body pReg) (bodyAt Tryz.f8.body pRest) l h t = true
def MoveOK (E : Env) (l h : Nat) : Prop := moveRun E (bodyAt Tryz.f8.body pReg) (bodyAt Tryz.f8.body pRest) l h = true
def LoadOK (E : Env) (l h : Nat) : Prop := loadRun E (bodyAt Tryz.f8.body pReg) (bodyAt Tryz.f8.body pRest) l h = true
def TapeOK (E : Env) (t n : Nat) : Prop := tapeRun E (bodyAt Tryz.f8.body pReg) (bodyAt Tryz.f8.body pRest) t n = true
end Go.Proofs.Qxb6500274aGreat
