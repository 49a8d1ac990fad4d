import Derived.Test.Qxb6500275aGreatDoorXw4
import Derived.Test.Qxb6500275aGreatDoorXx1
import Derived.Test.Qxb6500275aGreatDoorXx2
import Derived.Test.Qxb6500275aGreatDoorXx3
import Derived.Test.Qxb6500275aGreatDoorXx4
import Derived.Test.Qxb6500275aGreatDoorXx5
import Derived.Test.Qxb6500275aGreatDoorXx6
import Derived.Test.Qxb6500275aGreatDoorXx7
import Derived.Test.Qxb6500275aGreatDoorXx8
import Derived.Test.Qxb6500275aGreatDoorXx9
import Derived.Test.Qxb6500275aGreatDoorXy1
import Derived.Test.Qxb6500275aGreatDoorXy2
import Derived.Test.Qxb6500275aGreatDoorXy3
import Derived.Test.Qxb6500275aGreatDoorXy4
import Derived.Test.Qxb6500275aGreatDoorXy5
import Derived.Test.Qxb6500275aGreatDoorXy6
import Derived.Test.Qxb6500275aGreatDoorXy7
import Derived.Test.Qxb6500275aGreatDoorXy8
import Derived.Test.Qxb6500275aGreatDoorXy9
import Derived.Test.Qxb6500275aGreatDoorXza
import Derived.Test.Qxb6500275aGreatDoorXzb
set_option maxRecDepth 1000000
set_option linter.unusedVariables false
set_option linter.unusedSimpArgs false
namespace Go.Proofs.Qxb6500275aGreatDoor
open Go Go.RowKit
theorem numSig_in {op : Nat} (h : (numSig op).1 ≠ 0) : 69 ≤ op ∧ op ≤ 191 := by
  by_cases h1 : 69 ≤ op ∧ op ≤ 191
  · exact h1
  · exfalso
    apply h
    unfold numSig
    repeat rw [if_neg (by omega)]
theorem op_cases {M : Mod} {c : Ins} {a b : Nat} (hef : effectP M c = some (a, b)) : c.op = 0 ∨ c.op = 1 ∨ c.op = 26 ∨ c.op = 33 ∨ c.op = 36 ∨ c.op = 34 ∨ c.op = 64 ∨ c.op = 32 ∨ c.op = 35 ∨ c.op = 63 ∨ c.op = 65 ∨ c.op = 66 ∨ c.op = 67 ∨ c.op = 68 ∨ c.op = 27 ∨ c.op = 16 ∨ c.op = 17 ∨ (40 ≤ c.op ∧ c.op ≤ 53) ∨ (54 ≤ c.op ∧ c.op ≤ 62) ∨ (69 ≤ c.op ∧ c.op ≤ 191) := by
  unfold effectP at hef
  rcases iteC hef with ⟨h, _⟩ | ⟨_, hef⟩
  · omega
  rcases iteC hef with ⟨h, _⟩ | ⟨_, hef⟩
  · omega
  rcases iteC hef with ⟨h, _⟩ | ⟨_, hef⟩
  · omega
  rcases iteC hef with ⟨h, _⟩ | ⟨_, hef⟩
  · omega
  rcases iteC hef with ⟨h, _⟩ | ⟨_, hef⟩
  · omega
  rcases iteC hef with ⟨h, _⟩ | ⟨_, hef⟩
  · omega
  rcases iteC hef with ⟨h, _⟩ | ⟨_, hef⟩
  · omega
  rcases iteC hef with ⟨h, _⟩ | ⟨_, hef⟩
  · omega
  rcases iteC hef with ⟨h, _⟩ | ⟨_, hef⟩
  · omega
  rcases iteC hef with ⟨_, hef⟩ | ⟨h, _⟩
  · simp at hef
  · have := numSig_in h
    omega
/- EVERY ROUND -/
theorem case_all {w0 : World} {N : Xn} {C : XC} {T : Nat → Prop} {s : Xs} {c : Ins} (hTy : ∀ j : Nat, j < C.M.imports.length + C.M.funcs.length → ∃ t, C.M.typeOf (j : Int) = some t) (h225 : c.op ≠ 225) : Case42 w0 N C T s c := by
  intro fuel w u Q ff ci ks h hq hG hc hcx hcc hj hf hu hx hfu h1000 hE
  by_cases o1 : c.op = 4
  · exact c42_if o1 fuel w u Q ff ci ks h hq hG hc hcx hcc hj hf hu hx hfu h1000 hE
  by_cases o2 : c.op = 224
  · exact c42_jump o2 fuel w u Q ff ci ks h hq hG hc hcx hcc hj hf hu hx hfu h1000 hE
  by_cases o3 : c.op = 12
  · exact c42_br o3 fuel w u Q ff ci ks h hq hG hc hcx hcc hj hf hu hx hfu h1000 hE
  by_cases o4 : c.op = 13
  · exact c42_brif o4 fuel w u Q ff ci ks h hq hG hc hcx hcc hj hf hu hx hfu h1000 hE
  by_cases o5 : c.op = 14
  · exact c42_table o5 fuel w u Q ff ci ks h hq hG hc hcx hcc hj hf hu hx hfu h1000 hE
  by_cases o6 : c.op = 15
  · exact c42_ret o6 fuel w u Q ff ci ks h hq hG hc hcx hcc hj hf hu hx hfu h1000 hE
  by_cases o7 : c.op = 11
  · exact c42_end o7 fuel w u Q ff ci ks h hq hG hc hcx hcc hj hf hu hx hfu h1000 hE
  obtain ⟨hi, take, give, hef, _⟩ := hj.plain (by omega)
  have key : Case42 w0 N C T s c := by
    rcases op_cases hef with o | o | o | o | o | o | o | o | o | o | o | o | o | o | o | o | o | o | o | o
    · exact c42_unr o
    · exact c42_nop o
    · exact c42_drop o
    · exact c42_set o
    · exact c42_gset o
    · exact c42_tee o
    · exact c42_grow o
    · exact c42_get o
    · exact c42_gget o
    · exact c42_size o
    · exact c42_const65 o
    · exact c42_const66 o
    · exact c42_const67 o
    · exact c42_const68 o
    · exact c42_sel o
    · exact c42_call o
    · exact c42_ci o hTy
    · exact c42_load o
    · exact c42_store o
    · by_cases p1 : c.op = 69
      · exact c42_eqz p1
      by_cases p2 : c.op = 106
      · exact c42_add p2
      cases ht : twoS c.op with
      | true => exact c42_num2 ⟨o.1, o.2, p1, p2, ht⟩
      | false => exact c42_num1 ⟨o.1, o.2, p1, p2, ht⟩
  exact key fuel w u Q ff ci ks h hq hG hc hcx hcc hj hf hu hx hfu h1000 hE
end Go.Proofs.Qxb6500275aGreatDoor
