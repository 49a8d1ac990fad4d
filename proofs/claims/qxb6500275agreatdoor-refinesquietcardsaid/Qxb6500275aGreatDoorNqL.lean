import Derived.Test.Qxb6500275aGreatDoorNqG
import Derived.Test.Qxb6500275aGreatDoorNqH
import Derived.Test.Qxb6500275aGreatDoorNqI
import Derived.Test.Qxb6500275aGreatDoorNqJ
import Derived.Test.Qxb6500275aGreatDoorNqK
set_option maxRecDepth 100000
set_option linter.unusedVariables false
set_option linter.unusedSimpArgs false
namespace Go.Proofs.Qxb6500275aGreatDoor
open Go Go.RowKit
/- NUMM.APPLY WHOLE -/
theorem applyM_all (o : Nat) (h1 : 69 ≤ o) (h2 : o ≤ 191) (a b : Nat) (ha : a < 18446744073709551616) (hb : b < 18446744073709551616) (w : World) : Calls Tryz.prog 278 #[.int .i64 (o : Int), .int .u64 a, .int .u64 b] w (Pq w (fitV (numP o a b))) := by
  by_cases c69 : o = 69
  · subst c69; exact applyM_69 a b ha hb w
  by_cases c80 : o = 80
  · subst c80; exact applyM_80 a b ha hb w
  by_cases c79 : o ≤ 79
  · exact applyM_70 o (by omega) c79 a b ha hb w
  by_cases c90 : o ≤ 90
  · exact applyM_81 o (by omega) c90 a b ha hb w
  by_cases c96 : o ≤ 96
  · exact applyM_91 o (by omega) c96 a b ha hb w
  by_cases c102 : o ≤ 102
  · exact applyM_97 o (by omega) c102 a b ha hb w
  by_cases c105 : o ≤ 105
  · exact applyM_103 o (by omega) c105 a b ha hb w
  by_cases c120 : o ≤ 120
  · exact applyM_106 o (by omega) c120 a b ha hb w
  by_cases c123 : o ≤ 123
  · exact applyM_121 o (by omega) c123 a b ha hb w
  by_cases c138 : o ≤ 138
  · exact applyM_124 o (by omega) c138 a b ha hb w
  by_cases c145 : o ≤ 145
  · exact applyM_139 o (by omega) c145 a b ha hb w
  by_cases c152 : o ≤ 152
  · exact applyM_146 o (by omega) c152 a b ha hb w
  by_cases c159 : o ≤ 159
  · exact applyM_153 o (by omega) c159 a b ha hb w
  by_cases c166 : o ≤ 166
  · exact applyM_160 o (by omega) c166 a b ha hb w
  have h : o = 167 ∨ o = 168 ∨ o = 169 ∨ o = 170 ∨ o = 171 ∨ o = 172 ∨ o = 173 ∨ o = 174 ∨ o = 175 ∨ o = 176 ∨ o = 177 ∨ o = 178 ∨ o = 179 ∨ o = 180 ∨ o = 181 ∨ o = 182 ∨ o = 183 ∨ o = 184 ∨ o = 185 ∨ o = 186 ∨ o = 187 ∨ o = 188 ∨ o = 189 ∨ o = 190 ∨ o = 191 := by omega
  rcases h with rfl | rfl | rfl | rfl | rfl | rfl | rfl | rfl | rfl | rfl | rfl | rfl | rfl | rfl | rfl | rfl | rfl | rfl | rfl | rfl | rfl | rfl | rfl | rfl | rfl
  · exact applyM_167 a b ha hb w
  · exact applyM_168 a b ha hb w
  · exact applyM_169 a b ha hb w
  · exact applyM_170 a b ha hb w
  · exact applyM_171 a b ha hb w
  · exact applyM_172 a b ha hb w
  · exact applyM_173 a b ha hb w
  · exact applyM_174 a b ha hb w
  · exact applyM_175 a b ha hb w
  · exact applyM_176 a b ha hb w
  · exact applyM_177 a b ha hb w
  · exact applyM_178 a b ha hb w
  · exact applyM_179 a b ha hb w
  · exact applyM_180 a b ha hb w
  · exact applyM_181 a b ha hb w
  · exact applyM_182 a b ha hb w
  · exact applyM_183 a b ha hb w
  · exact applyM_184 a b ha hb w
  · exact applyM_185 a b ha hb w
  · exact applyM_186 a b ha hb w
  · exact applyM_187 a b ha hb w
  · exact applyM_188 a b ha hb w
  · exact applyM_189 a b ha hb w
  · exact applyM_190 a b ha hb w
  · exact applyM_191 a b ha hb w
end Go.Proofs.Qxb6500275aGreatDoor
