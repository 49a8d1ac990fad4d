import Derived.Test.Qxb6500275aGreatDoorNqC
set_option maxRecDepth 100000
set_option linter.unusedVariables false
set_option linter.unusedSimpArgs false
namespace Go.Proofs.Qxb6500275aGreatDoor
open Go Go.RowKit
def iunM (n k a : Nat) : Nat := if k = 0 then clzN n a else if k = 1 then ctzF n a else popF n a
def funM (F : Ieee.Format) (bi can k a : Nat) : Nat := if k = 0 then a % F.signWeight else if k = 1 then flipW F a else if k = 6 then softSqrt F bi can a else softWhole F bi can k a
def fbinX (F : Ieee.Format) (bi can k a b : Nat) : Nat := if k = 6 then F.word (sgB F b) (a % F.signWeight) else fbinM F bi can k a b
/- the conversions; a is cut to its type -/
def convM (op a : Nat) : Nat × Nat :=
  if op = 167 then (a % 4294967296, 0) else if op = 168 then truncP Ieee.single 127 32 true a else if op = 169 then truncP Ieee.single 127 32 false a
  else if op = 170 then truncP Ieee.double 1023 32 true a else if op = 171 then truncP Ieee.double 1023 32 false a else if op = 172 then ((if 2147483648 ≤ a then a + 18446744069414584320 else a), 0) else if op = 173 then (a, 0)
  else if op = 174 then truncP Ieee.single 127 64 true a else if op = 175 then truncP Ieee.single 127 64 false a else if op = 176 then truncP Ieee.double 1023 64 true a else if op = 177 then truncP Ieee.double 1023 64 false a
  else if op = 178 then (softFrom Ieee.single 127 32 true a, 0) else if op = 179 then (softFrom Ieee.single 127 32 false a, 0) else if op = 180 then (softFrom Ieee.single 127 64 true a, 0) else if op = 181 then (softFrom Ieee.single 127 64 false a, 0)
  else if op = 182 then (softRef Ieee.double 1023 Ieee.single 127 2143289344 a, 0)
  else if op = 183 then (softFrom Ieee.double 1023 32 true a, 0) else if op = 184 then (softFrom Ieee.double 1023 32 false a, 0) else if op = 185 then (softFrom Ieee.double 1023 64 true a, 0) else if op = 186 then (softFrom Ieee.double 1023 64 false a, 0)
  else if op = 187 then (softRef Ieee.single 127 Ieee.double 1023 9221120237041090560 a, 0) else (a, 0)
def cut32 (op a : Nat) : Nat := if (numSig op).2.1 = 127 ∨ (numSig op).2.1 = 125 then a % 4294967296 else a
/- EVERY NUMERIC OPERATOR -/
def numP (op a b : Nat) : Nat × Nat :=
  if op = 69 ∨ op = 80 then (flagN (decide (cut32 op a = 0)), 0) else if op ≤ 79 then (flagN (icmpM 32 (op - 70) (cut32 op a) (cut32 op b)), 0) else if op ≤ 90 then (flagN (icmpM 64 (op - 81) (cut32 op a) (cut32 op b)), 0)
  else if op ≤ 96 then (flagN (cmpM Ieee.single (op - 91) (cut32 op a) (cut32 op b)), 0) else if op ≤ 102 then (flagN (cmpM Ieee.double (op - 97) (cut32 op a) (cut32 op b)), 0)
  else if op ≤ 105 then (iunM 32 (op - 103) (cut32 op a), 0) else if op ≤ 120 then ibinM 32 (op - 106) (cut32 op a) (cut32 op b) else if op ≤ 123 then (iunM 64 (op - 121) (cut32 op a), 0) else if op ≤ 138 then ibinM 64 (op - 124) (cut32 op a) (cut32 op b)
  else if op ≤ 145 then (funM Ieee.single 127 2143289344 (op - 139) (cut32 op a), 0) else if op ≤ 152 then (fbinX Ieee.single 127 2143289344 (op - 146) (cut32 op a) (cut32 op b), 0)
  else if op ≤ 159 then (funM Ieee.double 1023 9221120237041090560 (op - 153) (cut32 op a), 0) else if op ≤ 166 then (fbinX Ieee.double 1023 9221120237041090560 (op - 160) (cut32 op a) (cut32 op b), 0)
  else convM op (cut32 op a)
end Go.Proofs.Qxb6500275aGreatDoor
