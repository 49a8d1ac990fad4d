import Derived.Test.Qxb6500274aGreatWKs
set_option maxRecDepth 100000
namespace Go.Sx
open Go
def idV : Nat → Nat → List (Nat × List Value)
  | _, 0 => []
  | v, n + 1 => (v, [.chan (some v)]) :: idV (v + 1) n
def bdId (l t : Nat) : List (Nat × List Value) := idV 100 l ++ idV 200 t
def cov3 (l h t : Nat) : Bool :=
  covers (zL l h t) ⟨(zL l h t).heap, (zL l h t).next, [], []⟩ [] (bdId l t) && (covers (zG l h) ⟨(zL l h t).heap, (zL l h t).next, [], []⟩ [] (bdId l t) && covers (zT t) ⟨(zL l h t).heap, (zL l h t).next, [], []⟩ [] (bdId l t))
def all3 (l : Nat) : List (Nat × Nat × Nat) := (List.range (7 - l)).flatMap (fun h => [(l, h, 0), (l, h, 4), (l, h, 38)])
def pLt : List Value := [.chan (some 8), .chan (some 40), .slice none 106 0, .slice none 13 0]
def pMax : List Value := [.chan (some 8), .int .i64 4398046511104, .slice none 13 0]
def testLeaves (E : Env) (c : Code) (Z : St) (F : List (List Value × Bool)) : Option (List Leaf) := evalCode E (callF E 3000 60) 8 3000 c none (rHead (E.nv 8) (E.long 8)) ⟨Z.heap, Z.next, F, []⟩
/- the test goes on -/
def goesOn (l h t : Nat) : Option (List Leaf) → Bool
  | some [(.normal, r, s)] => regsOK r && backAt [] l h t s
  | _ => false
/- .. leaves the loop -/
def leavesIt : Option (List Leaf) → Bool
  | some [(.exit 0, r, _)] => r.defers.isEmpty
  | _ => false
def test3 (E : Env) (c : Code) (l h t : Nat) : Bool :=
  goesOn l h t (testLeaves E c (zL l h t) [(pLt, true), (pMax, true)]) && (leavesIt (testLeaves E c (zL l h t) [(pLt, true), (pMax, false)]) && leavesIt (testLeaves E c (zL l h t) [(pLt, false)]))
end Go.Sx
namespace Go.Proofs.Qxb6500274aGreat
open Go Go.Sx
theorem cov_0 : (all3 0).all (fun p => cov3 p.1 p.2.1 p.2.2) = true := by kernel_rfl
theorem cov_1 : (all3 1).all (fun p => cov3 p.1 p.2.1 p.2.2) = true := by kernel_rfl
theorem cov_2 : (all3 2).all (fun p => cov3 p.1 p.2.1 p.2.2) = true := by kernel_rfl
theorem cov_3 : (all3 3).all (fun p => cov3 p.1 p.2.1 p.2.2) = true := by kernel_rfl
theorem cov_4 : (all3 4).all (fun p => cov3 p.1 p.2.1 p.2.2) = true := by kernel_rfl
theorem cov_5 : (all3 5).all (fun p => cov3 p.1 p.2.1 p.2.2) = true := by kernel_rfl
theorem cov_6 : (all3 6).all (fun p => cov3 p.1 p.2.1 p.2.2) = true := by kernel_rfl
theorem test_0 (E : Env) (h : IsEnv E) : (all3 0).all (fun p => test3 E (bodyAt Tryz.f8.body pTest) p.1 p.2.1 p.2.2) = true := by
  unfold IsEnv at h; subst h; kernel_rfl
theorem test_1 (E : Env) (h : IsEnv E) : (all3 1).all (fun p => test3 E (bodyAt Tryz.f8.body pTest) p.1 p.2.1 p.2.2) = true := by
  unfold IsEnv at h; subst h; kernel_rfl
theorem test_2 (E : Env) (h : IsEnv E) : (all3 2).all (fun p => test3 E (bodyAt Tryz.f8.body pTest) p.1 p.2.1 p.2.2) = true := by
  unfold IsEnv at h; subst h; kernel_rfl
theorem test_3 (E : Env) (h : IsEnv E) : (all3 3).all (fun p => test3 E (bodyAt Tryz.f8.body pTest) p.1 p.2.1 p.2.2) = true := by
  unfold IsEnv at h; subst h; kernel_rfl
theorem test_4 (E : Env) (h : IsEnv E) : (all3 4).all (fun p => test3 E (bodyAt Tryz.f8.body pTest) p.1 p.2.1 p.2.2) = true := by
  unfold IsEnv at h; subst h; kernel_rfl
theorem test_5 (E : Env) (h : IsEnv E) : (all3 5).all (fun p => test3 E (bodyAt Tryz.f8.body pTest) p.1 p.2.1 p.2.2) = true := by
  unfold IsEnv at h; subst h; kernel_rfl
theorem test_6 (E : Env) (h : IsEnv E) : (all3 6).all (fun p => test3 E (bodyAt Tryz.f8.body pTest) p.1 p.2.1 p.2.2) = true := by
  unfold IsEnv at h; subst h; kernel_rfl
end Go.Proofs.Qxb6500274aGreat
