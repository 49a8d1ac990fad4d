import Derived.Test.Qxb6500274aGreatKs
set_option maxRecDepth 100000
namespace Go.Sx
open Go
def s7f : Value := .string ⟨⟨[55, 102, 58]⟩⟩
def pgE69 : List Value := [kI 69, uI 0] ++ (pgA ++ [.slice none 203 3])
def pgE69z : List Value := [kI 69, uI 0, uI 0, .slice none 203 3]
def pgE106 : List Value := kI 106 :: (pgB ++ (pgA ++ [.slice none 203 3]))
def bad69z : List (List Value × Bool) := [([.string ⟨⟨[55, 102, 58, 48, 48, 48, 48, 48, 48, 48, 48, 48, 48, 48, 48, 48, 48, 48, 49]⟩⟩] ++ ([s7f, kI 16, kI 69, uI 0, uI 0, .slice none 202 3, .slice none 201 2, .slice none 0 0] ++ [.slice none 11 0, .slice none 102 0]), true)]
def bad69n : List (List Value × Bool) := [([.string ⟨⟨[55, 102, 58, 48, 48, 48, 48, 48, 48, 48, 48, 48, 48, 48, 48, 48, 48, 48, 48]⟩⟩] ++ (([s7f, kI 16] ++ (kI 69 :: ([uI 0] ++ (pgA ++ [.slice none 202 3])) ++ [.slice none 201 2, .slice none 0 0])) ++ [.slice none 11 0, .slice none 102 0]), true)]
def pgSum : List Value := pgA ++ (pgB ++ [.slice none 0 0]) ++ [uI 4294967295, .slice none 5 0]
def bad106' : List (List Value × Bool) := [(([s7f, kI 16] ++ (pgSum ++ [.slice none 201 2, .slice none 0 0])) ++ (([s7f, kI 16] ++ (kI 106 :: (pgB ++ (pgA ++ [.slice none 202 3])) ++ [.slice none 201 2, .slice none 0 0])) ++ [.slice none 11 0, .slice none 102 0]), true)]
end Go.Sx
namespace Go.Proofs.Qxb6500274aGreat
open Go Go.Sx
theorem ko69z (E : Env) (h : IsEnv E) : Step E backBoth zBoth (kI 7) (kI 69) [] [(pgA, uI 0), (pgE69z, kI 0)] bad69z := by
  unfold IsEnv at h; subst h; unfold Step; kernel_rfl
theorem ko69n (E : Env) (h : IsEnv E) : Step E backBoth zBoth (kI 7) (kI 69) [(pgA ++ [uI 0, .slice none 11 0], false)] [(pgE69, kI 0)] bad69n := by
  unfold IsEnv at h; subst h; unfold Step; kernel_rfl
theorem ko106' (E : Env) (h : IsEnv E) : Step E backBoth zBoth (kI 7) (kI 106) [] [(pgE106, kI 0)] bad106' := by
  unfold IsEnv at h; subst h; unfold Step; kernel_rfl
end Go.Proofs.Qxb6500274aGreat
