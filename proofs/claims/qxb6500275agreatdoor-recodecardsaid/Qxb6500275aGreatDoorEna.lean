import Derived.Test.Qxb6500275aGreatDoorEn9
set_option maxRecDepth 100000
set_option linter.unusedVariables false
set_option linter.unusedSimpArgs false
namespace Go.Proofs.Qxb6500275aGreatDoor
open Go Go.RowKit
/- WRITER.INS WHOLE -/
theorem ins_calls {w : World} {wb : Nat} {v : Value} {l : List Nat} (h : Wr w wb v l) (i : Ins) (tv : Value) (n0 : Nat) (T : List Int) (hT : ∀ u v', We w u wb v v' → TabAt u n0 tv T) (hi : InsOk i) (hy1 : i.op = 14 → 1 ≤ i.y) (hTl : T.length ≤ 24) (hTr : ∀ t ∈ T, u32R t) (hsm : l.length ≤ 90000) :
    Calls Tryz.prog 129 #[.pointer (some ⟨wb, 0, none⟩), i.val, tv] w (Wq w wb v (l ++ encX T i)) := by
  obtain ⟨op, x, y⟩ := i
  have hx : 0 ≤ x ∧ x < 4294967296 := hi.x
  have hy : 0 ≤ y ∧ y < 18446744073709551616 := hi.y
  have ho := hi.op
  have hb := hi.blk
  unfold opOk at ho
  dsimp only at ho hb hy1
  unfold Ins.val
  dsimp only
  by_cases h2 : op = 2
  · subst h2
    have hx2 : 0 ≤ x ∧ x < 256 := by
      rcases hb (by omega) with h | ⟨t, h1, h2⟩
      · omega
      · unfold isVal at h2; omega
    have e : encX T ⟨2, x, y⟩ = 2 :: [x.toNat] := by simp [encX, encA]
    rw [e]
    exact ins_b_2 h x y tv hx2 hsm
  by_cases h3 : op = 3
  · subst h3
    have hx2 : 0 ≤ x ∧ x < 256 := by
      rcases hb (by omega) with h | ⟨t, h1, h2⟩
      · omega
      · unfold isVal at h2; omega
    have e : encX T ⟨3, x, y⟩ = 3 :: [x.toNat] := by simp [encX, encA]
    rw [e]
    exact ins_b_3 h x y tv hx2 hsm
  by_cases h4 : op = 4
  · subst h4
    have hx2 : 0 ≤ x ∧ x < 256 := by
      rcases hb (by omega) with h | ⟨t, h1, h2⟩
      · omega
      · unfold isVal at h2; omega
    have e : encX T ⟨4, x, y⟩ = 4 :: [x.toNat] := by simp [encX, encA]
    rw [e]
    exact ins_b_4 h x y tv hx2 hsm
  by_cases h12 : op = 12
  · subst h12
    have e : encX T ⟨12, x, y⟩ = 12 :: encI32 x := by simp [encX, encA]
    rw [e]
    exact ins_i_12 h x y tv hx hsm
  by_cases h13 : op = 13
  · subst h13
    have e : encX T ⟨13, x, y⟩ = 13 :: encI32 x := by simp [encX, encA]
    rw [e]
    exact ins_i_13 h x y tv hx hsm
  by_cases h16 : op = 16
  · subst h16
    have e : encX T ⟨16, x, y⟩ = 16 :: encI32 x := by simp [encX, encA]
    rw [e]
    exact ins_i_16 h x y tv hx hsm
  by_cases h32 : op = 32
  · subst h32
    have e : encX T ⟨32, x, y⟩ = 32 :: encI32 x := by simp [encX, encA]
    rw [e]
    exact ins_i_32 h x y tv hx hsm
  by_cases h33 : op = 33
  · subst h33
    have e : encX T ⟨33, x, y⟩ = 33 :: encI32 x := by simp [encX, encA]
    rw [e]
    exact ins_i_33 h x y tv hx hsm
  by_cases h34 : op = 34
  · subst h34
    have e : encX T ⟨34, x, y⟩ = 34 :: encI32 x := by simp [encX, encA]
    rw [e]
    exact ins_i_34 h x y tv hx hsm
  by_cases h35 : op = 35
  · subst h35
    have e : encX T ⟨35, x, y⟩ = 35 :: encI32 x := by simp [encX, encA]
    rw [e]
    exact ins_i_35 h x y tv hx hsm
  by_cases h36 : op = 36
  · subst h36
    have e : encX T ⟨36, x, y⟩ = 36 :: encI32 x := by simp [encX, encA]
    rw [e]
    exact ins_i_36 h x y tv hx hsm
  by_cases h17 : op = 17
  · subst h17
    have e : encX T ⟨17, x, y⟩ = 17 :: (encI32 x ++ [0]) := by simp [encX, encA]
    rw [e]
    exact ins_c_17 h x y tv hx hsm
  by_cases h63 : op = 63
  · subst h63
    have e : encX T ⟨63, x, y⟩ = 63 :: [0] := by simp [encX, encA]
    rw [e]
    exact ins_z_63 h x y tv hsm
  by_cases h64 : op = 64
  · subst h64
    have e : encX T ⟨64, x, y⟩ = 64 :: [0] := by simp [encX, encA]
    rw [e]
    exact ins_z_64 h x y tv hsm
  by_cases h65 : op = 65
  · subst h65
    have e : encX T ⟨65, x, y⟩ = 65 :: sLeb (sg32 y) := by simp [encX, encA, encC]
    rw [e]
    exact ins_k_65 h x y tv hy hsm
  by_cases h66 : op = 66
  · subst h66
    have e : encX T ⟨66, x, y⟩ = 66 :: sLeb (wrap64 y) := by simp [encX, encA, encC]
    rw [e]
    exact ins_k_66 h x y tv hy hsm
  by_cases h67 : op = 67
  · subst h67
    have e : encX T ⟨67, x, y⟩ = 67 :: little 4 y := by simp [encX, encA, encC]
    rw [e]
    exact ins_w_67 h x y tv hy hsm
  by_cases h68 : op = 68
  · subst h68
    have e : encX T ⟨68, x, y⟩ = 68 :: little 8 y := by simp [encX, encA, encC]
    rw [e]
    exact ins_w_68 h x y tv hy hsm
  by_cases h14 : op = 14
  · subst h14
    have e : encX T ⟨14, x, y⟩ = 14 :: (uLeb (y - 1).toNat ++ ((T.drop x.toNat).take y.toNat).flatMap encI32) := by simp [encX, encA]
    rw [e]
    exact ins_t_14 h x y tv n0 T hT hx ⟨hy1 rfl, hy.2⟩ hTl hTr hsm
  have hn : op ≠ 2 ∧ op ≠ 3 ∧ op ≠ 4 ∧ op ≠ 12 ∧ op ≠ 13 ∧ op ≠ 16 ∧ op ≠ 32 ∧ op ≠ 33 ∧ op ≠ 34 ∧ op ≠ 35 ∧ op ≠ 36 ∧ op ≠ 14 ∧ op ≠ 17 ∧ op ≠ 63 ∧ op ≠ 64 ∧ op ≠ 65 ∧ op ≠ 66 ∧ op ≠ 67 ∧ op ≠ 68 := ⟨h2, h3, h4, h12, h13, h16, h32, h33, h34, h35, h36, h14, h17, h63, h64, h65, h66, h67, h68⟩
  have ea : encA ⟨op, x, y⟩ T = if 40 ≤ op ∧ op ≤ 62 then encI32 x ++ encI32 y else [] := by
    unfold encA
    dsimp only
    rw [if_neg (by omega), if_neg (by omega), if_neg (by omega), if_neg (by omega), if_neg (by omega), if_neg (by omega)]
  unfold encX
  dsimp only
  rw [ea]
  by_cases hl : 40 ≤ op ∧ op ≤ 62
  · rw [if_pos hl]
    exact ins_ldst h op x y tv hl hx hy hsm
  rw [if_neg hl]
  by_cases h40 : op < 40
  · exact ins_lo h op x y tv h40 hn hsm
  · exact ins_hi h op x y tv ⟨by omega, by omega⟩ hn hsm
end Go.Proofs.Qxb6500275aGreatDoor
