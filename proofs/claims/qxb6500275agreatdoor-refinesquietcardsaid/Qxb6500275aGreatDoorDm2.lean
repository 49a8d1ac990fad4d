import Derived.Test.Qxb6500275aGreatDoorDm1
set_option linter.unusedVariables false
set_option linter.unusedSimpArgs false
set_option maxRecDepth 100000
namespace Go.Proofs.Qxb6500275aGreatDoor
open Go Go.RowKit
/- an i32 constant has 32 bits -/
def P65 (i : Ins) : Prop := i.op = 65 → i.y < 4294967296
theorem restS_65 {s : ByteArray} {p e op at_ : Nat} {tabs t : List Int} {i : Ins} {q : Nat} (h : restS s p e op at_ tabs = .ok (i, q, t)) : P65 i := by
  unfold P65
  unfold restS at h
  split at h
  · simp at h; obtain ⟨rfl, rfl, rfl⟩ := h
    intro h; dsimp only at h; omega
  split at h
  · unfold blkS at h
    split at h
    · split at h
      · simp at h; obtain ⟨rfl, rfl, rfl⟩ := h
        intro h; dsimp only at h; omega
      · simp at h
    · simp at h
  split at h
  · unfold idxS at h
    split at h
    · simp at h
    · simp at h; obtain ⟨rfl, rfl, rfl⟩ := h
      intro h; dsimp only at h; omega
  split at h
  · unfold tableS2 at h
    split at h
    · simp at h
    · split at h
      · simp at h
      · simp at h; obtain ⟨rfl, rfl, rfl⟩ := h
        intro h; dsimp only at h; omega
  split at h
  · unfold ciS at h
    split at h
    · simp at h
    · split at h
      · simp at h
      · simp at h; obtain ⟨rfl, rfl, rfl⟩ := h
        intro h; dsimp only at h; omega
  split at h
  · unfold zeroS at h
    split at h
    · simp at h
    · simp at h; obtain ⟨rfl, rfl, rfl⟩ := h
      intro h; dsimp only at h; omega
  split at h
  · unfold constS at h
    split at h
    · simp at h
    · rename_i v r hc
      simp at h; obtain ⟨rfl, rfl, rfl⟩ := h
      intro h
      dsimp only at h ⊢
      exact (cS_r hc).2 h
  split at h
  · unfold ldstS at h
    split at h
    · simp at h
    · split at h
      · simp at h
      · simp at h; obtain ⟨rfl, rfl, rfl⟩ := h
        intro h; dsimp only at h; omega
  split at h
  · simp at h; obtain ⟨rfl, rfl, rfl⟩ := h
    intro h; dsimp only at h; omega
  · simp at h
theorem bodyL_65 {s : ByteArray} {e : Nat} : ∀ (n q : Nat) (opn : List Nat) (ins : List Ins) (tabs : List Int) (ins' : List Ins) (tabs' : List Int) (r : Nat), bodyL s e n q opn ins tabs = .ok (ins', tabs', r) → (∀ i, i ∈ ins → P65 i) → ∀ i, i ∈ ins' → P65 i
  | 0, q, opn, ins, tabs, ins', tabs', r, h, hb => by simp [bodyL] at h
  | n + 1, q, opn, ins, tabs, ins', tabs', r, h, hb => by
    rw [bodyL] at h
    obtain ⟨⟨a, q1⟩, h1, h⟩ := bindR_get h
    obtain ⟨⟨x, q2, t⟩, h2, h⟩ := bindR_get h
    dsimp only at h2 h
    by_cases h96 : 96 ≤ ins.length
    · rw [if_pos h96] at h; simp at h
    rw [if_neg h96] at h
    have hb2 : ∀ i, i ∈ ins ++ [x] → P65 i := fun i hi => by
      rcases List.mem_append.1 hi with h | h
      · exact hb i h
      · simp at h; subst h; exact restS_65 h2
    split at h
    · split at h
      · simp at h
      · exact bodyL_65 n _ _ _ _ _ _ _ h hb2
    split at h
    · split at h
      · exact bodyL_65 n _ _ _ _ _ _ _ h hb2
      · simp at h
    split at h
    · split at h
      · simp at h; obtain ⟨rfl, rfl, rfl⟩ := h; exact hb2
      · exact bodyL_65 n _ _ _ _ _ _ _ h hb2
    · exact bodyL_65 n _ _ _ _ _ _ _ h hb2
def F65 (f : Fn) : Prop := ∀ i, i ∈ f.body → P65 i
theorem fnRow_65 {s : ByteArray} {e : Nat} {ty : Int} {q : Nat} {x : Fn} {r : Nat} (h : fnRow s e ty q = .ok (x, r)) : F65 x := by
  unfold fnRow at h
  obtain ⟨⟨a, a2⟩, ha, h⟩ := bindR_get h
  obtain ⟨⟨b, _⟩, hb, h⟩ := bindR_get h
  obtain ⟨⟨c, c2, c3⟩, hc, h⟩ := bindR_get h
  dsimp only at hb hc h
  split at h
  · simp at h
    obtain ⟨rfl, rfl⟩ := h
    exact bodyL_65 _ _ _ _ _ _ _ _ hc (fun i hi => by simp at hi)
  · simp at h
theorem fnsL_65 {s : ByteArray} {e : Nat} : ∀ (ts : List Int) (q : Nat) (l l' : List Fn) (r : Nat), fnsL s e ts q l = .ok (l', r) → (∀ f, f ∈ l → F65 f) → ∀ f, f ∈ l' → F65 f
  | [], q, l, l', r, h, h2 => by simp [fnsL] at h; obtain ⟨rfl, rfl⟩ := h; exact h2
  | t :: ts, q, l, l', r, h, h2 => by
    rw [fnsL] at h
    obtain ⟨⟨x, r'⟩, h3, h4⟩ := bindR_get h
    exact fnsL_65 ts r' (l ++ [x]) l' r h4 (fun y hy => by
      rcases List.mem_append.1 hy with h | h
      · exact h2 y h
      · simp at h; subst h; exact fnRow_65 h3)
theorem secS_65 {id : Nat} {s : ByteArray} {p e : Nat} {M M' : Mod} {ty ty' : List Int} {q : Nat} (h : secS id s p e M ty = .ok (M', ty', q)) (hk : ∀ f, f ∈ M.funcs → F65 f) : ∀ f, f ∈ M'.funcs → F65 f := by
  unfold secS at h
  split at h
  · obtain ⟨⟨x, r⟩, h1, h⟩ := bindR_get h
    simp at h; obtain ⟨rfl, rfl, rfl⟩ := h
    exact hk
  split at h
  · obtain ⟨⟨x, r⟩, h1, h⟩ := bindR_get h
    simp at h; obtain ⟨rfl, rfl, rfl⟩ := h
    exact hk
  split at h
  · obtain ⟨⟨x, r⟩, h1, h⟩ := bindR_get h
    simp at h; obtain ⟨rfl, rfl, rfl⟩ := h
    exact hk
  split at h
  · obtain ⟨⟨n, r⟩, h1, h⟩ := bindR_get h
    dsimp only at h
    split at h
    · obtain ⟨a, _, h⟩ := bindR_get h
      obtain ⟨⟨⟨lo, hi⟩, r⟩, h2, h⟩ := bindR_get h
      simp at h; obtain ⟨rfl, rfl, rfl⟩ := h
      exact hk
    · simp at h; obtain ⟨rfl, rfl, rfl⟩ := h
      exact hk
  split at h
  · obtain ⟨⟨n, r⟩, h1, h⟩ := bindR_get h
    dsimp only at h
    split at h
    · obtain ⟨⟨⟨lo, hi⟩, r⟩, h2, h⟩ := bindR_get h
      simp at h; obtain ⟨rfl, rfl, rfl⟩ := h
      exact hk
    · simp at h; obtain ⟨rfl, rfl, rfl⟩ := h
      exact hk
  split at h
  · obtain ⟨⟨x, r⟩, h1, h⟩ := bindR_get h
    simp at h; obtain ⟨rfl, rfl, rfl⟩ := h
    exact hk
  split at h
  · obtain ⟨⟨x, r⟩, h1, h⟩ := bindR_get h
    simp at h; obtain ⟨rfl, rfl, rfl⟩ := h
    exact hk
  split at h
  · obtain ⟨⟨x, r⟩, h1, h⟩ := bindR_get h
    simp at h; obtain ⟨rfl, rfl, rfl⟩ := h
    exact hk
  split at h
  · obtain ⟨⟨x, r⟩, h1, h⟩ := bindR_get h
    simp at h; obtain ⟨rfl, rfl, rfl⟩ := h
    exact hk
  split at h
  · obtain ⟨⟨n, r⟩, h1, h⟩ := bindR_get h
    dsimp only at h
    split at h
    · obtain ⟨⟨x, r⟩, h2, h⟩ := bindR_get h
      simp at h; obtain ⟨rfl, rfl, rfl⟩ := h
      exact pick_all (fnsL_65 _ _ _ _ _ h2 (fun f hf => by simp at hf)) hk
    · simp at h
  · obtain ⟨⟨x, r⟩, h1, h⟩ := bindR_get h
    simp at h; obtain ⟨rfl, rfl, rfl⟩ := h
    exact hk
theorem secsL_65 {s : ByteArray} : ∀ (n last q : Nat) (M : Mod) (ty : List Int) (M' : Mod) (ty' : List Int) (r : Nat), secsL s n last q M ty = .ok (M', ty', r) → (∀ f, f ∈ M.funcs → F65 f) → ∀ f, f ∈ M'.funcs → F65 f
  | 0, last, q, M, ty, M', ty', r, h, hk => by simp [secsL] at h
  | n + 1, last, q, M, ty, M', ty', r, h, hk => by
    rw [secsL] at h
    split at h
    · obtain ⟨⟨a, q1⟩, h1, h⟩ := bindR_get h
      dsimp only at h
      split at h
      · simp at h
      · obtain ⟨⟨w1, w2⟩, h2, h⟩ := bindR_get h
        obtain ⟨⟨M2, ty2, q2⟩, h3, h⟩ := bindR_get h
        dsimp only at h3 h
        split at h
        · exact secsL_65 n _ _ _ _ _ _ _ h (secS_65 h3 hk)
        · simp at h
    · simp at h; obtain ⟨rfl, rfl, rfl⟩ := h; exact hk
theorem decodeS_65 {s : ByteArray} {M : Mod} (h : decodeS s = .ok M) : ∀ f, f ∈ M.funcs → ∀ i, i ∈ f.body → i.op = 65 → i.y < 4294967296 := by
  unfold decodeS at h
  split at h
  · simp at h
  split at h
  · simp at h
  split at h
  · obtain ⟨⟨M2, ty2, q2⟩, h3, h⟩ := bindR_get h
    dsimp only at h
    split at h
    · simp at h
      subst h
      exact secsL_65 _ _ _ _ _ _ _ _ h3 (fun f hf => by simp [Mod.empty] at hf)
    · simp at h
  · simp at h
end Go.Proofs.Qxb6500275aGreatDoor
