import Derived.Test.Qxb6500275aGreatDoorDec1
set_option linter.unusedVariables false
set_option linter.unusedSimpArgs false
set_option maxRecDepth 100000
namespace Go.Proofs.Qxb6500275aGreatDoor
open Go Go.RowKit
/- EVERY DECODED MODULE IS ModOk -/
theorem bAt_extract (s : ByteArray) (a b i : Nat) (h : i < (s.extract a b).size) : bAt (s.extract a b) i = bAt s (a + i) := by
  unfold bAt
  have h1 : (s.extract a b).data.toList = (s.data.toList.take b).drop a := by
    rw [ByteArray.data_extract, Array.toList_extract, List.extract_eq_take_drop]
    rw [List.drop_take]
  have h2 : i < ((s.data.toList.take b).drop a).length := by
    rw [ByteArray.size_extract] at h
    rw [List.length_drop, List.length_take, Array.length_toList]
    show i < min b s.size - a
    omega
  rw [h1, List.getD_eq_getElem?_getD, List.getD_eq_getElem?_getD, List.getElem?_drop]
  rw [List.length_drop, List.length_take] at h2
  rw [List.getElem?_take_of_lt (by omega)]
theorem takeS_ok2 {s : ByteArray} {p e n q : Nat} {t : ByteArray} (h : takeS s p e n = .ok (t, q)) : t.size ≤ n := by
  unfold takeS at h
  split at h
  · simp at h
  · simp at h
    obtain ⟨rfl, rfl⟩ := h
    rw [ByteArray.size_extract]; omega
theorem nameS_ok2 {s : ByteArray} {p e q : Nat} {t : ByteArray} (h : nameS s p e = .ok (t, q)) : t.size ≤ 8 := by
  unfold nameS at h
  split at h
  · simp at h
  · rename_i n r hc
    have := (countS_ok hc).1
    have := takeS_ok2 h
    omega
theorem flagS_ok2 {s : ByteArray} {p e mx q v : Nat} (h : flagS s p e mx = .ok (v, q)) : v ≤ mx := by
  unfold flagS at h
  split at h
  · split at h
    · simp at h
    · simp at h; omega
  · simp at h
theorem valtypeS_ok2 {s : ByteArray} {p e v q : Nat} (h : valtypeS s p e = .ok (v, q)) : isVal v := by
  unfold valtypeS at h
  split at h
  · split at h
    · simp at h
    · simp at h; unfold isVal; omega
  · simp at h
theorem valtypesL_ok2 {s : ByteArray} {e : Nat} : ∀ (n p q : Nat), valtypesL s e n p = .ok q → ∀ i, i < n → isVal (bAt s (p + i))
  | 0, p, q, h, i, hi => by omega
  | n + 1, p, q, h, i, hi => by
    unfold valtypesL at h
    split at h
    · simp at h
    · rename_i v r hv
      obtain ⟨h1, _, h3⟩ := valtypeS_ok hv
      have h4 := valtypeS_ok2 hv
      cases i with
      | zero => rw [Nat.add_zero, ← h3]; exact h4
      | succ i =>
        have := valtypesL_ok2 n r q h i (by omega)
        rw [h1] at this
        rw [show p + (i + 1) = p + 1 + i by omega]
        exact this
theorem valtypesS_ok2 {s : ByteArray} {p e q : Nat} {mx : Int} {t : ByteArray} (h : valtypesS s p e mx = .ok (t, q)) : Vals t := by
  unfold valtypesS at h
  split at h
  · simp at h
  · rename_i n r hc
    split at h
    · simp at h
    · rename_i r2 hl
      have h1 := valtypesL_ok _ _ _ hl
      have h2 := valtypesL_ok2 _ _ _ hl
      simp at h
      obtain ⟨rfl, rfl⟩ := h
      intro i hi
      rw [bAt_extract _ _ _ _ hi]
      rw [ByteArray.size_extract] at hi
      exact h2 i (by omega)
theorem rowsL_all {α : Type} {row : Nat → R α} {P : α → Prop} (hr : ∀ q x r, row q = .ok (x, r) → P x) : ∀ (n q : Nat) (l : List α) (l' : List α) (r : Nat), rowsL row n q l = .ok (l', r) → (∀ x, x ∈ l → P x) → (∀ x, x ∈ l' → P x) ∧ l'.length = l.length + n
  | 0, q, l, l', r, h, hl => by simp [rowsL] at h; obtain ⟨rfl, rfl⟩ := h; exact ⟨hl, rfl⟩
  | n + 1, q, l, l', r, h, hl => by
    rw [rowsL] at h
    obtain ⟨⟨x, r'⟩, h1, h2⟩ := bindR_get h
    have := rowsL_all hr n r' (l ++ [x]) l' r h2 (fun y hy => by
      rcases List.mem_append.1 hy with h | h
      · exact hl y h
      · simp at h; subst h; exact hr _ _ _ h1)
    refine ⟨this.1, ?_⟩
    rw [this.2]; simp; omega
theorem vecS_all {α : Type} {s : ByteArray} {p e : Nat} {mx : Int} {row : Nat → R α} {P : α → Prop} (hr : ∀ q x r, row q = .ok (x, r) → P x) {l : List α} {r : Nat} (h : vecS s p e mx row = .ok (l, r)) : (∀ x, x ∈ l → P x) ∧ (l.length : Int) ≤ mx := by
  unfold vecS at h
  obtain ⟨⟨n, q⟩, h1, h2⟩ := bindR_get h
  have hn := (countS_ok h1).1
  have := rowsL_all hr _ _ _ _ _ h2 (fun x hx => by simp at hx)
  refine ⟨this.1, ?_⟩
  rw [this.2]
  dsimp only
  simp
  omega
theorem wordL_r (t : ByteArray) (j : Nat) : u64R (wordL t (j + 1)) := by rw [wordL]; exact bits64 _ _ _
theorem wordS_r {s : ByteArray} {p e n q : Nat} {v : Int} (h : wordS s p e n = .ok (v, q)) : u64R v := by
  unfold wordS at h
  split at h
  · simp at h
  · simp at h
    rw [← h.1]
    exact wordL_r _ _
theorem slebS_32 {s : ByteArray} {p e : Nat} {v : Int} {q : Nat} (h : slebS s p e 32 = .ok (v, q)) : v < 4294967296 := by
  unfold slebS at h
  split at h
  · simp at h
  · rename_i k cc v' q' hl
    unfold slebEnd at h
    split at h
    · rename_i hk
      have hk2 : ∀ (n k : Nat) (v : Int) (q k' cc : Nat) (v' : Int) (q' : Nat), slebL s e p 32 n k v q = .ok (k', cc, v', q') → 7 * k' < 32 + 7 := by
        intro n
        induction n with
        | zero => intro k v q k' cc v' q' h; simp [slebL] at h
        | succ n ih =>
          intro k v q k' cc v' q' h
          unfold slebL at h
          split at h
          · simp at h
          · split at h
            · split at h
              · simp at h; omega
              · exact ih _ _ _ _ _ _ _ h
            · simp at h
      have := hk2 _ _ _ _ _ _ _ _ hl
      omega
    · rw [if_pos rfl] at h
      split at h
      · simp at h
      · simp at h
        omega
theorem cS_r {s : ByteArray} {p e op : Nat} {v : Int} {q : Nat} (h : cS s p e op = .ok (v, q)) : u64R v ∧ (op = 65 → v < 4294967296) := by
  unfold cS at h
  split at h
  · exact ⟨(slebS_ok h).1, fun _ => slebS_32 h⟩
  split at h
  · exact ⟨(slebS_ok h).1, fun _ => by omega⟩
  split at h
  · exact ⟨wordS_r h, fun _ => by omega⟩
  · exact ⟨wordS_r h, fun _ => by omega⟩
theorem conS_r {s : ByteArray} {p e : Nat} {i : Ins} {q : Nat} (h : conS s p e = .ok (i, q)) : ConOk i := by
  unfold conS at h
  split at h
  · split at h
    · simp at h
    · obtain ⟨⟨y, r⟩, h1, h2⟩ := bindR_get h
      have hr := cS_r h1
      dsimp only at h2
      split at h2
      · split at h2
        · simp at h2
          obtain ⟨rfl, rfl⟩ := h2
          refine ⟨⟨?_, ?_, hr.1, ?_⟩, by dsimp only; omega, hr.2⟩
          · show opOk (bAt s p); unfold opOk; omega
          · show u32R 0; unfold u32R; omega
          · intro h; dsimp only at h; omega
        · simp at h2
      · simp at h2
  · simp at h
theorem u32S_r {s : ByteArray} {p e : Nat} {x : Int} {r : Nat} (h : u32S s p e = .ok (x, r)) : u32R x := (u32S_ok h).1
theorem tyRow_r {s : ByteArray} {e q : Nat} {x : Ty} {r : Nat} (h : tyRow s e q = .ok (x, r)) : TyOk x := by
  unfold tyRow at h
  obtain ⟨a, _, h⟩ := bindR_get h
  obtain ⟨⟨b, _⟩, hb, h⟩ := bindR_get h
  obtain ⟨⟨c, _⟩, hc, h⟩ := bindR_get h
  simp at h
  obtain ⟨rfl, rfl⟩ := h
  have := valtypesS_size hb
  have := valtypesS_size hc
  exact ⟨valtypesS_ok2 hb, by dsimp only; omega, valtypesS_ok2 hc, by dsimp only; omega⟩
theorem impRow_r {s : ByteArray} {e q : Nat} {x : Imp} {r : Nat} (h : impRow s e q = .ok (x, r)) : ImpOk x := by
  unfold impRow at h
  obtain ⟨⟨a, _⟩, ha, h⟩ := bindR_get h
  obtain ⟨⟨b, _⟩, hb, h⟩ := bindR_get h
  obtain ⟨⟨c, _⟩, hc, h⟩ := bindR_get h
  obtain ⟨⟨d, _⟩, hd, h⟩ := bindR_get h
  simp at h
  obtain ⟨rfl, rfl⟩ := h
  exact ⟨nameS_ok2 ha, nameS_ok2 hb, u32S_r hd⟩
theorem globRow_r {s : ByteArray} {e q : Nat} {x : Glob} {r : Nat} (h : globRow s e q = .ok (x, r)) : GlobOk x := by
  unfold globRow at h
  obtain ⟨⟨a, _⟩, ha, h⟩ := bindR_get h
  obtain ⟨⟨b, _⟩, hb, h⟩ := bindR_get h
  obtain ⟨⟨c, _⟩, hc, h⟩ := bindR_get h
  simp at h
  obtain ⟨rfl, rfl⟩ := h
  exact ⟨valtypeS_ok2 ha, conS_r hc⟩
theorem expRow_r {s : ByteArray} {e q : Nat} {x : Exp} {r : Nat} (h : expRow s e q = .ok (x, r)) : ExpOk x := by
  unfold expRow at h
  obtain ⟨⟨a, _⟩, ha, h⟩ := bindR_get h
  obtain ⟨⟨b, _⟩, hb, h⟩ := bindR_get h
  obtain ⟨⟨c, _⟩, hc, h⟩ := bindR_get h
  simp at h
  obtain ⟨rfl, rfl⟩ := h
  exact ⟨nameS_ok2 ha, flagS_ok2 hb, u32S_r hc⟩
theorem elmRow_r {s : ByteArray} {e q : Nat} {x : Elm} {r : Nat} (h : elmRow s e q = .ok (x, r)) : ElmOk x := by
  unfold elmRow at h
  obtain ⟨⟨a, _⟩, ha, h⟩ := bindR_get h
  obtain ⟨⟨b, _⟩, hb, h⟩ := bindR_get h
  obtain ⟨⟨c, _⟩, hc, h⟩ := bindR_get h
  simp at h
  obtain ⟨rfl, rfl⟩ := h
  have := vecS_all (P := u32R) (fun q x r h => u32S_r h) hc
  exact ⟨conS_r hb, this.1, by have := this.2; dsimp only; omega⟩
theorem datRow_r {s : ByteArray} {e q : Nat} {x : Dat} {r : Nat} (h : datRow s e q = .ok (x, r)) : DatOk x := by
  unfold datRow at h
  obtain ⟨⟨a, _⟩, ha, h⟩ := bindR_get h
  obtain ⟨⟨b, _⟩, hb, h⟩ := bindR_get h
  obtain ⟨⟨c, _⟩, hc, h⟩ := bindR_get h
  obtain ⟨⟨d, _⟩, hd, h⟩ := bindR_get h
  simp at h
  obtain ⟨rfl, rfl⟩ := h
  have h1 := (countS_ok hc).1
  have h2 := takeS_ok2 hd
  exact ⟨conS_r hb, by dsimp only at h2 ⊢; omega⟩
theorem tabsL_all {s : ByteArray} {e : Nat} : ∀ (n q : Nat) (t : List Int) (r : Nat) (t' : List Int), tabsL s e n q t = .ok (r, t') → (∀ i, i ∈ t → u32R i) → (∀ i, i ∈ t' → u32R i) ∧ t'.length = t.length + n
  | 0, q, t, r, t', h, hl => by simp [tabsL] at h; obtain ⟨rfl, rfl⟩ := h; exact ⟨hl, rfl⟩
  | n + 1, q, t, r, t', h, hl => by
    unfold tabsL at h
    split at h
    · simp at h
    · rename_i v r' hv
      have := tabsL_all n r' _ r t' h (fun y hy => by
        rcases List.mem_append.1 hy with h | h
        · exact hl y h
        · simp at h; subst h; exact u32S_r hv)
      refine ⟨this.1, ?_⟩
      rw [this.2]; simp; omega
/- the rows of a body's tables -/
def tabY (i : Ins) : Nat := if i.op = 14 then i.y.toNat else 0
def tabSum (l : List Ins) : Nat := (l.map tabY).sum
theorem restS_r {s : ByteArray} {p e op at_ : Nat} {tabs t : List Int} {i : Ins} {q : Nat} (h : restS s p e op at_ tabs = .ok (i, q, t)) (ht : ∀ i, i ∈ tabs → u32R i) (hl : tabs.length ≤ 24) : InsOk i ∧ (∀ i, i ∈ t → u32R i) ∧ t.length = tabs.length + tabY i ∧ t.length ≤ 24 := by
  have z32 : u32R 0 := by unfold u32R; omega
  have z64 : u64R 0 := by unfold u64R; omega
  unfold restS at h
  split at h
  · simp at h; obtain ⟨rfl, rfl, rfl⟩ := h
    exact ⟨⟨by show opOk op; unfold opOk; omega, z32, z64, by intro h; dsimp only at h; omega⟩, ht, by unfold tabY; rw [if_neg (by dsimp only; omega)]; rfl, hl⟩
  split at h
  · unfold blkS at h
    split at h
    · split at h
      · simp at h; obtain ⟨rfl, rfl, rfl⟩ := h
        refine ⟨⟨by show opOk op; unfold opOk; omega, ?_, z64, fun _ => ?_⟩, ht, by unfold tabY; rw [if_neg (by dsimp only; omega)]; rfl, hl⟩
        · show u32R (bAt s p : Int); unfold u32R; omega
        · show (bAt s p : Int) = 64 ∨ _
          have hv : bAt s p = 64 ∨ (124 ≤ bAt s p ∧ bAt s p ≤ 127) := by assumption
          rcases hv with hv | hv
          · exact .inl (by omega)
          · exact .inr ⟨bAt s p, rfl, by unfold isVal; omega⟩
      · simp at h
    · simp at h
  split at h
  · unfold idxS at h
    split at h
    · simp at h
    · rename_i x r hu
      simp at h; obtain ⟨rfl, rfl, rfl⟩ := h
      exact ⟨⟨by show opOk op; unfold opOk; omega, u32S_r hu, z64, by intro h; dsimp only at h; omega⟩, ht, by unfold tabY; rw [if_neg (by dsimp only; omega)]; rfl, hl⟩
  split at h
  · unfold tableS2 at h
    split at h
    · simp at h
    · rename_i k r hu
      have hk := (countS_ok hu).1
      split at h
      · simp at h
      · rename_i r' t' hl'
        have hT := tabsL_all _ _ _ _ _ hl' ht
        simp at h; obtain ⟨rfl, rfl, rfl⟩ := h
        refine ⟨⟨by show opOk op; unfold opOk; omega, ?_, ?_, by intro h; dsimp only at h; omega⟩, hT.1, ?_, by rw [hT.2]; omega⟩
        · show u32R (tabs.length : Int); unfold u32R; omega
        · show u64R (k + 1); unfold u64R; omega
        · unfold tabY
          rw [if_pos (by dsimp only; omega), hT.2]
          show _ = _ + (k + 1).toNat
          omega
  split at h
  · unfold ciS at h
    split at h
    · simp at h
    · rename_i x r hu
      split at h
      · simp at h
      · rename_i u r' hf
        simp at h; obtain ⟨rfl, rfl, rfl⟩ := h
        exact ⟨⟨by show opOk op; unfold opOk; omega, u32S_r hu, z64, by intro h; dsimp only at h; omega⟩, ht, by unfold tabY; rw [if_neg (by dsimp only; omega)]; rfl, hl⟩
  split at h
  · unfold zeroS at h
    split at h
    · simp at h
    · rename_i u r' hf
      simp at h; obtain ⟨rfl, rfl, rfl⟩ := h
      exact ⟨⟨by show opOk op; unfold opOk; omega, z32, z64, by intro h; dsimp only at h; omega⟩, ht, by unfold tabY; rw [if_neg (by dsimp only; omega)]; rfl, hl⟩
  split at h
  · unfold constS at h
    split at h
    · simp at h
    · rename_i y r hc
      simp at h; obtain ⟨rfl, rfl, rfl⟩ := h
      exact ⟨⟨by show opOk op; unfold opOk; omega, z32, (cS_r hc).1, by intro h; dsimp only at h; omega⟩, ht, by unfold tabY; rw [if_neg (by dsimp only; omega)]; rfl, hl⟩
  split at h
  · unfold ldstS at h
    split at h
    · simp at h
    · rename_i x r hu
      split at h
      · simp at h
      · rename_i y r' hu2
        simp at h; obtain ⟨rfl, rfl, rfl⟩ := h
        have hy := u32S_r hu2
        exact ⟨⟨by show opOk op; unfold opOk; omega, u32S_r hu, by show u64R y; unfold u32R at hy; unfold u64R; omega, by intro h; dsimp only at h; omega⟩, ht, by unfold tabY; rw [if_neg (by dsimp only; omega)]; rfl, hl⟩
  split at h
  · simp at h; obtain ⟨rfl, rfl, rfl⟩ := h
    exact ⟨⟨by show opOk op; unfold opOk; omega, z32, z64, by intro h; dsimp only at h; omega⟩, ht, by unfold tabY; rw [if_neg (by dsimp only; omega)]; rfl, hl⟩
  · simp at h
theorem restS_y1 {s : ByteArray} {p e op at_ : Nat} {tabs t : List Int} {i : Ins} {q : Nat} (h : restS s p e op at_ tabs = .ok (i, q, t)) : i.op = 14 → 1 ≤ i.y := by
  unfold restS at h
  split at h
  · simp at h; obtain ⟨rfl, rfl, rfl⟩ := h
    intro h; dsimp only at h; omega
  split at h
  · unfold blkS at h
    split at h
    · split at h
      · simp at h; obtain ⟨rfl, rfl, rfl⟩ := h
        intro h; dsimp only at h; omega
      · simp at h
    · simp at h
  split at h
  · unfold idxS at h
    split at h
    · simp at h
    · simp at h; obtain ⟨rfl, rfl, rfl⟩ := h
      intro h; dsimp only at h; omega
  split at h
  · unfold tableS2 at h
    split at h
    · simp at h
    · rename_i k r hu
      have hk := (countS_ok hu).1
      split at h
      · simp at h
      · simp at h; obtain ⟨rfl, rfl, rfl⟩ := h
        intro h; show (1 : Int) ≤ k + 1; omega
  split at h
  · unfold ciS at h
    split at h
    · simp at h
    · split at h
      · simp at h
      · simp at h; obtain ⟨rfl, rfl, rfl⟩ := h
        intro h; dsimp only at h; omega
  split at h
  · unfold zeroS at h
    split at h
    · simp at h
    · simp at h; obtain ⟨rfl, rfl, rfl⟩ := h
      intro h; dsimp only at h; omega
  split at h
  · unfold constS at h
    split at h
    · simp at h
    · simp at h; obtain ⟨rfl, rfl, rfl⟩ := h
      intro h; dsimp only at h; omega
  split at h
  · unfold ldstS at h
    split at h
    · simp at h
    · split at h
      · simp at h
      · simp at h; obtain ⟨rfl, rfl, rfl⟩ := h
        intro h; dsimp only at h; omega
  split at h
  · simp at h; obtain ⟨rfl, rfl, rfl⟩ := h
    intro h; dsimp only at h; omega
  · simp at h
theorem tabSum_snoc (l : List Ins) (i : Ins) : tabSum (l ++ [i]) = tabSum l + tabY i := by simp [tabSum]
structure BodyOk (l : List Ins) (t : List Int) : Prop where
  ins : ∀ i, i ∈ l → InsOk i
  n : l.length ≤ 96
  tabs : ∀ i, i ∈ t → u32R i
  nt : t.length ≤ 24
  sum : tabSum l = t.length
  y1 : ∀ i, i ∈ l → i.op = 14 → 1 ≤ i.y
theorem bodyL_r {s : ByteArray} {e : Nat} : ∀ (n q : Nat) (opn : List Nat) (ins : List Ins) (tabs : List Int) (ins' : List Ins) (tabs' : List Int) (r : Nat), bodyL s e n q opn ins tabs = .ok (ins', tabs', r) → BodyOk ins tabs → BodyOk ins' tabs' ∧ 0 < ins'.length
  | 0, q, opn, ins, tabs, ins', tabs', r, h, hb => by simp [bodyL] at h
  | n + 1, q, opn, ins, tabs, ins', tabs', r, h, hb => by
    rw [bodyL] at h
    obtain ⟨⟨a, q1⟩, h1, h⟩ := bindR_get h
    obtain ⟨⟨x, q2, t⟩, h2, h⟩ := bindR_get h
    dsimp only at h2 h
    obtain ⟨hx, ht, hl, hl2⟩ := restS_r h2 hb.tabs hb.nt
    by_cases h96 : 96 ≤ ins.length
    · rw [if_pos h96] at h; simp at h
    rw [if_neg h96] at h
    have hb2 : BodyOk (ins ++ [x]) t := by
      refine ⟨fun i hi => ?_, by simp; omega, ht, hl2, by rw [tabSum_snoc, hb.sum, hl], fun i hi => ?_⟩
      · rcases List.mem_append.1 hi with h | h
        · exact hb.ins i h
        · simp at h; subst h; exact hx
      · rcases List.mem_append.1 hi with h | h
        · exact hb.y1 i h
        · simp at h; subst h; exact restS_y1 h2
    split at h
    · split at h
      · simp at h
      · exact bodyL_r n _ _ _ _ _ _ _ h hb2
    split at h
    · split at h
      · exact bodyL_r n _ _ _ _ _ _ _ h hb2
      · simp at h
    split at h
    · split at h
      · simp at h; obtain ⟨rfl, rfl, rfl⟩ := h; exact ⟨hb2, by simp⟩
      · exact bodyL_r n _ _ _ _ _ _ _ h hb2
    · exact bodyL_r n _ _ _ _ _ _ _ h hb2
theorem localsL_r {s : ByteArray} {e : Nat} : ∀ (g : Nat) (acc : List Nat) (q : Nat) (acc' : List Nat) (r : Nat), localsL s e g acc q = .ok (acc', r) → (∀ t, t ∈ acc → isVal t) → acc.length ≤ 6 → (∀ t, t ∈ acc' → isVal t) ∧ acc'.length ≤ 6
  | 0, acc, q, acc', r, h, h1, h2 => by simp [localsL] at h; obtain ⟨rfl, rfl⟩ := h; exact ⟨h1, h2⟩
  | g + 1, acc, q, acc', r, h, h1, h2 => by
    unfold localsL at h
    split at h
    · simp at h
    · rename_i k r1 hc
      have hk := (countS_ok hc).1
      split at h
      · simp at h
      · rename_i t r2 hv
        refine localsL_r g _ _ _ _ h (fun u hu => ?_) (by simp; omega)
        rcases List.mem_append.1 hu with h | h
        · exact h1 u h
        · rw [(List.mem_replicate.1 h).2]; exact valtypeS_ok2 hv
theorem bytesOf_at (l : List Nat) (i : Nat) (h : i < l.length) : bAt (bytesOf l) i = l[i] % 256 := by
  unfold bAt bytesOf
  rw [List.getD_eq_getElem?_getD]
  simp [List.getElem?_map, List.getElem?_eq_getElem h]
theorem bytesOf_size (l : List Nat) : (bytesOf l).size = l.length := by unfold bytesOf; simp [ByteArray.size]
theorem localsS_r {s : ByteArray} {p e q : Nat} {t : ByteArray} (h : localsS s p e = .ok (t, q)) : Vals t ∧ t.size ≤ 6 := by
  unfold localsS at h
  split at h
  · simp at h
  · split at h
    · simp at h
    · rename_i acc r hl
      simp at h
      obtain ⟨rfl, rfl⟩ := h
      have := localsL_r _ _ _ _ _ hl (fun t ht => by simp at ht) (by simp)
      refine ⟨fun i hi => ?_, by rw [bytesOf_size]; exact this.2⟩
      rw [bytesOf_size] at hi
      rw [bytesOf_at _ _ hi]
      have h3 := this.1 acc[i] (List.getElem_mem hi)
      unfold isVal at h3 ⊢
      omega
structure FnRoom (f : Fn) : Prop where
  sum : tabSum f.body = f.tabs.length
  y1 : ∀ i, i ∈ f.body → i.op = 14 → 1 ≤ i.y
theorem fnRow_r {s : ByteArray} {e : Nat} {ty : Int} {q : Nat} {x : Fn} {r : Nat} (h : fnRow s e ty q = .ok (x, r)) (ht : u32R ty) : FnOk x ∧ FnRoom x := by
  unfold fnRow at h
  obtain ⟨⟨a, a2⟩, ha, h⟩ := bindR_get h
  obtain ⟨⟨b, _⟩, hb, h⟩ := bindR_get h
  obtain ⟨⟨c, c2, c3⟩, hc, h⟩ := bindR_get h
  dsimp only at hb hc h
  split at h
  · simp at h
    obtain ⟨rfl, rfl⟩ := h
    have h1 := localsS_r hb
    have h2 := bodyL_r _ _ _ _ _ _ _ _ hc ⟨fun i hi => by simp at hi, by simp, fun i hi => by simp at hi, by simp, rfl, fun i hi => by simp at hi⟩
    exact ⟨⟨ht, h1.1, h1.2, h2.1.ins, ⟨h2.2, h2.1.n⟩, h2.1.tabs, h2.1.nt⟩, ⟨h2.1.sum, h2.1.y1⟩⟩
  · simp at h
theorem fnsL_r {s : ByteArray} {e : Nat} : ∀ (ts : List Int) (q : Nat) (l l' : List Fn) (r : Nat), fnsL s e ts q l = .ok (l', r) → (∀ t, t ∈ ts → u32R t) → (∀ f, f ∈ l → FnOk f ∧ FnRoom f) → (∀ f, f ∈ l' → FnOk f ∧ FnRoom f) ∧ l'.length = l.length + ts.length
  | [], q, l, l', r, h, h1, h2 => by simp [fnsL] at h; obtain ⟨rfl, rfl⟩ := h; exact ⟨h2, rfl⟩
  | t :: ts, q, l, l', r, h, h1, h2 => by
    rw [fnsL] at h
    obtain ⟨⟨x, r'⟩, h3, h4⟩ := bindR_get h
    have := fnsL_r ts r' (l ++ [x]) l' r h4 (fun u hu => h1 u (by simp [hu])) (fun y hy => by
      rcases List.mem_append.1 hy with h | h
      · exact h2 y h
      · simp at h; subst h; exact fnRow_r h3 (h1 t (by simp)))
    refine ⟨this.1, ?_⟩
    rw [this.2]; simp; omega
/- what a module, half read, keeps -/
structure MK (M : Mod) (tl : List Int) : Prop where
  ok : ModOk M
  room : ∀ f, f ∈ M.funcs → FnRoom f
  ty : ∀ t, t ∈ tl → u32R t
  nty : tl.length ≤ 8
theorem pick_all {α : Type} {P : α → Prop} {l old : List α} (h1 : ∀ x, x ∈ l → P x) (h2 : ∀ x, x ∈ old → P x) : ∀ x, x ∈ pick l old → P x := by
  unfold pick
  split
  · exact h2
  · exact h1
theorem pick_len {α : Type} {l old : List α} {n : Nat} (h1 : l.length ≤ n) (h2 : old.length ≤ n) : (pick l old).length ≤ n := by
  unfold pick
  split
  · exact h2
  · exact h1
theorem limitsS_r {s : ByteArray} {p e : Nat} {lo hi : Int} {q : Nat} (h : limitsS s p e = .ok ((lo, hi), q)) : limR lo ∧ limR hi := by
  unfold limitsS at h
  split at h
  · simp at h
  · split at h
    · simp at h
    · rename_i lo' r hu
      have h1 := u32S_r hu
      unfold u32R at h1
      split at h
      · simp at h
        obtain ⟨⟨rfl, rfl⟩, _⟩ := h
        unfold limR
        omega
      · split at h
        · simp at h
        · rename_i hi' t hu2
          have h2 := u32S_r hu2
          unfold u32R at h2
          simp at h
          obtain ⟨⟨rfl, rfl⟩, _⟩ := h
          unfold limR
          omega
theorem secS_r {id : Nat} {s : ByteArray} {p e : Nat} {M M' : Mod} {ty ty' : List Int} {q : Nat} (h : secS id s p e M ty = .ok (M', ty', q)) (hk : MK M ty) : MK M' ty' := by
  have hm := hk.ok
  unfold secS at h
  split at h
  · obtain ⟨⟨x, r⟩, h1, h⟩ := bindR_get h
    simp at h; obtain ⟨rfl, rfl, rfl⟩ := h
    have hv := vecS_all (P := TyOk) (fun q x r h => tyRow_r h) h1
    exact ⟨{ hm with types := pick_all hv.1 hm.types, nt := pick_len (by omega) hm.nt }, hk.room, hk.ty, hk.nty⟩
  split at h
  · obtain ⟨⟨x, r⟩, h1, h⟩ := bindR_get h
    simp at h; obtain ⟨rfl, rfl, rfl⟩ := h
    have hv := vecS_all (P := ImpOk) (fun q x r h => impRow_r h) h1
    exact ⟨{ hm with imports := pick_all hv.1 hm.imports, ni := pick_len (by omega) hm.ni }, hk.room, hk.ty, hk.nty⟩
  split at h
  · obtain ⟨⟨x, r⟩, h1, h⟩ := bindR_get h
    simp at h; obtain ⟨rfl, rfl, rfl⟩ := h
    have hv := vecS_all (P := u32R) (fun q x r h => u32S_r h) h1
    exact ⟨hm, hk.room, hv.1, by omega⟩
  split at h
  · obtain ⟨⟨n, r⟩, h1, h⟩ := bindR_get h
    dsimp only at h
    split at h
    · obtain ⟨a, _, h⟩ := bindR_get h
      obtain ⟨⟨⟨lo, hi⟩, r⟩, h2, h⟩ := bindR_get h
      simp at h; obtain ⟨rfl, rfl, rfl⟩ := h
      have hv := limitsS_r h2
      exact ⟨{ hm with tabMin := hv.1, tabMax := hv.2 }, hk.room, hk.ty, hk.nty⟩
    · simp at h; obtain ⟨rfl, rfl, rfl⟩ := h
      exact hk
  split at h
  · obtain ⟨⟨n, r⟩, h1, h⟩ := bindR_get h
    dsimp only at h
    split at h
    · obtain ⟨⟨⟨lo, hi⟩, r⟩, h2, h⟩ := bindR_get h
      simp at h; obtain ⟨rfl, rfl, rfl⟩ := h
      have hv := limitsS_r h2
      exact ⟨{ hm with memMin := hv.1, memMax := hv.2 }, hk.room, hk.ty, hk.nty⟩
    · simp at h; obtain ⟨rfl, rfl, rfl⟩ := h
      exact hk
  split at h
  · obtain ⟨⟨x, r⟩, h1, h⟩ := bindR_get h
    simp at h; obtain ⟨rfl, rfl, rfl⟩ := h
    have hv := vecS_all (P := GlobOk) (fun q x r h => globRow_r h) h1
    exact ⟨{ hm with globals := pick_all hv.1 hm.globals, ng := pick_len (by omega) hm.ng }, hk.room, hk.ty, hk.nty⟩
  split at h
  · obtain ⟨⟨x, r⟩, h1, h⟩ := bindR_get h
    simp at h; obtain ⟨rfl, rfl, rfl⟩ := h
    have hv := vecS_all (P := ExpOk) (fun q x r h => expRow_r h) h1
    exact ⟨{ hm with exports := pick_all hv.1 hm.exports, ne := pick_len (by omega) hm.ne }, hk.room, hk.ty, hk.nty⟩
  split at h
  · obtain ⟨⟨x, r⟩, h1, h⟩ := bindR_get h
    simp at h; obtain ⟨rfl, rfl, rfl⟩ := h
    have hv := u32S_r h1
    unfold u32R at hv
    exact ⟨{ hm with start := by show limR x; unfold limR; omega }, hk.room, hk.ty, hk.nty⟩
  split at h
  · obtain ⟨⟨x, r⟩, h1, h⟩ := bindR_get h
    simp at h; obtain ⟨rfl, rfl, rfl⟩ := h
    have hv := vecS_all (P := ElmOk) (fun q x r h => elmRow_r h) h1
    exact ⟨{ hm with elems := pick_all hv.1 hm.elems, nel := pick_len (by omega) hm.nel }, hk.room, hk.ty, hk.nty⟩
  split at h
  · obtain ⟨⟨n, r⟩, h1, h⟩ := bindR_get h
    dsimp only at h
    split at h
    · obtain ⟨⟨x, r⟩, h2, h⟩ := bindR_get h
      simp at h; obtain ⟨rfl, rfl, rfl⟩ := h
      have hv := fnsL_r _ _ _ _ _ h2 hk.ty (fun f hf => by simp at hf)
      have hn := hk.nty
      have hl : x.length ≤ 8 := by rw [hv.2]; simpa using hn
      exact ⟨{ hm with funcs := pick_all (fun f hf => (hv.1 f hf).1) hm.funcs, nf := pick_len hl hm.nf }, pick_all (fun f hf => (hv.1 f hf).2) hk.room, hk.ty, hk.nty⟩
    · simp at h
  · obtain ⟨⟨x, r⟩, h1, h⟩ := bindR_get h
    simp at h; obtain ⟨rfl, rfl, rfl⟩ := h
    have hv := vecS_all (P := DatOk) (fun q x r h => datRow_r h) h1
    exact ⟨{ hm with datas := pick_all hv.1 hm.datas, nd := pick_len (by omega) hm.nd }, hk.room, hk.ty, hk.nty⟩
theorem secsL_r {s : ByteArray} : ∀ (n last q : Nat) (M : Mod) (ty : List Int) (M' : Mod) (ty' : List Int) (r : Nat), secsL s n last q M ty = .ok (M', ty', r) → MK M ty → MK M' ty'
  | 0, last, q, M, ty, M', ty', r, h, hk => by simp [secsL] at h
  | n + 1, last, q, M, ty, M', ty', r, h, hk => by
    rw [secsL] at h
    split at h
    · obtain ⟨⟨a, q1⟩, h1, h⟩ := bindR_get h
      dsimp only at h
      split at h
      · simp at h
      · obtain ⟨⟨w1, w2⟩, h2, h⟩ := bindR_get h
        obtain ⟨⟨M2, ty2, q2⟩, h3, h⟩ := bindR_get h
        dsimp only at h3 h
        split at h
        · exact secsL_r n _ _ _ _ _ _ _ h (secS_r h3 hk)
        · simp at h
    · simp at h; obtain ⟨rfl, rfl, rfl⟩ := h; exact hk
theorem mk_empty : MK Mod.empty [] := by
  have hl : limR (-1) := by unfold limR; omega
  refine ⟨⟨?_, ?_, ?_, ?_, ?_, ?_, hl, hl, hl, hl, ?_, ?_, ?_, ?_, hl, ?_, ?_, ?_, ?_⟩, ?_, ?_, ?_⟩ <;> simp [Mod.empty]
theorem decodeS_r {s : ByteArray} {M : Mod} (h : decodeS s = .ok M) : ModOk M ∧ ∀ f, f ∈ M.funcs → FnRoom f := by
  unfold decodeS at h
  split at h
  · simp at h
  split at h
  · simp at h
  split at h
  · obtain ⟨⟨M2, ty2, q2⟩, h3, h⟩ := bindR_get h
    dsimp only at h
    split at h
    · simp at h
      subst h
      have := secsL_r _ _ _ _ _ _ _ _ h3 mk_empty
      exact ⟨this.ok, this.room⟩
    · simp at h
  · simp at h
end Go.Proofs.Qxb6500275aGreatDoor
