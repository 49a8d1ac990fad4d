import Derived.Test.Qxb6500275aGreatDoorRe7
set_option linter.unusedVariables false
set_option linter.unusedSimpArgs false
namespace Go.Proofs.Qxb6500275aGreatDoor
open Go Go.RowKit
/- a section's text, its part of a module, a part not yet read -/
def secTx : Nat → Mod → List Int → List Nat
  | 1, M, _ => secT 1 M.types.length (M.types.flatMap encTy)
  | 2, M, _ => secT 2 M.imports.length (M.imports.flatMap encImp)
  | 3, _, ty => secT 3 ty.length (ty.flatMap encI32)
  | 4, M, _ => if 0 ≤ M.tabMin then secT 4 1 (112 :: encLim (M.tabMin, M.tabMax)) else []
  | 5, M, _ => if 0 ≤ M.memMin then secT 5 1 (encLim (M.memMin, M.memMax)) else []
  | 6, M, _ => secT 6 M.globals.length (M.globals.flatMap encGlob)
  | 7, M, _ => secT 7 M.exports.length (M.exports.flatMap encExp)
  | 8, M, _ => if 0 ≤ M.start then 8 :: (uLeb (uLeb M.start.toNat).length ++ uLeb M.start.toNat) else []
  | 9, M, _ => secT 9 M.elems.length (M.elems.flatMap encElm)
  | 10, M, _ => secT 10 M.funcs.length (M.funcs.flatMap encFn)
  | 11, M, _ => secT 11 M.datas.length (M.datas.flatMap encDat)
  | _, _, _ => []
def secUp : Nat → Mod → Mod → Mod
  | 1, M0, M => { M0 with types := M.types }
  | 2, M0, M => { M0 with imports := M.imports }
  | 4, M0, M => { M0 with tabMin := M.tabMin, tabMax := M.tabMax }
  | 5, M0, M => { M0 with memMin := M.memMin, memMax := M.memMax }
  | 6, M0, M => { M0 with globals := M.globals }
  | 7, M0, M => { M0 with exports := M.exports }
  | 8, M0, M => { M0 with start := M.start }
  | 9, M0, M => { M0 with elems := M.elems }
  | 10, M0, M => { M0 with funcs := M.funcs }
  | 11, M0, M => { M0 with datas := M.datas }
  | _, M0, _ => M0
def secDf : Nat → Mod → List Int → Prop
  | 1, M, _ => M.types = []
  | 2, M, _ => M.imports = []
  | 3, _, ty => ty = []
  | 4, M, _ => M.tabMin = -1 ∧ M.tabMax = -1
  | 5, M, _ => M.memMin = -1 ∧ M.memMax = -1
  | 6, M, _ => M.globals = []
  | 7, M, _ => M.exports = []
  | 8, M, _ => M.start = -1
  | 9, M, _ => M.elems = []
  | 10, M, _ => M.funcs = []
  | 11, M, _ => M.datas = []
  | _, _, _ => True
/- what a section says of the whole -/
def secPt (i : Nat) (M : Mod) (ty : List Int) : Mod × List Int := (secUp i Mod.empty M, if i = 3 ∨ i = 10 then ty else [])
def Fact (i : Nat) (M : Mod) (ty : List Int) : Prop :=
  (secTx i M ty = [] ∧ secDf i M ty) ∨ ∃ body, secTx i M ty = i :: (uLeb body.length ++ body) ∧ body.length < 4294967296 ∧ (∀ b ∈ body, b < 256) ∧
    ∀ (s' : ByteArray) (p' : Nat) (M0 : Mod) (ty0 : List Int), p' + body.length ≤ s'.size → Lies s' p' body → secDf i M0 ty0 → (i = 10 → ty0 = ty) → secS i s' p' (p' + body.length) M0 ty0 = .ok (secUp i M0 M, (if i = 3 then ty else ty0), p' + body.length)
theorem lt12 {i : Nat} (h1 : 1 ≤ i) (h11 : i ≤ 11) : i = 1 ∨ i = 2 ∨ i = 3 ∨ i = 4 ∨ i = 5 ∨ i = 6 ∨ i = 7 ∨ i = 8 ∨ i = 9 ∨ i = 10 ∨ i = 11 := by omega
theorem secTx_pt {i : Nat} (h1 : 1 ≤ i) (h11 : i ≤ 11) (M : Mod) (ty : List Int) : secTx i M ty = secTx i (secPt i M ty).1 (secPt i M ty).2 := by
  rcases lt12 h1 h11 with rfl | rfl | rfl | rfl | rfl | rfl | rfl | rfl | rfl | rfl | rfl <;> rfl
theorem secUp_pt {i : Nat} (h1 : 1 ≤ i) (h11 : i ≤ 11) (M0 M : Mod) (ty : List Int) : secUp i M0 M = secUp i M0 (secPt i M ty).1 := by
  rcases lt12 h1 h11 with rfl | rfl | rfl | rfl | rfl | rfl | rfl | rfl | rfl | rfl | rfl <;> rfl
theorem secDf_pt {i : Nat} (h1 : 1 ≤ i) (h11 : i ≤ 11) (M : Mod) (ty : List Int) : secDf i M ty = secDf i (secPt i M ty).1 (secPt i M ty).2 := by
  rcases lt12 h1 h11 with rfl | rfl | rfl | rfl | rfl | rfl | rfl | rfl | rfl | rfl | rfl <;> rfl
theorem Fact.same {i : Nat} (h1 : 1 ≤ i) (h11 : i ≤ 11) {M M' : Mod} {ty ty' : List Int} (h : Fact i M ty) (e : secPt i M ty = secPt i M' ty') : Fact i M' ty' := by
  have et : (i = 3 ∨ i = 10) → ty = ty' := fun hi => by
    have := congrArg Prod.snd e
    simpa [secPt, hi] using this
  unfold Fact at h ⊢
  rw [secTx_pt h1 h11, secDf_pt h1 h11] at h ⊢
  rw [← e]
  rcases h with h | ⟨body, b1, b2, b3, b4⟩
  · exact .inl h
  · refine .inr ⟨body, b1, b2, b3, fun s' p' M0 ty0 hp hl hd h10 => ?_⟩
    have := b4 s' p' M0 ty0 hp hl hd (fun hi => (h10 hi).trans (et (.inr hi)).symm)
    rw [this, secUp_pt h1 h11 M0 M ty, secUp_pt h1 h11 M0 M' ty', e]
    by_cases h3 : i = 3
    · rw [if_pos h3, if_pos h3, et (.inl h3)]
    · rw [if_neg h3, if_neg h3]
theorem pick_nil {α : Type} (l : List α) : pick l [] = l := by
  unfold pick
  split
  · rename_i h; exact (List.length_eq_zero_iff.1 h).symm
  · rfl
theorem pick_some {α : Type} {l old : List α} (h : l.length ≠ 0) : pick l old = l := by unfold pick; rw [if_neg h]
theorem secT_zero (id : Nat) (rows : List Nat) : secT id 0 rows = [] := rfl
theorem secT_some {id n : Nat} (h : n ≠ 0) (rows : List Nat) : secT id n rows = id :: (uLeb (uLeb n ++ rows).length ++ (uLeb n ++ rows)) := by unfold secT; rw [if_neg h, List.length_append]
theorem len_lt8 {s : ByteArray} {p r e : Nat} {l : List Nat} (h : l.length ≤ r - p) (h2 : r - p < 4294967296) : l.length < 4294967296 := by omega
/- WHAT A SECTION THAT WAS READ SAYS -/
structure SF (i : Nat) (M M1 : Mod) (ty ty1 : List Int) (n : Nat) : Prop where
  fact : Fact i M1 ty1
  len : (secTx i M1 ty1).length ≤ 1 + (uLeb n).length + n
  low : ∀ j, 1 ≤ j → j < i → secPt j M1 ty1 = secPt j M ty
  high : ∀ j, i < j → j ≤ 11 → secDf j M ty → secDf j M1 ty1
section
variable {s : ByteArray} {p e r : Nat} {M M1 : Mod} {ty ty1 : List Int}
theorem body_len {id : Nat} {body : List Nat} {n : Nat} (h : body.length ≤ n) : (id :: (uLeb body.length ++ body)).length ≤ 1 + (uLeb n).length + n := by
  have := uLeb_mono n body.length h
  simp only [List.length_cons, List.length_append]
  omega
theorem sf1 (hs : e ≤ s.size) (hw : e - p < 4294967296) (hd : M.types = []) (h : secS 1 s p e M ty = .ok (M1, ty1, r)) (hr : r = e) (hpe : p ≤ e) : SF 1 M M1 ty ty1 (e - p) := by
  have h : bindR (vecS s p e 8 (tyRow s e)) (fun x => .ok ({ M with types := pick x.1 M.types }, ty, x.2)) = .ok (M1, ty1, r) := h
  obtain ⟨⟨l, q⟩, h1, h2⟩ := bindR_get h
  simp only [Except.ok.injEq, Prod.mk.injEq] at h2
  obtain ⟨rfl, rfl, rfl⟩ := h2
  obtain ⟨a1, a2, a3, a4⟩ := re_vec re_ty 8 s p e l q hs h1
  rw [hd, pick_nil]
  unfold encVec at a2 a3 a4
  refine ⟨?_, ?_, fun j h1 h2 => by omega, fun j h1 h2 hd => by
    have hj : j = 2 ∨ j = 3 ∨ j = 4 ∨ j = 5 ∨ j = 6 ∨ j = 7 ∨ j = 8 ∨ j = 9 ∨ j = 10 ∨ j = 11 := by omega
    rcases hj with rfl | rfl | rfl | rfl | rfl | rfl | rfl | rfl | rfl | rfl <;> exact hd⟩
  · by_cases hl : l.length = 0
    · have := List.length_eq_zero_iff.1 hl
      subst this
      exact .inl ⟨rfl, rfl⟩
    · refine .inr ⟨uLeb l.length ++ l.flatMap encTy, secT_some hl _, by omega, a3, fun s' p' M0 ty0 hp hL hd0 _ => ?_⟩
      have h4 := a4 s' p' (p' + (uLeb l.length ++ l.flatMap encTy).length) hp hL (Nat.le_refl _)
      have h4 : vecS s' p' (p' + (uLeb l.length ++ l.flatMap encTy).length) 8 (tyRow s' (p' + (uLeb l.length ++ l.flatMap encTy).length)) = .ok (l, p' + (uLeb l.length ++ l.flatMap encTy).length) := h4
      show bindR (vecS s' p' _ 8 _) (fun x => .ok ({ M0 with types := pick x.1 M0.types }, ty0, x.2)) = _
      rw [bindR_ok h4]
      dsimp only
      rw [pick_some hl]
      rfl
  · show (secT 1 l.length (l.flatMap encTy)).length ≤ _
    by_cases hl : l.length = 0
    · rw [hl, secT_zero]; simp
    · rw [secT_some hl]
      exact body_len (by omega)
theorem sf2 (hs : e ≤ s.size) (hw : e - p < 4294967296) (hd : M.imports = []) (h : secS 2 s p e M ty = .ok (M1, ty1, r)) (hr : r = e) (hpe : p ≤ e) : SF 2 M M1 ty ty1 (e - p) := by
  have h : bindR (vecS s p e 4 (impRow s e)) (fun x => .ok ({ M with imports := pick x.1 M.imports }, ty, x.2)) = .ok (M1, ty1, r) := h
  obtain ⟨⟨l, q⟩, h1, h2⟩ := bindR_get h
  simp only [Except.ok.injEq, Prod.mk.injEq] at h2
  obtain ⟨rfl, rfl, rfl⟩ := h2
  obtain ⟨a1, a2, a3, a4⟩ := re_vec re_imp 4 s p e l q hs h1
  rw [hd, pick_nil]
  unfold encVec at a2 a3 a4
  refine ⟨?_, ?_, fun j h1 h2 => by
    have hj : j = 1 := by omega
    subst hj
    rfl, fun j h1 h2 hd => by
    have hj : j = 3 ∨ j = 4 ∨ j = 5 ∨ j = 6 ∨ j = 7 ∨ j = 8 ∨ j = 9 ∨ j = 10 ∨ j = 11 := by omega
    rcases hj with rfl | rfl | rfl | rfl | rfl | rfl | rfl | rfl | rfl <;> exact hd⟩
  · by_cases hl : l.length = 0
    · have := List.length_eq_zero_iff.1 hl
      subst this
      exact .inl ⟨rfl, rfl⟩
    · refine .inr ⟨uLeb l.length ++ l.flatMap encImp, secT_some hl _, by omega, a3, fun s' p' M0 ty0 hp hL hd0 _ => ?_⟩
      have h4 := a4 s' p' (p' + (uLeb l.length ++ l.flatMap encImp).length) hp hL (Nat.le_refl _)
      have h4 : vecS s' p' (p' + (uLeb l.length ++ l.flatMap encImp).length) 4 (impRow s' (p' + (uLeb l.length ++ l.flatMap encImp).length)) = .ok (l, p' + (uLeb l.length ++ l.flatMap encImp).length) := h4
      show bindR (vecS s' p' _ 4 _) (fun x => .ok ({ M0 with imports := pick x.1 M0.imports }, ty0, x.2)) = _
      rw [bindR_ok h4]
      dsimp only
      rw [pick_some hl]
      rfl
  · show (secT 2 l.length (l.flatMap encImp)).length ≤ _
    by_cases hl : l.length = 0
    · rw [hl, secT_zero]; simp
    · rw [secT_some hl]
      exact body_len (by omega)
theorem sf6 (hs : e ≤ s.size) (hw : e - p < 4294967296) (hd : M.globals = []) (h : secS 6 s p e M ty = .ok (M1, ty1, r)) (hr : r = e) (hpe : p ≤ e) : SF 6 M M1 ty ty1 (e - p) := by
  have h : bindR (vecS s p e 4 (globRow s e)) (fun x => .ok ({ M with globals := pick x.1 M.globals }, ty, x.2)) = .ok (M1, ty1, r) := h
  obtain ⟨⟨l, q⟩, h1, h2⟩ := bindR_get h
  simp only [Except.ok.injEq, Prod.mk.injEq] at h2
  obtain ⟨rfl, rfl, rfl⟩ := h2
  obtain ⟨a1, a2, a3, a4⟩ := re_vec re_glob 4 s p e l q hs h1
  rw [hd, pick_nil]
  unfold encVec at a2 a3 a4
  refine ⟨?_, ?_, fun j h1 h2 => by
    have hj : j = 1 ∨ j = 2 ∨ j = 3 ∨ j = 4 ∨ j = 5 := by omega
    rcases hj with rfl | rfl | rfl | rfl | rfl <;> rfl, fun j h1 h2 hd => by
    have hj : j = 7 ∨ j = 8 ∨ j = 9 ∨ j = 10 ∨ j = 11 := by omega
    rcases hj with rfl | rfl | rfl | rfl | rfl <;> exact hd⟩
  · by_cases hl : l.length = 0
    · have := List.length_eq_zero_iff.1 hl
      subst this
      exact .inl ⟨rfl, rfl⟩
    · refine .inr ⟨uLeb l.length ++ l.flatMap encGlob, secT_some hl _, by omega, a3, fun s' p' M0 ty0 hp hL hd0 _ => ?_⟩
      have h4 := a4 s' p' (p' + (uLeb l.length ++ l.flatMap encGlob).length) hp hL (Nat.le_refl _)
      have h4 : vecS s' p' (p' + (uLeb l.length ++ l.flatMap encGlob).length) 4 (globRow s' (p' + (uLeb l.length ++ l.flatMap encGlob).length)) = .ok (l, p' + (uLeb l.length ++ l.flatMap encGlob).length) := h4
      show bindR (vecS s' p' _ 4 _) (fun x => .ok ({ M0 with globals := pick x.1 M0.globals }, ty0, x.2)) = _
      rw [bindR_ok h4]
      dsimp only
      rw [pick_some hl]
      rfl
  · show (secT 6 l.length (l.flatMap encGlob)).length ≤ _
    by_cases hl : l.length = 0
    · rw [hl, secT_zero]; simp
    · rw [secT_some hl]
      exact body_len (by omega)
theorem sf7 (hs : e ≤ s.size) (hw : e - p < 4294967296) (hd : M.exports = []) (h : secS 7 s p e M ty = .ok (M1, ty1, r)) (hr : r = e) (hpe : p ≤ e) : SF 7 M M1 ty ty1 (e - p) := by
  have h : bindR (vecS s p e 6 (expRow s e)) (fun x => .ok ({ M with exports := pick x.1 M.exports }, ty, x.2)) = .ok (M1, ty1, r) := h
  obtain ⟨⟨l, q⟩, h1, h2⟩ := bindR_get h
  simp only [Except.ok.injEq, Prod.mk.injEq] at h2
  obtain ⟨rfl, rfl, rfl⟩ := h2
  obtain ⟨a1, a2, a3, a4⟩ := re_vec re_exp 6 s p e l q hs h1
  rw [hd, pick_nil]
  unfold encVec at a2 a3 a4
  refine ⟨?_, ?_, fun j h1 h2 => by
    have hj : j = 1 ∨ j = 2 ∨ j = 3 ∨ j = 4 ∨ j = 5 ∨ j = 6 := by omega
    rcases hj with rfl | rfl | rfl | rfl | rfl | rfl <;> rfl, fun j h1 h2 hd => by
    have hj : j = 8 ∨ j = 9 ∨ j = 10 ∨ j = 11 := by omega
    rcases hj with rfl | rfl | rfl | rfl <;> exact hd⟩
  · by_cases hl : l.length = 0
    · have := List.length_eq_zero_iff.1 hl
      subst this
      exact .inl ⟨rfl, rfl⟩
    · refine .inr ⟨uLeb l.length ++ l.flatMap encExp, secT_some hl _, by omega, a3, fun s' p' M0 ty0 hp hL hd0 _ => ?_⟩
      have h4 := a4 s' p' (p' + (uLeb l.length ++ l.flatMap encExp).length) hp hL (Nat.le_refl _)
      have h4 : vecS s' p' (p' + (uLeb l.length ++ l.flatMap encExp).length) 6 (expRow s' (p' + (uLeb l.length ++ l.flatMap encExp).length)) = .ok (l, p' + (uLeb l.length ++ l.flatMap encExp).length) := h4
      show bindR (vecS s' p' _ 6 _) (fun x => .ok ({ M0 with exports := pick x.1 M0.exports }, ty0, x.2)) = _
      rw [bindR_ok h4]
      dsimp only
      rw [pick_some hl]
      rfl
  · show (secT 7 l.length (l.flatMap encExp)).length ≤ _
    by_cases hl : l.length = 0
    · rw [hl, secT_zero]; simp
    · rw [secT_some hl]
      exact body_len (by omega)
theorem sf9 (hs : e ≤ s.size) (hw : e - p < 4294967296) (hd : M.elems = []) (h : secS 9 s p e M ty = .ok (M1, ty1, r)) (hr : r = e) (hpe : p ≤ e) : SF 9 M M1 ty ty1 (e - p) := by
  have h : bindR (vecS s p e 3 (elmRow s e)) (fun x => .ok ({ M with elems := pick x.1 M.elems }, ty, x.2)) = .ok (M1, ty1, r) := h
  obtain ⟨⟨l, q⟩, h1, h2⟩ := bindR_get h
  simp only [Except.ok.injEq, Prod.mk.injEq] at h2
  obtain ⟨rfl, rfl, rfl⟩ := h2
  obtain ⟨a1, a2, a3, a4⟩ := re_vec re_elm 3 s p e l q hs h1
  rw [hd, pick_nil]
  unfold encVec at a2 a3 a4
  refine ⟨?_, ?_, fun j h1 h2 => by
    have hj : j = 1 ∨ j = 2 ∨ j = 3 ∨ j = 4 ∨ j = 5 ∨ j = 6 ∨ j = 7 ∨ j = 8 := by omega
    rcases hj with rfl | rfl | rfl | rfl | rfl | rfl | rfl | rfl <;> rfl, fun j h1 h2 hd => by
    have hj : j = 10 ∨ j = 11 := by omega
    rcases hj with rfl | rfl <;> exact hd⟩
  · by_cases hl : l.length = 0
    · have := List.length_eq_zero_iff.1 hl
      subst this
      exact .inl ⟨rfl, rfl⟩
    · refine .inr ⟨uLeb l.length ++ l.flatMap encElm, secT_some hl _, by omega, a3, fun s' p' M0 ty0 hp hL hd0 _ => ?_⟩
      have h4 := a4 s' p' (p' + (uLeb l.length ++ l.flatMap encElm).length) hp hL (Nat.le_refl _)
      have h4 : vecS s' p' (p' + (uLeb l.length ++ l.flatMap encElm).length) 3 (elmRow s' (p' + (uLeb l.length ++ l.flatMap encElm).length)) = .ok (l, p' + (uLeb l.length ++ l.flatMap encElm).length) := h4
      show bindR (vecS s' p' _ 3 _) (fun x => .ok ({ M0 with elems := pick x.1 M0.elems }, ty0, x.2)) = _
      rw [bindR_ok h4]
      dsimp only
      rw [pick_some hl]
      rfl
  · show (secT 9 l.length (l.flatMap encElm)).length ≤ _
    by_cases hl : l.length = 0
    · rw [hl, secT_zero]; simp
    · rw [secT_some hl]
      exact body_len (by omega)
theorem sf11 (hs : e ≤ s.size) (hw : e - p < 4294967296) (hd : M.datas = []) (h : secS 11 s p e M ty = .ok (M1, ty1, r)) (hr : r = e) (hpe : p ≤ e) : SF 11 M M1 ty ty1 (e - p) := by
  have h : bindR (vecS s p e 3 (datRow s e)) (fun x => .ok ({ M with datas := pick x.1 M.datas }, ty, x.2)) = .ok (M1, ty1, r) := h
  obtain ⟨⟨l, q⟩, h1, h2⟩ := bindR_get h
  simp only [Except.ok.injEq, Prod.mk.injEq] at h2
  obtain ⟨rfl, rfl, rfl⟩ := h2
  obtain ⟨a1, a2, a3, a4⟩ := re_vec re_dat 3 s p e l q hs h1
  rw [hd, pick_nil]
  unfold encVec at a2 a3 a4
  refine ⟨?_, ?_, fun j h1 h2 => by
    have hj : j = 1 ∨ j = 2 ∨ j = 3 ∨ j = 4 ∨ j = 5 ∨ j = 6 ∨ j = 7 ∨ j = 8 ∨ j = 9 ∨ j = 10 := by omega
    rcases hj with rfl | rfl | rfl | rfl | rfl | rfl | rfl | rfl | rfl | rfl <;> rfl, fun j h1 h2 => by omega⟩
  · by_cases hl : l.length = 0
    · have := List.length_eq_zero_iff.1 hl
      subst this
      exact .inl ⟨rfl, rfl⟩
    · refine .inr ⟨uLeb l.length ++ l.flatMap encDat, secT_some hl _, by omega, a3, fun s' p' M0 ty0 hp hL hd0 _ => ?_⟩
      have h4 := a4 s' p' (p' + (uLeb l.length ++ l.flatMap encDat).length) hp hL (Nat.le_refl _)
      have h4 : vecS s' p' (p' + (uLeb l.length ++ l.flatMap encDat).length) 3 (datRow s' (p' + (uLeb l.length ++ l.flatMap encDat).length)) = .ok (l, p' + (uLeb l.length ++ l.flatMap encDat).length) := h4
      show bindR (vecS s' p' _ 3 _) (fun x => .ok ({ M0 with datas := pick x.1 M0.datas }, ty0, x.2)) = _
      rw [bindR_ok h4]
      dsimp only
      rw [pick_some hl]
      rfl
  · show (secT 11 l.length (l.flatMap encDat)).length ≤ _
    by_cases hl : l.length = 0
    · rw [hl, secT_zero]; simp
    · rw [secT_some hl]
      exact body_len (by omega)
theorem sf3 (hs : e ≤ s.size) (hw : e - p < 4294967296) (hd : ty = []) (h : secS 3 s p e M ty = .ok (M1, ty1, r)) (hr : r = e) (hpe : p ≤ e) : SF 3 M M1 ty ty1 (e - p) := by
  have h : bindR (vecS s p e 8 (tiRow s e)) (fun x => .ok (M, x.1, x.2)) = .ok (M1, ty1, r) := h
  obtain ⟨⟨l, q⟩, h1, h2⟩ := bindR_get h
  simp only [Except.ok.injEq, Prod.mk.injEq] at h2
  obtain ⟨rfl, rfl, rfl⟩ := h2
  obtain ⟨a1, a2, a3, a4⟩ := re_vec re_ti 8 s p e l q hs h1
  unfold encVec at a2 a3 a4
  refine ⟨?_, ?_, fun j h1 h2 => by
    have hj : j = 1 ∨ j = 2 := by omega
    rcases hj with rfl | rfl <;> rfl, fun j h1 h2 hd => by
    have hj : j = 4 ∨ j = 5 ∨ j = 6 ∨ j = 7 ∨ j = 8 ∨ j = 9 ∨ j = 10 ∨ j = 11 := by omega
    rcases hj with rfl | rfl | rfl | rfl | rfl | rfl | rfl | rfl <;> exact hd⟩
  · by_cases hl : l.length = 0
    · have := List.length_eq_zero_iff.1 hl
      subst this
      exact .inl ⟨rfl, rfl⟩
    · refine .inr ⟨uLeb l.length ++ l.flatMap encI32, secT_some hl _, by omega, a3, fun s' p' M0 ty0 hp hL hd0 _ => ?_⟩
      have h4 := a4 s' p' (p' + (uLeb l.length ++ l.flatMap encI32).length) hp hL (Nat.le_refl _)
      have h4 : vecS s' p' (p' + (uLeb l.length ++ l.flatMap encI32).length) 8 (tiRow s' (p' + (uLeb l.length ++ l.flatMap encI32).length)) = .ok (l, p' + (uLeb l.length ++ l.flatMap encI32).length) := h4
      show bindR (vecS s' p' _ 8 _) (fun x => .ok (M0, x.1, x.2)) = _
      rw [bindR_ok h4]
      rfl
  · show (secT 3 l.length (l.flatMap encI32)).length ≤ _
    by_cases hl : l.length = 0
    · rw [hl, secT_zero]; simp
    · rw [secT_some hl]
      exact body_len (by omega)
theorem limitsS_lo {s : ByteArray} {p e : Nat} {x : Int × Int} {r : Nat} (h : limitsS s p e = .ok (x, r)) : 0 ≤ x.1 := by
  unfold limitsS at h
  split at h
  · simp at h
  · split at h
    · simp at h
    · rename_i lo q hu
      have := (u32S_ok hu).1
      split at h
      · simp at h; rw [← h.1]; exact this.1
      · split at h
        · simp at h
        · simp at h; rw [← h.1]; exact this.1
theorem one_one : uLeb 1 = [1] := uLeb_lt (by decide)
theorem count_one {s : ByteArray} {p e : Nat} (h : Lies s p [1]) (he : p + 1 ≤ e) : countS s p e 1 = .ok (1, p + 1) := by
  have := u32S_leb (s := s) (x := 1) (q := p) (e := e) (by decide) (by rw [one_one]; exact h) (by rw [one_one]; exact he)
  rw [one_one] at this
  unfold countS
  rw [this]
  rfl
theorem sf4 (hs : e ≤ s.size) (hw : e - p < 4294967296) (hd : M.tabMin = -1 ∧ M.tabMax = -1) (h : secS 4 s p e M ty = .ok (M1, ty1, r)) (hr : r = e) (hpe : p ≤ e) : SF 4 M M1 ty ty1 (e - p) := by
  have h : bindR (countS s p e 1) (fun n => if n.1 = 1 then bindR (fixedS s n.2 e 112) fun a => bindR (limitsS s a.2 e) fun x => .ok ({ M with tabMin := x.1.1, tabMax := x.1.2 }, ty, x.2) else .ok (M, ty, n.2)) = .ok (M1, ty1, r) := h
  obtain ⟨⟨n, q⟩, h1, h2⟩ := bindR_get h
  dsimp only at h2
  split at h2
  · obtain ⟨⟨u, q1⟩, h3, h4⟩ := bindR_get h2
    obtain ⟨⟨x, q2⟩, h5, h6⟩ := bindR_get h4
    dsimp only at h5 h6
    simp only [Except.ok.injEq, Prod.mk.injEq] at h6
    obtain ⟨rfl, rfl, rfl⟩ := h6
    have hq := (countS_ok h1).2
    obtain ⟨a1, a2, a3, a4⟩ := re_fixed 112 s q e u q1 hs h3
    obtain ⟨b1, b2, b3, b4⟩ := re_limits s q1 e x q2 hs h5
    have hx := limitsS_lo h5
    dsimp only at a2
    simp only [List.length_singleton] at a2
    have et : secTx 4 { M with tabMin := x.1, tabMax := x.2 } ty = 4 :: (uLeb (1 :: 112 :: encLim x).length ++ (1 :: 112 :: encLim x)) := by
      show (if 0 ≤ x.1 then secT 4 1 (112 :: encLim (x.1, x.2)) else []) = _
      rw [if_pos hx, secT_some (by decide), one_one]
      rfl
    refine ⟨?_, ?_, fun j h1 h2 => by
    have hj : j = 1 ∨ j = 2 ∨ j = 3 := by omega
    rcases hj with rfl | rfl | rfl <;> rfl, fun j h1 h2 hd => by
    have hj : j = 5 ∨ j = 6 ∨ j = 7 ∨ j = 8 ∨ j = 9 ∨ j = 10 ∨ j = 11 := by omega
    rcases hj with rfl | rfl | rfl | rfl | rfl | rfl | rfl <;> exact hd⟩
    · refine .inr ⟨_, et, by simp only [List.length_cons]; omega, ?_, fun s' p' M0 ty0 hp hL hd0 _ => ?_⟩
      · intro b hb
        rcases List.mem_cons.1 hb with hb | hb
        · omega
        rcases List.mem_cons.1 hb with hb | hb
        · omega
        · exact b3 b hb
      · obtain ⟨l1, l2⟩ := hL.cons
        obtain ⟨l3, l4⟩ := l2.cons
        simp only [List.length_cons] at hp ⊢
        show bindR (countS s' p' _ 1) (fun n => if n.1 = 1 then bindR (fixedS s' n.2 _ 112) fun a => bindR (limitsS s' a.2 _) fun x => .ok ({ M0 with tabMin := x.1.1, tabMax := x.1.2 }, ty0, x.2) else .ok (M0, ty0, n.2)) = _
        rw [bindR_ok (count_one (fun j y hy => by
          cases j with
          | zero => simp at hy; rw [← hy]; exact l1
          | succ j => simp at hy) (by omega))]
        dsimp only
        rw [if_pos rfl]
        have h7 := a4 s' (p' + 1) (p' + ((encLim x).length + 1 + 1)) hp (fun j y hy => by
          cases j with
          | zero => simp at hy; rw [← hy]; exact l3
          | succ j => simp at hy) (by simp only [List.length_singleton]; omega)
        dsimp only at h7
        simp only [List.length_singleton] at h7
        rw [bindR_ok h7]
        dsimp only
        rw [bindR_ok (b4 s' (p' + 1 + 1) _ hp l4 (by omega))]
        simp only [show p' + 1 + 1 + (encLim x).length = p' + ((encLim x).length + 1 + 1) by omega]
        rfl
    · rw [et]
      exact body_len (by simp only [List.length_cons]; omega)
  · simp only [Except.ok.injEq, Prod.mk.injEq] at h2
    obtain ⟨rfl, rfl, rfl⟩ := h2
    have et : secTx 4 M ty = [] := by show (if 0 ≤ M.tabMin then _ else []) = _; rw [if_neg (by omega)]
    exact ⟨.inl ⟨et, hd⟩, by rw [et]; simp, fun _ _ _ => rfl, fun _ _ _ hd => hd⟩
theorem sf5 (hs : e ≤ s.size) (hw : e - p < 4294967296) (hd : M.memMin = -1 ∧ M.memMax = -1) (h : secS 5 s p e M ty = .ok (M1, ty1, r)) (hr : r = e) (hpe : p ≤ e) : SF 5 M M1 ty ty1 (e - p) := by
  have h : bindR (countS s p e 1) (fun n => if n.1 = 1 then bindR (limitsS s n.2 e) fun x => .ok ({ M with memMin := x.1.1, memMax := x.1.2 }, ty, x.2) else .ok (M, ty, n.2)) = .ok (M1, ty1, r) := h
  obtain ⟨⟨n, q⟩, h1, h2⟩ := bindR_get h
  dsimp only at h2
  split at h2
  · obtain ⟨⟨x, q2⟩, h5, h6⟩ := bindR_get h2
    dsimp only at h5 h6
    simp only [Except.ok.injEq, Prod.mk.injEq] at h6
    obtain ⟨rfl, rfl, rfl⟩ := h6
    have hq := (countS_ok h1).2
    obtain ⟨b1, b2, b3, b4⟩ := re_limits s q e x q2 hs h5
    have hx := limitsS_lo h5
    have et : secTx 5 { M with memMin := x.1, memMax := x.2 } ty = 5 :: (uLeb (1 :: encLim x).length ++ (1 :: encLim x)) := by
      show (if 0 ≤ x.1 then secT 5 1 (encLim (x.1, x.2)) else []) = _
      rw [if_pos hx, secT_some (by decide), one_one]
      rfl
    refine ⟨?_, ?_, fun j h1 h2 => by
    have hj : j = 1 ∨ j = 2 ∨ j = 3 ∨ j = 4 := by omega
    rcases hj with rfl | rfl | rfl | rfl <;> rfl, fun j h1 h2 hd => by
    have hj : j = 6 ∨ j = 7 ∨ j = 8 ∨ j = 9 ∨ j = 10 ∨ j = 11 := by omega
    rcases hj with rfl | rfl | rfl | rfl | rfl | rfl <;> exact hd⟩
    · refine .inr ⟨_, et, by simp only [List.length_cons]; omega, ?_, fun s' p' M0 ty0 hp hL hd0 _ => ?_⟩
      · intro b hb
        rcases List.mem_cons.1 hb with hb | hb
        · omega
        · exact b3 b hb
      · obtain ⟨l1, l2⟩ := hL.cons
        simp only [List.length_cons] at hp ⊢
        show bindR (countS s' p' _ 1) (fun n => if n.1 = 1 then bindR (limitsS s' n.2 _) fun x => .ok ({ M0 with memMin := x.1.1, memMax := x.1.2 }, ty0, x.2) else .ok (M0, ty0, n.2)) = _
        rw [bindR_ok (count_one (fun j y hy => by
          cases j with
          | zero => simp at hy; rw [← hy]; exact l1
          | succ j => simp at hy) (by omega))]
        dsimp only
        rw [if_pos rfl]
        rw [bindR_ok (b4 s' (p' + 1) _ hp l2 (by omega))]
        simp only [show p' + 1 + (encLim x).length = p' + ((encLim x).length + 1) by omega]
        rfl
    · rw [et]
      exact body_len (by simp only [List.length_cons]; omega)
  · simp only [Except.ok.injEq, Prod.mk.injEq] at h2
    obtain ⟨rfl, rfl, rfl⟩ := h2
    have et : secTx 5 M ty = [] := by show (if 0 ≤ M.memMin then _ else []) = _; rw [if_neg (by omega)]
    exact ⟨.inl ⟨et, hd⟩, by rw [et]; simp, fun _ _ _ => rfl, fun _ _ _ hd => hd⟩
theorem sf8 (hs : e ≤ s.size) (hw : e - p < 4294967296) (hd : M.start = -1) (h : secS 8 s p e M ty = .ok (M1, ty1, r)) (hr : r = e) (hpe : p ≤ e) : SF 8 M M1 ty ty1 (e - p) := by
  have h : bindR (u32S s p e) (fun x => .ok ({ M with start := x.1 }, ty, x.2)) = .ok (M1, ty1, r) := h
  obtain ⟨⟨x, q⟩, h1, h2⟩ := bindR_get h
  simp only [Except.ok.injEq, Prod.mk.injEq] at h2
  obtain ⟨rfl, rfl, rfl⟩ := h2
  obtain ⟨a1, a2, a3, a4⟩ := re_u32 s p e x q hs h1
  have hx := (u32S_ok h1).1
  have et : secTx 8 { M with start := x } ty = 8 :: (uLeb (uLeb x.toNat).length ++ uLeb x.toNat) := by
    show (if 0 ≤ x then _ else []) = _
    rw [if_pos hx.1]
  unfold encI32 at a2 a3 a4
  refine ⟨?_, ?_, fun j h1 h2 => by
    have hj : j = 1 ∨ j = 2 ∨ j = 3 ∨ j = 4 ∨ j = 5 ∨ j = 6 ∨ j = 7 := by omega
    rcases hj with rfl | rfl | rfl | rfl | rfl | rfl | rfl <;> rfl, fun j h1 h2 hd => by
    have hj : j = 9 ∨ j = 10 ∨ j = 11 := by omega
    rcases hj with rfl | rfl | rfl <;> exact hd⟩
  · refine .inr ⟨_, et, by omega, a3, fun s' p' M0 ty0 hp hL hd0 _ => ?_⟩
    show bindR (u32S s' p' _) (fun x => .ok ({ M0 with start := x.1 }, ty0, x.2)) = _
    rw [bindR_ok (a4 s' p' _ hp hL (Nat.le_refl _))]
    rfl
  · rw [et]
    exact body_len (by omega)
theorem sf10 (hs : e ≤ s.size) (hw : e - p < 4294967296) (hd : M.funcs = []) (h : secS 10 s p e M ty = .ok (M1, ty1, r)) (hr : r = e) (hpe : p ≤ e) : SF 10 M M1 ty ty1 (e - p) ∧ M1.funcs.map Fn.ty = ty1 := by
  have h : bindR (countS s p e 8) (fun n => if n.1 = ty.length then bindR (fnsL s e ty n.2 []) fun x => .ok ({ M with funcs := pick x.1 M.funcs }, ty, x.2) else .error (12, p)) = .ok (M1, ty1, r) := h
  obtain ⟨⟨n, q⟩, h1, h2⟩ := bindR_get h
  dsimp only at h2
  split at h2
  · rename_i hn
    obtain ⟨⟨l, q2⟩, h5, h6⟩ := bindR_get h2
    simp only [Except.ok.injEq, Prod.mk.injEq] at h6
    obtain ⟨rfl, rfl, rfl⟩ := h6
    obtain ⟨a1, a2, a3, a4⟩ := re_count 8 s p e n q hs h1
    obtain ⟨new, b1, b2, b3, b4, b5, b6⟩ := re_fns ty s q e _ _ _ hs h5
    rw [List.nil_append] at b1
    subst b1
    have hq := countS_ok h1
    have hlen : l.length = ty.length := by rw [← b2, List.length_map]
    have hnl : n.toNat = l.length := by omega
    unfold encI32 at a2 a3 a4
    rw [hnl] at a2 a3 a4
    rw [hd, pick_nil]
    refine ⟨⟨?_, ?_, fun j h1 h2 => by
    have hj : j = 1 ∨ j = 2 ∨ j = 3 ∨ j = 4 ∨ j = 5 ∨ j = 6 ∨ j = 7 ∨ j = 8 ∨ j = 9 := by omega
    rcases hj with rfl | rfl | rfl | rfl | rfl | rfl | rfl | rfl | rfl <;> rfl, fun j h1 h2 hd => by
    have hj : j = 11 := by omega
    subst hj
    exact hd⟩, b2⟩
    · by_cases hl : l.length = 0
      · have := List.length_eq_zero_iff.1 hl
        subst this
        exact .inl ⟨rfl, rfl⟩
      · refine .inr ⟨uLeb l.length ++ l.flatMap encFn, secT_some hl _, by rw [List.length_append]; omega, ?_, fun s' p' M0 ty0 hp hL hd0 h10 => ?_⟩
        · intro b hb
          rcases List.mem_append.1 hb with hb | hb
          · exact a3 b hb
          · exact b5 b hb
        · have := h10 rfl
          subst this
          obtain ⟨l1, l2⟩ := hL.app
          rw [List.length_append] at hp ⊢
          have h7 := a4 s' p' (p' + ((uLeb l.length).length + (l.flatMap encFn).length)) hp l1 (by omega)
          dsimp only at h7
          have h8 := b6 s' _ (p' + ((uLeb l.length).length + (l.flatMap encFn).length)) [] hp l2 (by omega)
          show bindR (countS s' p' _ 8) (fun n => if n.1 = ty0.length then bindR (fnsL s' _ ty0 n.2 []) fun x => .ok ({ M0 with funcs := pick x.1 M0.funcs }, ty0, x.2) else .error (12, p')) = _
          rw [bindR_ok h7]
          dsimp only
          rw [if_pos hn, bindR_ok h8]
          dsimp only
          rw [List.nil_append, pick_some hl, if_neg (by decide), show p' + (uLeb l.length).length + (l.flatMap encFn).length = p' + ((uLeb l.length).length + (l.flatMap encFn).length) by omega]
          rfl
    · show (secT 10 l.length (l.flatMap encFn)).length ≤ _
      by_cases hl : l.length = 0
      · rw [hl, secT_zero]; simp
      · rw [secT_some hl]
        exact body_len (by rw [List.length_append]; omega)
  · simp at h2
end
end Go.Proofs.Qxb6500275aGreatDoor
