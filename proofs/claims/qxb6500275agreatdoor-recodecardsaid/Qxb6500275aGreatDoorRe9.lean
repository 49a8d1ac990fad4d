import Derived.Test.Qxb6500275aGreatDoorRe8
set_option linter.unusedVariables false
set_option linter.unusedSimpArgs false
namespace Go.Proofs.Qxb6500275aGreatDoor
open Go Go.RowKit
/- the last k sections' texts -/
def secTT (M : Mod) (ty : List Int) : Nat → List Nat
  | 0 => []
  | k + 1 => secTx (11 - k) M ty ++ secTT M ty k
theorem secDf_tx {i : Nat} (h1 : 1 ≤ i) (h11 : i ≤ 11) {M : Mod} {ty : List Int} (h : secDf i M ty) : secTx i M ty = [] := by
  rcases lt12 h1 h11 with rfl | rfl | rfl | rfl | rfl | rfl | rfl | rfl | rfl | rfl | rfl
  · have h : M.types = [] := h
    show secT 1 M.types.length _ = []; rw [h]; rfl
  · have h : M.imports = [] := h
    show secT 2 M.imports.length _ = []; rw [h]; rfl
  · have h : ty = [] := h
    show secT 3 ty.length _ = []; rw [h]; rfl
  · have h : M.tabMin = -1 ∧ M.tabMax = -1 := h
    show (if 0 ≤ M.tabMin then _ else []) = []; rw [if_neg (by omega)]
  · have h : M.memMin = -1 ∧ M.memMax = -1 := h
    show (if 0 ≤ M.memMin then _ else []) = []; rw [if_neg (by omega)]
  · have h : M.globals = [] := h
    show secT 6 M.globals.length _ = []; rw [h]; rfl
  · have h : M.exports = [] := h
    show secT 7 M.exports.length _ = []; rw [h]; rfl
  · have h : M.start = -1 := h
    show (if 0 ≤ M.start then _ else []) = []; rw [if_neg (by omega)]
  · have h : M.elems = [] := h
    show secT 9 M.elems.length _ = []; rw [h]; rfl
  · have h : M.funcs = [] := h
    show secT 10 M.funcs.length _ = []; rw [h]; rfl
  · have h : M.datas = [] := h
    show secT 11 M.datas.length _ = []; rw [h]; rfl
theorem secTT_skip {M : Mod} {ty : List Int} : ∀ (d k : Nat), k + d ≤ 11 → (∀ i, 11 - (k + d) < i → i ≤ 11 - k → secTx i M ty = []) → secTT M ty (k + d) = secTT M ty k
  | 0, k, _, _ => rfl
  | d + 1, k, hk, h => by
    show secTx (11 - (k + d)) M ty ++ secTT M ty (k + d) = _
    rw [h (11 - (k + d)) (by omega) (by omega), List.nil_append, secTT_skip d k (by omega) (fun i h1 h2 => h i (by omega) h2)]
theorem sf_all {s : ByteArray} {p e r id : Nat} {M M1 : Mod} {ty ty1 : List Int} (h1 : 1 ≤ id) (h11 : id ≤ 11) (hs : e ≤ s.size) (hw : e - p < 4294967296) (hd : secDf id M ty) (h : secS id s p e M ty = .ok (M1, ty1, r)) (hr : r = e) (hpe : p ≤ e) :
    SF id M M1 ty ty1 (e - p) ∧ (id = 10 → M1.funcs.map Fn.ty = ty1) := by
  rcases lt12 h1 h11 with rfl | rfl | rfl | rfl | rfl | rfl | rfl | rfl | rfl | rfl | rfl
  · exact ⟨sf1 hs hw hd h hr hpe, fun e => by omega⟩
  · exact ⟨sf2 hs hw hd h hr hpe, fun e => by omega⟩
  · exact ⟨sf3 hs hw hd h hr hpe, fun e => by omega⟩
  · exact ⟨sf4 hs hw hd h hr hpe, fun e => by omega⟩
  · exact ⟨sf5 hs hw hd h hr hpe, fun e => by omega⟩
  · exact ⟨sf6 hs hw hd h hr hpe, fun e => by omega⟩
  · exact ⟨sf7 hs hw hd h hr hpe, fun e => by omega⟩
  · exact ⟨sf8 hs hw hd h hr hpe, fun e => by omega⟩
  · exact ⟨sf9 hs hw hd h hr hpe, fun e => by omega⟩
  · obtain ⟨a, b⟩ := sf10 hs hw hd h hr hpe
    exact ⟨a, fun _ => b⟩
  · exact ⟨sf11 hs hw hd h hr hpe, fun e => by omega⟩
theorem pt10 {M M' : Mod} {ty ty' : List Int} (h : secPt 10 M' ty' = secPt 10 M ty) : M'.funcs = M.funcs ∧ ty' = ty := by
  have h1 := congrArg Prod.fst h
  have h2 := congrArg Prod.snd h
  have h3 : (secPt 10 M' ty').1.funcs = (secPt 10 M ty).1.funcs := by rw [h1]
  exact ⟨h3, h2⟩
theorem secs_back {s : ByteArray} (hz : s.size < 4294967296) : ∀ (n last q : Nat) (M : Mod) (ty : List Int) (M' : Mod) (ty' : List Int) (r : Nat), secsL s n last q M ty = .ok (M', ty', r) → q ≤ s.size → last ≤ 11 → (∀ i, last < i → i ≤ 11 → secDf i M ty) →
    q ≤ r ∧ r ≤ s.size ∧ (∀ i, 1 ≤ i → i ≤ last → secPt i M' ty' = secPt i M ty) ∧ (∀ i, last < i → i ≤ 11 → Fact i M' ty') ∧ (secTT M' ty' (11 - last)).length ≤ r - q ∧ (last < 10 → M'.funcs = [] ∨ M'.funcs.map Fn.ty = ty') := by
  intro n
  induction n with
  | zero => intro last q M ty M' ty' r h; simp [secsL] at h
  | succ n ih =>
    intro last q M ty M' ty' r h hq hl hd
    unfold secsL at h
    split at h
    · rename_i hqs
      obtain ⟨⟨id, q1⟩, h1, h2⟩ := bindR_get h
      dsimp only at h2
      split at h2
      · simp at h2
      · rename_i hid
        obtain ⟨⟨a1, a2⟩, h3, h4⟩ := bindR_get h2
        obtain ⟨⟨M1, ty1, x2⟩, h5, h6⟩ := bindR_get h4
        dsimp only at h5 h6
        split at h6
        · rename_i hx
          have hq1 : q1 = q + 1 := by
            unfold nextS at h1
            rw [if_pos hqs] at h1
            simp only [Except.ok.injEq, Prod.mk.injEq] at h1
            exact h1.2.symm
          obtain ⟨e1, e2, e3, e4, e5⟩ := enterS_get h3
          obtain ⟨hsf, h10⟩ := sf_all (by omega) (by omega) e3 (by omega) (hd id (by omega) (by omega)) h5 hx e2
          obtain ⟨i1, i2, i3, i4, i5, i6⟩ := ih id x2 M1 ty1 M' ty' r h6 (by omega) (by omega) (fun i hi hi11 => hsf.high i hi hi11 (hd i (by omega) hi11))
          have hpt : ∀ i, 1 ≤ i → i < id → secPt i M' ty' = secPt i M ty := fun i a b => (i3 i a (by omega)).trans (hsf.low i a b)
          have hdf : ∀ i, last < i → i < id → secDf i M' ty' := fun i a b => by
            rw [secDf_pt (by omega) (by omega), hpt i (by omega) b, ← secDf_pt (by omega) (by omega)]
            exact hd i a (by omega)
          have hfid : Fact id M' ty' := hsf.fact.same (by omega) (by omega) (i3 id (by omega) (Nat.le_refl _)).symm
          have htx : secTx id M' ty' = secTx id M1 ty1 := by
            rw [secTx_pt (by omega) (by omega) M' ty', i3 id (by omega) (Nat.le_refl _), ← secTx_pt (by omega) (by omega)]
          refine ⟨by omega, i2, fun i a b => hpt i a (by omega), fun i a b => ?_, ?_, fun hl10 => ?_⟩
          · by_cases h7 : id < i
            · exact i4 i h7 b
            · by_cases h8 : i = id
              · rw [h8]; exact hfid
              · have := hdf i a (by omega)
                exact .inl ⟨secDf_tx (by omega) (by omega) this, this⟩
          · have hsk : secTT M' ty' (11 - last) = secTx id M' ty' ++ secTT M' ty' (11 - id) := by
              have := secTT_skip (M := M') (ty := ty') (id - 1 - last) (11 - (id - 1)) (by omega) (fun i a b => secDf_tx (by omega) (by omega) (hdf i (by omega) (by omega)))
              rw [show 11 - (id - 1) + (id - 1 - last) = 11 - last by omega] at this
              rw [this, show 11 - (id - 1) = (11 - id) + 1 by omega]
              show secTx (11 - (11 - id)) M' ty' ++ _ = _
              rw [show 11 - (11 - id) = id by omega]
            rw [hsk, List.length_append, htx]
            have := hsf.len
            omega
          · by_cases h7 : id < 10
            · exact i6 h7
            · by_cases h8 : id = 10
              · obtain ⟨f1, f2⟩ := pt10 (h8 ▸ i3 id (by omega) (Nat.le_refl _) : secPt 10 M' ty' = secPt 10 M1 ty1)
                right
                rw [f1, f2]
                exact h10 h8
              · left
                exact hdf 10 hl10 (by omega)
        · simp at h6
    · simp at h
      obtain ⟨rfl, rfl, rfl⟩ := h
      refine ⟨Nat.le_refl _, hq, fun i _ _ => rfl, fun i a b => .inl ⟨secDf_tx (by omega) b (hd i a b), hd i a b⟩, ?_, fun h => .inl (hd 10 h (by omega))⟩
      have := secTT_skip (M := M) (ty := ty) (11 - last) 0 (by omega) (fun i a b => secDf_tx (by omega) (by omega) (hd i (by omega) (by omega)))
      rw [Nat.zero_add] at this
      rw [this]
      simp [secTT]
/- READING IT ALL AGAIN -/
def secMM (M : Mod) : Nat → Mod → Mod
  | 0, M0 => M0
  | k + 1, M0 => secMM M k (secUp (11 - k) M0 M)
theorem secMM_all (M : Mod) : secMM M 11 Mod.empty = M := by cases M; rfl
theorem secDf_up {i j : Nat} (hj : 1 ≤ j) (hij : j < i) (hi : i ≤ 11) {M0 M : Mod} {ty0 ty1 : List Int} (h : secDf i M0 ty0) (ht : i = 3 → ty1 = ty0) : secDf i (secUp j M0 M) ty1 := by
  rcases lt12 (by omega : 1 ≤ i) hi with rfl | rfl | rfl | rfl | rfl | rfl | rfl | rfl | rfl | rfl | rfl <;>
  rcases lt12 hj (by omega) with rfl | rfl | rfl | rfl | rfl | rfl | rfl | rfl | rfl | rfl | rfl <;> first | omega | exact h | (rw [ht rfl]; exact h)
theorem secUp_df {i : Nat} (h1 : 1 ≤ i) (h11 : i ≤ 11) {M0 M : Mod} {ty0 ty : List Int} (h : secDf i M ty) (h0 : secDf i M0 ty0) : secUp i M0 M = M0 := by
  cases M0
  cases M
  rcases lt12 h1 h11 with rfl | rfl | rfl | rfl | rfl | rfl | rfl | rfl | rfl | rfl | rfl <;> simp_all [secUp, secDf]
theorem secs_fwd {s : ByteArray} {M : Mod} {ty : List Int} : ∀ (k q : Nat) (M0 : Mod) (ty0 : List Int), k ≤ 11 → (∀ i, 11 - k < i → i ≤ 11 → Fact i M ty) → (∀ i, 11 - k < i → i ≤ 11 → secDf i M0 ty0) → (11 - k < 3 ∨ ty0 = ty) → Lies s q (secTT M ty k) → q + (secTT M ty k).length = s.size →
    ∀ last, last ≤ 11 - k → PSec s q last M0 ty0 (.ok (secMM M k M0, ty, s.size))
  | 0, q, M0, ty0, _, _, _, ht, _, he, last, _ => by
    rcases ht with h | h
    · omega
    · subst h
      simp [secTT] at he
      have := ps_end (s := s) (q := q) (last := last) (M := M0) (ty := ty0) he
      rw [he] at this ⊢
      exact this
  | k + 1, q, M0, ty0, hk, hf, hd, ht, hl, he, last, hlast => by
    have hi := hf (11 - k) (by omega) (by omega)
    have hdi := hd (11 - k) (by omega) (by omega)
    have hl : Lies s q (secTx (11 - k) M ty ++ secTT M ty k) := hl
    have he : q + (secTx (11 - k) M ty ++ secTT M ty k).length = s.size := he
    obtain ⟨l1, l2⟩ := hl.app
    rw [List.length_append] at he
    rcases hi with ⟨f1, f2⟩ | ⟨body, f1, f2, f3, f4⟩
    · rw [f1] at l2 he
      have hup : secUp (11 - k) M0 M = M0 := secUp_df (by omega) (by omega) f2 hdi
      have ht' : 11 - k < 3 ∨ ty0 = ty := by
        rcases ht with h | h
        · by_cases h3 : 11 - k = 3
          · rw [h3] at f2 hdi
            have a : ty = [] := f2
            have b : ty0 = [] := hdi
            exact .inr (b.trans a.symm)
          · exact .inl (by omega)
        · exact .inr h
      have := secs_fwd k q M0 ty0 (by omega) (fun i a b => hf i (by omega) b) (fun i a b => hd i (by omega) b) ht' (by simpa using l2) (by simpa using he) last (by omega)
      show PSec s q last M0 ty0 (.ok (secMM M k (secUp (11 - k) M0 M), ty, s.size))
      rw [hup]
      exact this
    · rw [f1] at l1 l2 he
      have h10 : 11 - k = 10 → ty0 = ty := fun h => by
        rcases ht with h2 | h2
        · omega
        · exact h2
      obtain ⟨m1, m2⟩ := l1.cons
      obtain ⟨m3, m4⟩ := m2.app
      have hsec := f4 s (q + 1 + (uLeb body.length).length) M0 ty0 (by simp only [List.length_cons, List.length_append] at he; omega) m4 hdi h10
      refine ps_step (by omega) (by omega) f2 l1 (by omega) hsec ?_
      refine secs_fwd k _ (secUp (11 - k) M0 M) _ (by omega) (fun i a b => hf i (by omega) b) (fun i a b => secDf_up (by omega) (by omega) b (hd i (by omega) b) (fun h3 => by rw [if_neg (by omega)])) ?_ l2 (by omega) _ (Nat.le_refl _)
      by_cases h3 : 11 - k = 3
      · right; rw [if_pos h3]
      · rw [if_neg h3]
        rcases ht with h | h
        · exact .inl (by omega)
        · exact .inr h
def encMod (M : Mod) : List Nat := [0, 97, 115, 109, 1, 0, 0, 0] ++ secTT M (M.funcs.map Fn.ty) 11
def magicB : ByteArray := ⟨#[0, 97, 115, 109, 1, 0, 0, 0]⟩
theorem bytesOf_sz (l : List Nat) : (bytesOf l).size = l.length := by
  unfold bytesOf
  show (l.map UInt8.ofNat).toArray.size = _
  simp
theorem bytesOf_lies {l : List Nat} (h : ∀ x ∈ l, x < 256) : Lies (bytesOf l) 0 l := by
  intro i x hx
  have hn := natsOf_bytesOf h
  have hi : i < (bytesOf l).size := by
    rw [bytesOf_sz]
    rcases Nat.lt_or_ge i l.length with h | h
    · exact h
    · rw [List.getElem?_eq_none h] at hx; simp at hx
  have := natsOf_get (bytesOf l) i hi
  rw [hn, hx] at this
  rw [Nat.zero_add]
  simpa using this.symm
theorem secTT_by {M : Mod} {ty : List Int} (hf : ∀ i, 1 ≤ i → i ≤ 11 → Fact i M ty) : ∀ k, k ≤ 11 → ∀ b ∈ secTT M ty k, b < 256
  | 0, _, b, h => by simp [secTT] at h
  | k + 1, hk, b, h => by
    have h : b ∈ secTx (11 - k) M ty ++ secTT M ty k := h
    rcases List.mem_append.1 h with h | h
    · rcases hf (11 - k) (by omega) (by omega) with ⟨f1, _⟩ | ⟨body, f1, f2, f3, _⟩
      · rw [f1] at h; simp at h
      · rw [f1] at h
        rcases List.mem_cons.1 h with h | h
        · omega
        · rcases List.mem_append.1 h with h | h
          · exact uLeb_by _ b h
          · exact f3 b h
    · exact secTT_by hf k (by omega) b h
theorem secDf_empty (i : Nat) (h1 : 1 ≤ i) (h11 : i ≤ 11) : secDf i Mod.empty [] := by
  rcases lt12 h1 h11 with rfl | rfl | rfl | rfl | rfl | rfl | rfl | rfl | rfl | rfl | rfl <;> first | rfl | exact ⟨rfl, rfl⟩
/- THE LAW: a module's shortest text is no longer than the text it was read from, and reads as the module -/
theorem decode_encode {s : ByteArray} {M : Mod} (h : decodeS s = .ok M) : (encMod M).length ≤ s.size ∧ (∀ b ∈ encMod M, b < 256) ∧ decodeS (bytesOf (encMod M)) = .ok M := by
  unfold decodeS at h
  split at h
  · simp at h
  rename_i hz
  split at h
  · simp at h
  rename_i h8
  split at h
  · obtain ⟨⟨M', ty', r⟩, h1, h2⟩ := bindR_get h
    dsimp only at h2
    split at h2
    · rename_i hlen
      simp only [Except.ok.injEq] at h2
      subst h2
      obtain ⟨b1, b2, b3, b4, b5, b6⟩ := secs_back (by omega) _ _ _ _ _ _ _ _ h1 (by omega) (by omega) (fun i a b => secDf_empty i (by omega) b)
      have hty : M'.funcs.map Fn.ty = ty' := by
        rcases b6 (by omega) with h | h
        · rw [h] at hlen ⊢
          simp at hlen
          rw [hlen]; rfl
        · exact h
      have hb : ∀ b ∈ encMod M', b < 256 := by
        intro b hb
        unfold encMod at hb
        rcases List.mem_append.1 hb with hb | hb
        · simp at hb; omega
        · rw [hty] at hb
          exact secTT_by (fun i a c => b4 i (by omega) c) 11 (by omega) b hb
      have hL := bytesOf_lies hb
      have hS := bytesOf_sz (encMod M')
      have hle : (encMod M').length ≤ s.size := by
        unfold encMod
        rw [List.length_append, hty]
        simp only [List.length_cons, List.length_nil]
        have b5 : (secTT M' ty' 11).length ≤ r - 8 := b5
        omega
      refine ⟨hle, hb, ?_⟩
      have hel : (encMod M').length = 8 + (secTT M' ty' 11).length := by unfold encMod; rw [List.length_append, hty]; rfl
      generalize bytesOf (encMod M') = s' at hL hS
      unfold encMod at hL
      rw [hty] at hL
      obtain ⟨l1, l2⟩ := hL.app
      unfold decodeS
      rw [if_neg (by omega), if_neg (by omega)]
      have hm : s'.extract 0 (0 + magicB.size) = magicB := lies_extract l1 (by show 0 + 8 ≤ _; omega)
      have hm : s'.extract 0 8 = magicB := hm
      rw [hm, if_pos (by decide +kernel)]
      have hps := secs_fwd (s := s') (M := M') (ty := ty') 11 8 Mod.empty [] (by omega) (fun i a c => b4 i (by omega) c) (fun i a c => secDf_empty i (by omega) c) (.inl (by omega)) l2 (by omega) 0 (by omega) (s'.size - 8 + 1) (by omega)
      rw [bindR_ok hps, secMM_all]
      dsimp only
      rw [if_pos hlen]
    · simp at h2
  · simp at h
end Go.Proofs.Qxb6500275aGreatDoor
