import Derived.Test.Qxb6500275aGreatDoorRe6
import Derived.Test.Qxb6500275aGreatDoorDec1
set_option linter.unusedVariables false
set_option linter.unusedSimpArgs false
namespace Go.Proofs.Qxb6500275aGreatDoor
open Go Go.RowKit
theorem uLeb_mono : ∀ (b a : Nat), a ≤ b → (uLeb a).length ≤ (uLeb b).length := by
  intro b
  induction b using Nat.strongRecOn with
  | ind b ih =>
    intro a hab
    by_cases ha : a < 128
    · rw [uLeb_lt ha]; have := uLeb_pos b; simp only [List.length_singleton]; omega
    · rw [uLeb_ge ha, uLeb_ge (v := b) (by omega)]
      have := ih (b / 128) (by omega) (a / 128) (by omega)
      simp only [List.length_cons]; omega
/- A FUNCTION -/
def encIn (f : Fn) : List Nat := encLoc (natsOf f.locals) ++ f.body.flatMap (encX f.tabs)
def encFn (f : Fn) : List Nat := uLeb (encIn f).length ++ encIn f
theorem enterS_get {s : ByteArray} {p e a1 a2 : Nat} (h : enterS s p e = .ok (a1, a2)) : p < a1 ∧ a1 ≤ a2 ∧ a2 ≤ e ∧ (uLeb (a2 - a1)).length ≤ a1 - p ∧ a2 - a1 < 4294967296 := by
  unfold enterS at h
  split at h
  · simp at h
  · rename_i n q hu
    obtain ⟨h1, h2, h3, h4⟩ := u32S_len hu
    have h5 := u32S_ok hu
    split at h
    · simp at h
    · simp at h
      obtain ⟨rfl, rfl⟩ := h
      have : q + n.toNat - q = n.toNat := by omega
      rw [this]
      exact ⟨h2, by omega, by omega, h1, by omega⟩
theorem enterS_fwd {s : ByteArray} {p e n : Nat} (hn : n < 4294967296) (hl : Lies s p (uLeb n)) (hle : p + (uLeb n).length + n ≤ e) : enterS s p e = .ok (p + (uLeb n).length, p + (uLeb n).length + n) := by
  unfold enterS
  rw [u32S_leb hn hl (by omega)]
  dsimp only
  rw [if_neg (by omega)]
  simp
theorem re_fn (ty : Int) : Re (fun s p e => fnRow s e ty p) encFn := by
  intro s p e x r hs h
  have h : fnRow s e ty p = .ok (x, r) := h
  unfold fnRow at h
  obtain ⟨⟨a1, a2⟩, h1, h2⟩ := bindR_get h
  obtain ⟨⟨t, b2⟩, h3, h4⟩ := bindR_get h2
  obtain ⟨⟨ins, tabs, c2⟩, h5, h6⟩ := bindR_get h4
  dsimp only at h3 h5 h6
  split at h6
  · rename_i hc
    simp at h6
    obtain ⟨rfl, rfl⟩ := h6
    subst hc
    obtain ⟨e1, e2, e3, e4, e5⟩ := enterS_get h1
    obtain ⟨l1, l2, l3, l4⟩ := re_locals s a1 c2 t b2 (by omega) h3
    dsimp only at l1 l2 l3 l4
    unfold bodyS at h5
    obtain ⟨new, u, n1, n2, n3, n4, n5, n6⟩ := re_body _ s b2 c2 _ _ _ _ _ _ (by omega) h5
    rw [List.nil_append] at n1 n2
    replace n1 := n1.symm
    replace n2 := n2.symm
    subst n1 n2
    have ein : encIn ⟨ty, t, new, u⟩ = encLoc (natsOf t) ++ new.flatMap (encX u) := rfl
    have hlen : (encIn ⟨ty, t, new, u⟩).length ≤ c2 - a1 := by rw [ein, List.length_append]; omega
    have hmono := uLeb_mono _ _ hlen
    unfold encFn
    refine ⟨by omega, by rw [List.length_append]; omega, ?_, fun s' p' e' hs' hl hle => ?_⟩
    · intro b hb
      rcases List.mem_append.1 hb with hb | hb
      · exact uLeb_by _ b hb
      · rw [ein] at hb
        rcases List.mem_append.1 hb with hb | hb
        · exact l3 b hb
        · exact n5 b hb
    · obtain ⟨m1, m2⟩ := hl.app
      rw [List.length_append] at hle ⊢
      show fnRow s' e' ty p' = _
      unfold fnRow
      rw [bindR_ok (enterS_fwd (n := (encIn ⟨ty, t, new, u⟩).length) (by omega) m1 (by omega))]
      dsimp only
      generalize hq : p' + (uLeb (encIn ⟨ty, t, new, u⟩).length).length = q at *
      have hil : (encIn ⟨ty, t, new, u⟩).length = (encLoc (natsOf t)).length + (new.flatMap (encX u)).length := by rw [ein, List.length_append]
      rw [ein] at m2
      obtain ⟨m3, m4⟩ := m2.app
      rw [bindR_ok (l4 s' q (q + (encIn ⟨ty, t, new, u⟩).length) (by omega) m3 (by omega))]
      dsimp only
      unfold bodyS
      rw [bindR_ok (n6 s' (q + (encLoc (natsOf t)).length) (q + (encIn ⟨ty, t, new, u⟩).length) _ (by omega) m4 (by omega) (by omega))]
      dsimp only
      rw [if_pos (by omega)]
      congr 2
      omega
  · simp at h6
theorem re_fns : ∀ (ts : List Int) (s : ByteArray) (p e : Nat) (l l' : List Fn) (r : Nat), e ≤ s.size → fnsL s e ts p l = .ok (l', r) →
    ∃ new, l' = l ++ new ∧ new.map Fn.ty = ts ∧ p ≤ r ∧ (new.flatMap encFn).length ≤ r - p ∧ (∀ b ∈ new.flatMap encFn, b < 256) ∧ ∀ s' p' e' acc, e' ≤ s'.size → Lies s' p' (new.flatMap encFn) → p' + (new.flatMap encFn).length ≤ e' → fnsL s' e' ts p' acc = .ok (acc ++ new, p' + (new.flatMap encFn).length) := by
  intro ts
  induction ts with
  | nil =>
    intro s p e l l' r hs h
    simp [fnsL] at h
    obtain ⟨rfl, rfl⟩ := h
    exact ⟨[], by simp, rfl, Nat.le_refl _, by simp, by simp, fun s' p' e' acc _ _ _ => by simp [fnsL]⟩
  | cons t ts ih =>
    intro s p e l l' r hs h
    unfold fnsL at h
    obtain ⟨⟨x, q⟩, h1, h2⟩ := bindR_get h
    obtain ⟨a1, a2, a3, a4⟩ := re_fn t s p e x q hs h1
    have hty : x.ty = t := by
      unfold fnRow at h1
      obtain ⟨y1, _, h1⟩ := bindR_get h1
      obtain ⟨y2, _, h1⟩ := bindR_get h1
      obtain ⟨y3, _, h1⟩ := bindR_get h1
      split at h1
      · simp at h1; rw [← h1.1]
      · simp at h1
    obtain ⟨new, b1, b2, b3, b4, b5, b6⟩ := ih s q e _ _ _ hs h2
    refine ⟨x :: new, by rw [b1]; simp, by simp [b2, hty], by omega, by simp only [List.flatMap_cons, List.length_append]; omega, ?_, fun s' p' e' acc hs' hl hle => ?_⟩
    · intro b hb
      rw [List.flatMap_cons] at hb
      rcases List.mem_append.1 hb with hb | hb
      · exact a3 b hb
      · exact b5 b hb
    · rw [List.flatMap_cons] at hl hle ⊢
      obtain ⟨l1, l2⟩ := hl.app
      rw [List.length_append] at hle ⊢
      unfold fnsL
      have h4 := a4 s' p' e' hs' l1 (by omega)
      dsimp only at h4
      rw [bindR_ok h4]
      dsimp only
      rw [b6 s' _ e' (acc ++ [x]) hs' l2 (by omega)]
      simp only [List.append_assoc, List.cons_append, List.nil_append]
      congr 2
      omega
/- A SECTION's TEXT: left out where it has no rows -/
def secT (id n : Nat) (rows : List Nat) : List Nat := if n = 0 then [] else id :: (uLeb ((uLeb n).length + rows.length) ++ (uLeb n ++ rows))
/- one section read -/
def PSec (s : ByteArray) (q last : Nat) (M : Mod) (ty : List Int) (res : RM) : Prop := ∀ k, s.size - q < k → secsL s k last q M ty = res
theorem ps_end {s : ByteArray} {q last : Nat} {M : Mod} {ty : List Int} (h : q = s.size) : PSec s q last M ty (.ok (M, ty, q)) := by
  intro k hk
  obtain ⟨k, rfl⟩ : ∃ k', k = k' + 1 := ⟨k - 1, by omega⟩
  unfold secsL
  rw [if_neg (by omega)]
theorem ps_step {s : ByteArray} {q last id : Nat} {M M1 : Mod} {ty ty1 : List Int} {res : RM} {body : List Nat} (h1 : last < id) (h11 : id ≤ 11) (hb : body.length < 4294967296) (hl : Lies s q (id :: (uLeb body.length ++ body))) (hle : q + (id :: (uLeb body.length ++ body)).length ≤ s.size)
    (hsec : secS id s (q + 1 + (uLeb body.length).length) (q + 1 + (uLeb body.length).length + body.length) M ty = .ok (M1, ty1, q + 1 + (uLeb body.length).length + body.length))
    (hn : PSec s (q + (id :: (uLeb body.length ++ body)).length) id M1 ty1 res) : PSec s q last M ty res := by
  intro k hk
  obtain ⟨l1, l2⟩ := hl.cons
  obtain ⟨l3, l4⟩ := l2.app
  simp only [List.length_cons, List.length_append] at hle hn
  obtain ⟨k, rfl⟩ : ∃ k', k = k' + 1 := ⟨k - 1, by omega⟩
  unfold secsL
  rw [if_pos (by omega)]
  have hnx : nextS s q s.size = .ok (id, q + 1) := by unfold nextS; rw [if_pos (by omega), l1]
  rw [bindR_ok hnx]
  dsimp only
  rw [if_neg (by omega), bindR_ok (enterS_fwd (n := body.length) hb l3 (by omega))]
  dsimp only
  rw [bindR_ok hsec]
  dsimp only
  rw [if_pos rfl]
  have := hn k (by omega)
  rw [show q + 1 + (uLeb body.length).length + body.length = q + ((uLeb body.length).length + body.length + 1) by omega]
  exact this
end Go.Proofs.Qxb6500275aGreatDoor
