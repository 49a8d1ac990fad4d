import Derived.Test.Qxb6500275aGreatDoorRe4
set_option linter.unusedVariables false
set_option linter.unusedSimpArgs false
namespace Go.Proofs.Qxb6500275aGreatDoor
open Go Go.RowKit
/- AN INSTRUCTION's OPERANDS -/
def encA (i : Ins) (tabs : List Int) : List Nat :=
  if i.op = 2 ∨ i.op = 3 ∨ i.op = 4 then [i.x.toNat]
  else if i.op = 12 ∨ i.op = 13 ∨ i.op = 16 ∨ i.op = 32 ∨ i.op = 33 ∨ i.op = 34 ∨ i.op = 35 ∨ i.op = 36 then encI32 i.x
  else if i.op = 14 then uLeb (i.y - 1).toNat ++ ((tabs.drop i.x.toNat).take i.y.toNat).flatMap encI32
  else if i.op = 17 then encI32 i.x ++ [0]
  else if i.op = 63 ∨ i.op = 64 then [0]
  else if 65 ≤ i.op ∧ i.op ≤ 68 then encC i.op i.y
  else if 40 ≤ i.op ∧ i.op ≤ 62 then encI32 i.x ++ encI32 i.y
  else []
def encX (tabs : List Int) (i : Ins) : List Nat := i.op :: encA i tabs
/- labels -/
theorem re_tabs : ∀ (n : Nat) (s : ByteArray) (p e : Nat) (l l' : List Int) (r : Nat), e ≤ s.size → tabsL s e n p l = .ok (r, l') →
    ∃ new, l' = l ++ new ∧ new.length = n ∧ p ≤ r ∧ (new.flatMap encI32).length ≤ r - p ∧ (∀ b ∈ new.flatMap encI32, b < 256) ∧ ∀ s' p' e', e' ≤ s'.size → Lies s' p' (new.flatMap encI32) → p' + (new.flatMap encI32).length ≤ e' → ∀ acc, tabsL s' e' n p' acc = .ok (p' + (new.flatMap encI32).length, acc ++ new) := by
  intro n
  induction n with
  | zero =>
    intro s p e l l' r hs h
    simp [tabsL] at h
    obtain ⟨rfl, rfl⟩ := h
    exact ⟨[], by simp, rfl, Nat.le_refl _, by simp, by simp, fun s' p' e' _ _ _ acc => by simp [tabsL]⟩
  | succ n ih =>
    intro s p e l l' r hs h
    unfold tabsL at h
    split at h
    · simp at h
    · rename_i x q h1
      obtain ⟨a1, a2, a3, a4⟩ := re_u32 s p e x q hs h1
      obtain ⟨new, b1, b2, b3, b4, b5, b6⟩ := ih s q e _ _ _ hs h
      refine ⟨x :: new, by rw [b1]; simp, by simp [b2], by omega, by simp only [List.flatMap_cons, List.length_append]; omega, ?_, fun s' p' e' hs' hl hle acc => ?_⟩
      · intro b hb
        rw [List.flatMap_cons] at hb
        rcases List.mem_append.1 hb with hb | hb
        · exact a3 b hb
        · exact b5 b hb
      · rw [List.flatMap_cons] at hl hle ⊢
        obtain ⟨l1, l2⟩ := hl.app
        rw [List.length_append] at hle ⊢
        unfold tabsL
        rw [a4 s' p' e' hs' l1 (by omega)]
        dsimp only
        rw [b6 s' _ e' hs' l2 (by omega)]
        simp only [List.append_assoc, List.cons_append, List.nil_append]
        congr 2
        omega
/- what is read behind an opcode -/
structure RI (s : ByteArray) (p op : Nat) (tabs : List Int) (i : Ins) (r : Nat) (t : List Int) : Prop where
  hop : i.op = op
  pre : ∃ u, t = tabs ++ u
  tab : i.op = 14 → i.x.toNat + i.y.toNat ≤ t.length
  le : p ≤ r
  len : (encA i t).length ≤ r - p
  byt : ∀ b ∈ encA i t, b < 256
  fwd : ∀ s' p' e' at', e' ≤ s'.size → Lies s' p' (encA i t) → p' + (encA i t).length ≤ e' → restS s' p' e' op at' tabs = .ok (i, p' + (encA i t).length, t)
section
variable {s : ByteArray} {p e op at_ r : Nat} {tabs t : List Int} {i : Ins}
theorem ri_none (h : encA ⟨op, 0, 0⟩ tabs = []) (h14 : op ≠ 14) (hf : ∀ s' p' e' at', restS s' p' e' op at' tabs = .ok (⟨op, 0, 0⟩, p', tabs)) : RI s p op tabs ⟨op, 0, 0⟩ p tabs :=
  ⟨rfl, ⟨[], by simp⟩, fun e => absurd e h14, Nat.le_refl _, by rw [h]; simp, by rw [h]; simp, fun s' p' e' at' _ _ _ => by rw [h, hf]; rfl⟩
theorem rest_ri (hs : e ≤ s.size) (h : restS s p e op at_ tabs = .ok (i, r, t)) : RI s p op tabs i r t := by
  unfold restS at h
  by_cases h1 : op = 0 ∨ op = 1 ∨ op = 5 ∨ op = 11 ∨ op = 15 ∨ op = 26 ∨ op = 27
  · rw [if_pos h1] at h
    simp at h
    obtain ⟨rfl, rfl, rfl⟩ := h
    refine ri_none ?_ (by omega) (fun s' p' e' at' => by unfold restS; rw [if_pos h1])
    unfold encA
    dsimp only
    rw [if_neg (by omega), if_neg (by omega), if_neg (by omega), if_neg (by omega), if_neg (by omega), if_neg (by omega), if_neg (by omega)]
  rw [if_neg h1] at h
  by_cases h2 : op = 2 ∨ op = 3 ∨ op = 4
  · rw [if_pos h2] at h
    unfold blkS at h
    split at h
    · rename_i hp
      split at h
      · rename_i hb
        simp at h
        obtain ⟨rfl, rfl, rfl⟩ := h
        have ea : encA ⟨op, bAt s p, 0⟩ tabs = [bAt s p] := by unfold encA; rw [if_pos h2]; simp
        refine ⟨rfl, ⟨[], by simp⟩, fun e => by dsimp only at e; omega, by omega, by rw [ea]; simp, by rw [ea]; intro b hb; simp at hb; subst hb; exact bAt_lt s p, fun s' p' e' at' hs' hl hle => ?_⟩
        rw [ea] at hl hle ⊢
        have hc := hl 0 _ rfl
        rw [Nat.add_zero] at hc
        simp only [List.length_singleton] at hle ⊢
        unfold restS blkS
        rw [if_neg h1, if_pos h2, if_pos (by omega), hc, if_pos hb]
      · simp at h
    · simp at h
  rw [if_neg h2] at h
  by_cases h3 : op = 12 ∨ op = 13 ∨ op = 16 ∨ op = 32 ∨ op = 33 ∨ op = 34 ∨ op = 35 ∨ op = 36
  · rw [if_pos h3] at h
    unfold idxS at h
    split at h
    · simp at h
    · rename_i x q hu
      simp at h
      obtain ⟨rfl, rfl, rfl⟩ := h
      obtain ⟨a1, a2, a3, a4⟩ := re_u32 s p e x q hs hu
      have ea : encA ⟨op, x, 0⟩ tabs = encI32 x := by unfold encA; rw [if_neg h2, if_pos h3]
      refine ⟨rfl, ⟨[], by simp⟩, fun e => by dsimp only at e; omega, a1, by rw [ea]; exact a2, by rw [ea]; exact a3, fun s' p' e' at' hs' hl hle => ?_⟩
      rw [ea] at hl hle ⊢
      unfold restS idxS
      rw [if_neg h1, if_neg h2, if_pos h3, a4 s' p' e' hs' hl hle]
  rw [if_neg h3] at h
  by_cases h4 : op = 14
  · rw [if_pos h4] at h
    unfold tableS2 at h
    split at h
    · simp at h
    · rename_i k q hc
      split at h
      · simp at h
      · rename_i r1 t1 ht
        simp at h
        obtain ⟨rfl, rfl, rfl⟩ := h
        obtain ⟨a1, a2, a3, a4⟩ := re_count _ s p e k q hs hc
        have hk := (countS_ok hc).1
        obtain ⟨new, b1, b2, b3, b4, b5, b6⟩ := re_tabs _ s q e _ _ _ hs ht
        subst b1
        have ea : encA ⟨op, tabs.length, k + 1⟩ (tabs ++ new) = uLeb k.toNat ++ new.flatMap encI32 := by
          unfold encA
          dsimp only
          rw [if_neg h2, if_neg h3, if_pos h4, show k + 1 - 1 = k by omega, Int.toNat_natCast, List.drop_left, show (k + 1).toNat = new.length by omega, List.take_length]
        unfold encI32 at a2 a3 a4
        refine ⟨rfl, ⟨new, rfl⟩, fun _ => by dsimp only; rw [List.length_append, Int.toNat_natCast]; omega, by omega, by rw [ea, List.length_append]; unfold encI32 at b4 ⊢; omega, ?_, fun s' p' e' at' hs' hl hle => ?_⟩
        · rw [ea]
          intro b hb
          rcases List.mem_append.1 hb with hb | hb
          · exact a3 b hb
          · exact b5 b hb
        · rw [ea] at hl hle ⊢
          obtain ⟨l1, l2⟩ := hl.app
          rw [List.length_append] at hle ⊢
          unfold restS tableS2
          have h5 := a4 s' p' e' hs' l1 (by omega)
          dsimp only at h5
          rw [if_neg h1, if_neg h2, if_neg h3, if_pos h4, h5]
          dsimp only
          rw [b6 s' _ e' hs' l2 (by omega)]
          dsimp only
          congr 3
          omega
  rw [if_neg h4] at h
  by_cases h5 : op = 17
  · rw [if_pos h5] at h
    unfold ciS at h
    split at h
    · simp at h
    · rename_i x q hu
      split at h
      · simp at h
      · rename_i z r1 hz
        simp at h
        obtain ⟨rfl, rfl, rfl⟩ := h
        obtain ⟨a1, a2, a3, a4⟩ := re_u32 s p e x q hs hu
        obtain ⟨b1, b2, b3, b4⟩ := re_fixed 0 s q e z _ hs hz
        dsimp only at b2
        have ea : encA ⟨op, x, 0⟩ tabs = encI32 x ++ [0] := by unfold encA; rw [if_neg h2, if_neg h3, if_neg h4, if_pos h5]
        refine ⟨rfl, ⟨[], by simp⟩, fun e => by dsimp only at e; omega, by omega, by rw [ea, List.length_append]; omega, ?_, fun s' p' e' at' hs' hl hle => ?_⟩
        · rw [ea]
          intro b hb
          rcases List.mem_append.1 hb with hb | hb
          · exact a3 b hb
          · exact b3 b hb
        · rw [ea] at hl hle ⊢
          obtain ⟨l1, l2⟩ := hl.app
          rw [List.length_append] at hle ⊢
          unfold restS ciS
          rw [if_neg h1, if_neg h2, if_neg h3, if_neg h4, if_pos h5, a4 s' p' e' hs' l1 (by omega)]
          dsimp only
          have h6 := b4 s' _ e' hs' l2 (by omega)
          dsimp only at h6
          rw [h6]
          dsimp only
          congr 3
  rw [if_neg h5] at h
  by_cases h6 : op = 63 ∨ op = 64
  · rw [if_pos h6] at h
    unfold zeroS at h
    split at h
    · simp at h
    · rename_i z r1 hz
      simp at h
      obtain ⟨rfl, rfl, rfl⟩ := h
      obtain ⟨b1, b2, b3, b4⟩ := re_fixed 0 s p e z _ hs hz
      have ea : encA ⟨op, 0, 0⟩ tabs = [0] := by unfold encA; rw [if_neg h2, if_neg h3, if_neg h4, if_neg h5, if_pos h6]
      refine ⟨rfl, ⟨[], by simp⟩, fun e => by dsimp only at e; omega, by omega, by rw [ea]; exact b2, by rw [ea]; exact b3, fun s' p' e' at' hs' hl hle => ?_⟩
      rw [ea] at hl hle ⊢
      unfold restS zeroS
      have h7 := b4 s' p' e' hs' hl hle
      dsimp only at h7
      rw [if_neg h1, if_neg h2, if_neg h3, if_neg h4, if_neg h5, if_pos h6, h7]
  rw [if_neg h6] at h
  by_cases h7 : 65 ≤ op ∧ op ≤ 68
  · rw [if_pos h7] at h
    unfold constS at h
    split at h
    · simp at h
    · rename_i y q hc
      simp at h
      obtain ⟨rfl, rfl, rfl⟩ := h
      obtain ⟨b1, b2, b3, b4⟩ := re_c op s p e y q hs hc
      have ea : encA ⟨op, 0, y⟩ tabs = encC op y := by unfold encA; rw [if_neg h2, if_neg h3, if_neg h4, if_neg h5, if_neg h6, if_pos h7]
      refine ⟨rfl, ⟨[], by simp⟩, fun e => by dsimp only at e; omega, by omega, by rw [ea]; exact b2, by rw [ea]; exact b3, fun s' p' e' at' hs' hl hle => ?_⟩
      rw [ea] at hl hle ⊢
      unfold restS constS
      have h8 := b4 s' p' e' hs' hl hle
      dsimp only at h8
      rw [if_neg h1, if_neg h2, if_neg h3, if_neg h4, if_neg h5, if_neg h6, if_pos h7, h8]
  rw [if_neg h7] at h
  by_cases h8 : 40 ≤ op ∧ op ≤ 62
  · rw [if_pos h8] at h
    unfold ldstS at h
    split at h
    · simp at h
    · rename_i x q hu
      split at h
      · simp at h
      · rename_i y r1 hz
        simp at h
        obtain ⟨rfl, rfl, rfl⟩ := h
        obtain ⟨a1, a2, a3, a4⟩ := re_u32 s p e x q hs hu
        obtain ⟨b1, b2, b3, b4⟩ := re_u32 s q e y _ hs hz
        have ea : encA ⟨op, x, y⟩ tabs = encI32 x ++ encI32 y := by unfold encA; rw [if_neg h2, if_neg h3, if_neg h4, if_neg h5, if_neg h6, if_neg h7, if_pos h8]
        refine ⟨rfl, ⟨[], by simp⟩, fun e => by dsimp only at e; omega, by omega, by rw [ea, List.length_append]; omega, ?_, fun s' p' e' at' hs' hl hle => ?_⟩
        · rw [ea]
          intro b hb
          rcases List.mem_append.1 hb with hb | hb
          · exact a3 b hb
          · exact b3 b hb
        · rw [ea] at hl hle ⊢
          obtain ⟨l1, l2⟩ := hl.app
          rw [List.length_append] at hle ⊢
          unfold restS ldstS
          rw [if_neg h1, if_neg h2, if_neg h3, if_neg h4, if_neg h5, if_neg h6, if_neg h7, if_pos h8, a4 s' p' e' hs' l1 (by omega)]
          dsimp only
          rw [b4 s' _ e' hs' l2 (by omega)]
          dsimp only
          congr 3
          omega
  rw [if_neg h8] at h
  by_cases h9 : 69 ≤ op ∧ op ≤ 191
  · rw [if_pos h9] at h
    simp at h
    obtain ⟨rfl, rfl, rfl⟩ := h
    refine ri_none ?_ (by omega) (fun s' p' e' at' => by unfold restS; rw [if_neg h1, if_neg h2, if_neg h3, if_neg h4, if_neg h5, if_neg h6, if_neg h7, if_neg h8, if_pos h9])
    unfold encA
    dsimp only
    rw [if_neg h2, if_neg h3, if_neg h4, if_neg h5, if_neg h6, if_neg h7, if_neg h8]
  rw [if_neg h9] at h
  simp at h
end
/- labels laid later change nothing -/
theorem encA_more {i : Ins} {t u : List Int} (h : i.op = 14 → i.x.toNat + i.y.toNat ≤ t.length) : encA i (t ++ u) = encA i t := by
  unfold encA
  by_cases h4 : i.op = 14
  · have hl := h h4
    rw [if_neg (by omega), if_neg (by omega), if_pos h4, if_neg (by omega), if_neg (by omega), if_pos h4, List.drop_append_of_le_length (by omega), List.take_append_of_le_length (by rw [List.length_drop]; omega)]
  · simp only [if_neg h4]
end Go.Proofs.Qxb6500275aGreatDoor
