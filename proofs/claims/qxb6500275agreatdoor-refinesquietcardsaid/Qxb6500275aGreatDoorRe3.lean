import Derived.Test.Qxb6500275aGreatDoorRe2
import Derived.Test.Qxb6500275aGreatDoorSec0
set_option linter.unusedVariables false
set_option linter.unusedSimpArgs false
namespace Go.Proofs.Qxb6500275aGreatDoor
open Go Go.RowKit
/- THE BYTES OF A TEXT, AS NUMBERS -/
def natsOf (t : ByteArray) : List Nat := t.data.toList.map UInt8.toNat
theorem natsOf_len (t : ByteArray) : (natsOf t).length = t.size := by unfold natsOf; rw [List.length_map]; exact Array.length_toList
theorem natsOf_by (t : ByteArray) : ∀ b ∈ natsOf t, b < 256 := by
  intro b hb
  obtain ⟨c, _, rfl⟩ := List.mem_map.1 hb
  exact UInt8.toNat_lt c
theorem natsOf_get (t : ByteArray) (i : Nat) (h : i < t.size) : (natsOf t)[i]? = some (bAt t i) := by
  unfold natsOf bAt
  have hl : i < t.data.toList.length := by rw [Array.length_toList]; exact h
  rw [List.getElem?_map, List.getElem?_eq_getElem hl, List.getD_eq_getElem?_getD, List.getElem?_eq_getElem hl]
  rfl
theorem ba_ext {a b : ByteArray} (hs : a.size = b.size) (h : ∀ i, i < a.size → bAt a i = bAt b i) : a = b := by
  apply ByteArray.ext
  apply Array.ext
  · exact hs
  · intro i h1 h2
    have := h i h1
    rw [← bAt_get a i h1, ← bAt_get b i h2] at this
    exact UInt8.toNat_inj.1 this
theorem bAt_ext3 {s : ByteArray} {p n i : Nat} (hp : p + n ≤ s.size) (hi : i < n) : bAt (s.extract p (p + n)) i = bAt s (p + i) := by
  have h1 : i < (s.extract p (p + n)).size := by rw [ByteArray.size_extract]; omega
  rw [← bAt_get _ i h1, ← bAt_get s (p + i) (by omega), ByteArray.getElem_extract]
theorem lies_extract {s t : ByteArray} {p : Nat} (h : Lies s p (natsOf t)) (hp : p + t.size ≤ s.size) : s.extract p (p + t.size) = t := by
  refine ba_ext (by rw [ByteArray.size_extract]; omega) (fun i hi => ?_)
  have hi' : i < t.size := by rw [ByteArray.size_extract] at hi; omega
  rw [bAt_ext3 hp hi']
  exact h i _ (natsOf_get t i hi')
/- A READER AND THE WRITER OF WHAT IT READS: what was read, laid anew, is no longer and reads the same -/
def ReX {α : Type} (F : ByteArray → Nat → Nat → R α) (x : α) (l : List Nat) : Prop :=
  (∀ b ∈ l, b < 256) ∧ ∀ s p e, e ≤ s.size → Lies s p l → p + l.length ≤ e → F s p e = .ok (x, p + l.length)
def Re {α : Type} (F : ByteArray → Nat → Nat → R α) (enc : α → List Nat) : Prop :=
  ∀ s p e x r, e ≤ s.size → F s p e = .ok (x, r) → p ≤ r ∧ (enc x).length ≤ r - p ∧ ReX F x (enc x)
theorem Re.pure {α : Type} (y : α) : Re (fun _ p _ => .ok (y, p)) (fun _ => []) := by
  intro s p e x r he h
  simp only [Except.ok.injEq, Prod.mk.injEq] at h
  obtain ⟨rfl, rfl⟩ := h
  exact ⟨Nat.le_refl _, by simp, ⟨by simp, fun s p e _ _ _ => rfl⟩⟩
theorem Re.bind {α β : Type} {F : ByteArray → Nat → Nat → R α} {encF : α → List Nat} {G : α → ByteArray → Nat → Nat → R β} {enc2 : α → β → List Nat} {enc : β → List Nat}
    (hF : Re F encF) (hG : ∀ s p e a r, e ≤ s.size → F s p e = .ok (a, r) → Re (G a) (enc2 a)) (he : ∀ s p e a q y r, e ≤ s.size → F s p e = .ok (a, q) → G a s q e = .ok (y, r) → enc y = encF a ++ enc2 a y) :
    Re (fun s p e => bindR (F s p e) fun a => G a.1 s a.2 e) enc := by
  intro s p e y r hs h
  obtain ⟨⟨a, q⟩, h1, h2⟩ := bindR_get h
  obtain ⟨a1, a2, a3, a4⟩ := hF s p e a q hs h1
  obtain ⟨b1, b2, b3, b4⟩ := hG s p e a q hs h1 s q e y r hs h2
  have ey := he s p e a q y r hs h1 h2
  refine ⟨by omega, by rw [ey, List.length_append]; omega, ?_⟩
  rw [ey]
  refine ⟨fun b hb => ?_, fun s' p' e' hs' hl hle => ?_⟩
  · rcases List.mem_append.1 hb with hb | hb
    · exact a3 b hb
    · exact b3 b hb
  · obtain ⟨l1, l2⟩ := hl.app
    rw [List.length_append] at hle ⊢
    show bindR (F s' p' e') (fun a => G a.1 s' a.2 e') = _
    rw [bindR_ok (a4 s' p' e' hs' l1 (by omega))]
    dsimp only
    rw [b4 s' _ e' hs' l2 (by omega)]
    congr 2
    omega
theorem Re.congr {α : Type} {F F' : ByteArray → Nat → Nat → R α} {enc : α → List Nat} (h : Re F enc) (e : ∀ s p e, F' s p e = F s p e) : Re F' enc := by
  have : F' = F := by funext s p e'; exact e s p e'
  rw [this]; exact h
theorem Re.enc {α : Type} {F : ByteArray → Nat → Nat → R α} {enc enc' : α → List Nat} (h : Re F enc) (e : ∀ s p e x r, F s p e = .ok (x, r) → enc' x = enc x) : Re F enc' := by
  intro s p e' x r hs hx
  rw [e s p e' x r hx]
  exact h s p e' x r hs hx
def encI32 (x : Int) : List Nat := uLeb x.toNat
theorem re_u32 : Re u32S encI32 := by
  intro s p e x r hs h
  obtain ⟨h1, h2, h3, h4⟩ := u32S_len h
  refine ⟨by omega, h1, uLeb_by _, fun s' p' e' _ hl hle => ?_⟩
  have := u32S_leb (x := x.toNat) (by omega) hl hle
  rw [this, show ((x.toNat : Nat) : Int) = x by omega]
  rfl
theorem re_count (mx : Int) : Re (fun s p e => countS s p e mx) encI32 := by
  intro s p e x r hs h
  have hc := countS_ok h
  have h' : u32S s p e = .ok (x, r) := by
    dsimp only at h
    unfold countS at h
    split at h
    · simp at h
    · split at h
      · simp at h
      · rename_i n q hu _
        rw [hu]; exact h
  obtain ⟨a1, a2, a3, a4⟩ := re_u32 s p e x r hs h'
  refine ⟨a1, a2, a3, fun s' p' e' hs' hl hle => ?_⟩
  dsimp only
  unfold countS
  rw [a4 s' p' e' hs' hl hle]
  dsimp only
  rw [if_neg (by omega)]
theorem one_byte {α : Type} {F : ByteArray → Nat → Nat → R α} {enc : α → List Nat} (f : Nat → Option α) (hlt : ∀ s p e x r, F s p e = .ok (x, r) → p < e ∧ r = p + 1 ∧ f (bAt s p) = some x) (hb : ∀ c x, f c = some x → enc x = [c])
    (hF : ∀ s p e x, p < e → f (bAt s p) = some x → F s p e = .ok (x, p + 1)) : Re F enc := by
  intro s p e x r hs h
  obtain ⟨h1, h2, h3⟩ := hlt s p e x r h
  have he := hb _ _ h3
  rw [he]
  refine ⟨by omega, by simp; omega, ?_, fun s' p' e' hs' hl hle => ?_⟩
  · intro b hb
    simp only [List.mem_singleton] at hb
    subst hb
    exact bAt_lt s p
  · have hc := hl 0 _ rfl
    rw [Nat.add_zero] at hc
    simp only [List.length_singleton] at hle ⊢
    exact hF s' p' e' x (by omega) (by rw [hc]; exact h3)
theorem re_next : Re nextS (fun v => [v]) := by
  refine one_byte (fun c => some c) ?_ ?_ ?_
  · intro s p e x r h
    unfold nextS at h
    split at h
    · simp at h; obtain ⟨rfl, rfl⟩ := h; exact ⟨by assumption, rfl, rfl⟩
    · simp at h
  · intro c x h; simp at h; rw [h]
  · intro s p e x h1 h2
    simp at h2
    unfold nextS; rw [if_pos h1, h2]
theorem re_fixed (w : Nat) : Re (fun s p e => fixedS s p e w) (fun _ => [w]) := by
  refine one_byte (fun c => if c = w then some () else none) ?_ ?_ ?_
  · intro s p e x r h
    unfold fixedS at h
    split at h
    · split at h
      · simp at h; obtain ⟨_, rfl⟩ := h; rename_i a b; exact ⟨a, rfl, by rw [if_pos b]⟩
      · simp at h
    · simp at h
  · intro c x h
    split at h
    · rename_i hc; rw [hc]
    · simp at h
  · intro s p e x h1 h2
    split at h2
    · rename_i hc
      unfold fixedS; rw [if_pos h1, if_pos hc]
    · simp at h2
theorem re_flag (mx : Nat) : Re (fun s p e => flagS s p e mx) (fun v => [v]) := by
  refine one_byte (fun c => if mx < c then none else some c) ?_ ?_ ?_
  · intro s p e x r h
    unfold flagS at h
    split at h
    · split at h
      · simp at h
      · simp at h; obtain ⟨rfl, rfl⟩ := h; rename_i a b; exact ⟨a, rfl, by rw [if_neg b]⟩
    · simp at h
  · intro c x h
    split at h
    · simp at h
    · simp at h; rw [h]
  · intro s p e x h1 h2
    split at h2
    · simp at h2
    · simp at h2
      unfold flagS; rw [if_pos h1, if_neg (by assumption), h2]
theorem re_valtype : Re valtypeS (fun v => [v]) := by
  refine one_byte (fun c => if c < 124 ∨ 127 < c then none else some c) ?_ ?_ ?_
  · intro s p e x r h
    unfold valtypeS at h
    split at h
    · split at h
      · simp at h
      · simp at h; obtain ⟨rfl, rfl⟩ := h; rename_i a b; exact ⟨a, rfl, by rw [if_neg b]⟩
    · simp at h
  · intro c x h
    split at h
    · simp at h
    · simp at h; rw [h]
  · intro s p e x h1 h2
    split at h2
    · simp at h2
    · simp at h2
      unfold valtypeS; rw [if_pos h1, if_neg (by assumption), h2]
theorem takeS_get {s : ByteArray} {p e n : Nat} {x : ByteArray} {r : Nat} (hs : e ≤ s.size) (h : takeS s p e n = .ok (x, r)) : r = p + n ∧ x.size = n ∧ x = s.extract p (p + n) := by
  unfold takeS at h
  split at h
  · simp at h
  · rename_i hn
    simp at h
    obtain ⟨rfl, rfl⟩ := h
    refine ⟨rfl, ?_, rfl⟩
    rw [ByteArray.size_extract]; omega
theorem re_take (n : Nat) : Re (fun s p e => takeS s p e n) natsOf := by
  intro s p e x r hs h
  obtain ⟨h1, h2, h3⟩ := takeS_get hs h
  refine ⟨by omega, by rw [natsOf_len]; omega, natsOf_by x, fun s' p' e' hs' hl hle => ?_⟩
  rw [natsOf_len] at hle ⊢
  dsimp only
  unfold takeS
  rw [if_neg (by omega), ← h2, lies_extract hl (by omega)]
def encStr (t : ByteArray) : List Nat := uLeb t.size ++ natsOf t
theorem re_name : Re nameS encStr := by
  have h := Re.bind (enc := encStr) (re_count 8) (fun _ _ _ a _ _ _ => re_take a.toNat) (enc2 := fun _ => natsOf) (fun s p e a q y r hs h1 h2 => by
    obtain ⟨_, h3, _⟩ := takeS_get hs h2
    unfold encStr encI32
    rw [h3])
  exact h.congr (fun s p e => by unfold nameS bindR; cases countS s p e 8 <;> rfl)
/- value types -/
theorem valtypesL_iff {s : ByteArray} {e : Nat} : ∀ (n q : Nat), (∀ i, i < n → q + i < e ∧ 124 ≤ bAt s (q + i) ∧ bAt s (q + i) ≤ 127) → valtypesL s e n q = .ok (q + n)
  | 0, q, h => rfl
  | n + 1, q, h => by
    have h0 := h 0 (by omega)
    rw [Nat.add_zero] at h0
    unfold valtypesL valtypeS
    rw [if_pos h0.1, if_neg (by omega)]
    dsimp only
    rw [valtypesL_iff n (q + 1) (fun i hi => by have := h (i + 1) (by omega); rwa [show q + 1 + i = q + (i + 1) by omega])]
    congr 1; omega
theorem valtypesL_get {s : ByteArray} {e : Nat} : ∀ (n q r : Nat), valtypesL s e n q = .ok r → r = q + n ∧ ∀ i, i < n → q + i < e ∧ 124 ≤ bAt s (q + i) ∧ bAt s (q + i) ≤ 127
  | 0, q, r, h => by simp [valtypesL] at h; exact ⟨by omega, fun i hi => by omega⟩
  | n + 1, q, r, h => by
    unfold valtypesL valtypeS at h
    split at h
    · simp at h
    · rename_i v r1 hv
      split at hv
      · split at hv
        · simp at hv
        · simp at hv
          obtain ⟨rfl, rfl⟩ := hv
          obtain ⟨h1, h2⟩ := valtypesL_get n _ _ h
          refine ⟨by omega, fun i hi => ?_⟩
          cases i with
          | zero => rw [Nat.add_zero]; refine ⟨by assumption, by omega, by omega⟩
          | succ i => have := h2 i (by omega); rwa [show q + (i + 1) = q + 1 + i by omega]
      · simp at hv
theorem re_valtypes (mx : Int) : Re (fun s p e => valtypesS s p e mx) encStr := by
  intro s p e x r hs h
  dsimp only at h
  unfold valtypesS at h
  split at h
  · simp at h
  · rename_i n q hc
    split at h
    · simp at h
    · rename_i r1 hv
      simp at h
      obtain ⟨rfl, rfl⟩ := h
      obtain ⟨a1, a2, a3, a4⟩ := re_count mx s p e n q hs hc
      obtain ⟨b1, b2⟩ := valtypesL_get _ _ _ hv
      have hn := (countS_ok hc).1
      have hqe : n.toNat = 0 ∨ q + n.toNat ≤ e := by
        rcases Nat.eq_zero_or_pos n.toNat with h | h
        · exact .inl h
        · have := (b2 (n.toNat - 1) (by omega)).1
          exact .inr (by omega)
      have hsz : (s.extract q r1).size = n.toNat := by
        rw [ByteArray.size_extract]; omega
      unfold encStr
      refine ⟨by omega, ?_, ?_, fun s' p' e' hs' hl hle => ?_⟩
      · rw [List.length_append, natsOf_len, hsz]
        unfold encI32 at a2
        omega
      · intro b hb
        rcases List.mem_append.1 hb with hb | hb
        · exact uLeb_by _ b hb
        · exact natsOf_by _ b hb
      · obtain ⟨l1, l2⟩ := hl.app
        rw [List.length_append, natsOf_len] at hle ⊢
        rw [hsz] at l1 l2 hle ⊢
        dsimp only
        unfold valtypesS
        have h4 := a4 s' p' e' hs' l1 (by unfold encI32; omega)
        dsimp only at h4
        rw [h4]
        dsimp only
        unfold encI32
        have hby : ∀ i, i < n.toNat → bAt s' (p' + (uLeb n.toNat).length + i) = bAt s (q + i) := fun i hi => by
          have h5 := l2 i _ (natsOf_get _ i (by rw [hsz]; exact hi))
          rw [h5, b1, bAt_ext3 (by omega) hi]
        rw [valtypesL_iff n.toNat _ (fun i hi => by
          have := b2 i hi
          rw [hby i hi]
          exact ⟨by omega, this.2⟩)]
        dsimp only
        have : s'.extract (p' + (uLeb n.toNat).length) (p' + (uLeb n.toNat).length + n.toNat) = s.extract q r1 := by
          have h6 := lies_extract (t := s.extract q r1) l2 (by rw [hsz]; omega)
          rw [hsz] at h6
          exact h6
        rw [this]
        congr 2
        omega
def encLim (x : Int × Int) : List Nat := if x.2 < 0 then 0 :: uLeb x.1.toNat else 1 :: (uLeb x.1.toNat ++ uLeb x.2.toNat)
theorem flagS_le {s : ByteArray} {p e mx v q : Nat} (h : flagS s p e mx = .ok (v, q)) : v ≤ mx := by
  unfold flagS at h
  split at h
  · split at h
    · simp at h
    · simp at h; omega
  · simp at h
theorem re_limits : Re limitsS encLim := by
  have h := Re.bind (enc := encLim) (F := fun s p e => flagS s p e 1) (encF := fun v => [v]) (re_flag 1)
    (G := fun f s p e => bindR (u32S s p e) fun lo => if f = 0 then .ok ((lo.1, -1), lo.2) else bindR (u32S s lo.2 e) fun hi => .ok ((lo.1, hi.1), hi.2))
    (enc2 := fun f x => if f = 0 then uLeb x.1.toNat else uLeb x.1.toNat ++ uLeb x.2.toNat)
    (fun s p e f q hs hf => by
      by_cases h0 : f = 0
      · subst h0
        refine Re.congr (F := fun s p e => bindR (u32S s p e) fun lo => (fun (l : Int) _ p _ => .ok ((l, -1), p)) lo.1 s lo.2 e) (Re.bind re_u32 (fun _ _ _ a _ _ _ => Re.pure ((a, -1) : Int × Int)) (enc2 := fun _ _ => []) (fun s p e a q y r _ _ h2 => ?_)) (fun s p e => rfl)
        simp at h2
        rw [← h2.1]
        simp [encI32]
      · refine Re.congr (F := fun s p e => bindR (u32S s p e) fun lo => (fun (l : Int) s p e => bindR (u32S s p e) fun hi => (fun (z : Int) _ p _ => .ok ((l, z), p)) hi.1 s hi.2 e) lo.1 s lo.2 e)
          (Re.bind re_u32 (fun _ _ _ a _ _ _ => Re.bind (enc := fun x : Int × Int => uLeb x.2.toNat) re_u32 (fun _ _ _ b _ _ _ => Re.pure ((a, b) : Int × Int)) (enc2 := fun _ _ => []) (fun s p e b q y r _ _ h2 => ?_)) (enc2 := fun _ (x : Int × Int) => uLeb x.2.toNat) (fun s p e a q y r _ _ h2 => ?_)) (fun s p e => by simp only [if_neg h0])
        · simp at h2
          rw [← h2.1]
          simp [encI32]
        · obtain ⟨z, _, h3⟩ := bindR_get h2
          simp at h3
          rw [if_neg h0, ← h3.1]
          rfl)
    (fun s p e f q y r hs h1 h2 => by
      have hf := flagS_le h1
      obtain ⟨lo, h3, h4⟩ := bindR_get h2
      have hlo := u32S_ok h3
      unfold encLim
      by_cases h0 : f = 0
      · rw [if_pos h0] at h4
        simp at h4
        rw [if_pos h0, ← h4.1, h0]
        simp
      · rw [if_neg h0] at h4
        obtain ⟨hi, h5, h6⟩ := bindR_get h4
        have hhi := u32S_ok h5
        simp at h6
        have hf1 : f = 1 := by omega
        rw [if_neg h0, ← h6.1, hf1]
        dsimp only
        rw [if_neg (by omega)]
        rfl)
  exact h.congr (fun s p e => by
    unfold limitsS bindR
    cases flagS s p e 1 with
    | error f => rfl
    | ok a =>
      obtain ⟨f, q⟩ := a
      dsimp only
      cases u32S s q e with
      | error f => rfl
      | ok b =>
        dsimp only
        split
        · rfl
        · cases u32S s b.2 e <;> rfl)
end Go.Proofs.Qxb6500275aGreatDoor
