import Derived.Test.Qxb6500274aGreatPv
import Derived.Test.Qxb6500274aGreatZs
set_option linter.unusedVariables false
set_option linter.unusedSimpArgs false
set_option maxRecDepth 20000
namespace Go.Sx
open Go Go.RowKit

theorem All2.put {α β : Type} {R : α → β → Prop} {v : α} : ∀ {i : Nat} {x : List α} {y : List β}, All2 R x y → (∀ u c, x[i]? = some u → y[i]? = some c → R u c → R v c) → All2 R (x.set i v) y
  | _, [], [], _, _ => trivial
  | _, [], _ :: _, h, _ => h.elim
  | _, _ :: _, [], h, _ => h.elim
  | 0, u :: x, c :: y, h, hv => ⟨hv u c rfl rfl h.1, h.2⟩
  | i + 1, u :: x, c :: y, h, hv => ⟨h.1, All2.put h.2 (fun u c hu hc => hv u c (by simpa using hu) (by simpa using hc))⟩

section
variable {n0 : Base} {w0 w : World} {K : Kx} {s : St}
theorem Rep.recell (h : Rep n0 w0 K s w) {b i : Nat} {x : Blk} {v : Value} (hx : find b s.heap = some x) (hk : x.kind ≤ 1) (hv : ∀ u c, getAt x.cells i = some u → C1 K u c → C1 K v c) : Rep n0 w0 K (Go.Sx.recell s b i v) w := by
  unfold Go.Sx.recell
  rw [hx]
  dsimp only
  refine ⟨h.below, h.hn, h.nx, ?_, ?_, h.facts, h.vals, h.syr, h.pfq⟩
  · intro b' y hy
    rw [find_set] at hy
    split at hy
    · rename_i e
      subst e
      simp at hy
      subst hy
      obtain ⟨h1, h2, h3, h4⟩ := h.live b x hx
      refine ⟨h1, h2, h3, ?_⟩
      unfold BlkRep at h4 ⊢
      rw [if_neg (by omega)] at h4
      rw [if_neg (by show ¬ x.kind = 2; omega)]
      obtain ⟨cs, T, fr, pre, tl, g1, g2, g3, g4, g5, g6⟩ := h4
      refine ⟨cs, T, fr, pre, tl, g1, g2, g3, ?_, g5, g6⟩
      rw [setAt_eq]
      exact All2.put g4 (fun u c hu hc hR => hv u c (by rw [getAt_eq]; exact hu) hR)
    · exact h.live b' y hy
  · intro b1 b2 y y' hy hy' e
    have key : ∀ b' y, find b' (s.setBlk b ⟨setAt x.cells i v, x.kind⟩).heap = some y → ∃ y', find b' s.heap = some y' := by
      intro b' y hy
      rw [find_set] at hy
      split at hy
      · rename_i e; subst e; exact ⟨x, hx⟩
      · exact ⟨y, hy⟩
    obtain ⟨z, hz⟩ := key b1 y hy
    obtain ⟨z', hz'⟩ := key b2 y' hy'
    exact h.inj b1 b2 z z' hz hz' e

/- a cell as it lies -/
theorem Rep.cell (h : Rep n0 w0 K s w) {b i : Nat} {x : Blk} {v : Value} (hx : find b s.heap = some x) (hk : x.kind ≠ 2) (hv : getAt x.cells i = some v) : ∃ c, C1 K v c := by
  obtain ⟨_, _, _, h4⟩ := h.live b x hx
  unfold BlkRep at h4
  rw [if_neg hk] at h4
  obtain ⟨cs, T, fr, pre, tl, g1, g2, g3, g4, g5, g6⟩ := h4
  rw [getAt_eq] at hv
  obtain ⟨c, _, hc⟩ := g4.get i hv
  exact ⟨c, hc⟩

theorem isVar_RV {i : Nat} {v c : Value} (h : isVar i v = true) (hv : RV K v c) : c = K.sy i := by
  unfold isVar at h
  split at h
  · rename_i n t sh
    have e := eqToks_eq h
    rw [RV_sym] at hv
    rw [e] at hv
    have hden : ∀ c, Den K [.chan (some i)] c → c = K.sy i := by
      intro c hd
      have := hd []
      simp [rpn, tok1] at this
      exact this.symm
    unfold SymRel at hv
    split at hv
    · obtain ⟨n, h1, _, h3⟩ := hv; exact hden _ h3
    · obtain ⟨n, h1, h3⟩ := hv; exact hden _ h3
    · obtain ⟨n, h1, _, h3⟩ := hv; exact hden _ h3
    · obtain ⟨p, l, k, l', h1, _⟩ := hv
      simp at h1
    · obtain ⟨j, a, l, k, h1, h2, _⟩ := hv
      simp at h1
      rw [h2, h1]
    · exact hv.elim
  · cases h
theorem isPtr0_RV {n : Nat} {v c : Value} (h : isPtr0 n v = true) (hv : RV K v c) : c = .pointer (some ⟨K.bl n, 0, none⟩) := by
  unfold isPtr0 at h
  split at h
  · rename_i p
    simp only [Bool.and_eq_true] at h
    rw [RV_ptr] at hv
    obtain ⟨_, _, hv⟩ := hv
    rw [hv, Nat.eq_of_beq_eq_true h.1, Nat.eq_of_beq_eq_true h.2.1]
  · cases h

theorem covL_get {f : Value → Value → Bool} : ∀ {x y : List Value} {j : Nat} {a : Value}, covL f x y = true → getAt x j = some a → ∃ b, getAt y j = some b ∧ f a b = true
  | [], [], _, _, _, h => by simp [getAt] at h
  | [], _ :: _, _, _, h, _ => by simp [covL] at h
  | _ :: _, [], _, _, h, _ => by simp [covL] at h
  | a :: x, b :: y, 0, _, h, e => by
    simp only [covL] at h
    split at h
    · rename_i hf
      simp [getAt] at e
      subst e
      exact ⟨b, by simp [getAt], hf⟩
    · cases h
  | a :: x, b :: y, j + 1, _, h, e => by
    simp only [covL] at h
    split at h
    · simp only [getAt] at e ⊢
      exact covL_get h e
    · cases h

/- what covers says of one variable's cell -/
theorem covers_var {Z : St} {bd : List (Nat × List Value)} (h : covers Z s [] bd = true) {b j i : Nat} {k : IntKind} {z : Int} {x' : Blk} (hx : find b Z.heap = some x') (hk : x'.kind ≤ 2) (hv : getAt x'.cells j = some (symv (.int k z) [.chan (some i)])) :
    ∃ x v, find b s.heap = some x ∧ x.kind ≤ 1 ∧ getAt x.cells j = some v ∧ row i bd = some (toks v) ∧ kindI v = some k ∧ inR v = true := by
  unfold covers at h
  simp only [Bool.and_eq_true, List.all_eq_true] at h
  obtain ⟨_, hall⟩ := h
  obtain ⟨l, hl, l', hl', hm⟩ := find_mem hx
  obtain ⟨_, h2⟩ := hall l hl l' hl' (b, x') hm
  split at h2
  · rename_i x hfx
    have e : rho [] b = b := rfl
    rw [e] at hfx
    unfold covB at h2
    have hble : Nat.ble 3 x'.kind = false := by
      cases hb : Nat.ble 3 x'.kind with
      | false => rfl
      | true => have := Nat.le_of_ble_eq_true hb; omega
    rw [hble] at h2
    simp only [Bool.and_eq_true] at h2
    obtain ⟨v, hv2, hc⟩ := covL_get h2.2.2 hv
    refine ⟨x, v, hfx, Nat.le_of_ble_eq_true h2.1, hv2, ?_⟩
    have hc' : covS Z [] bd [.chan (some i)] [.int k z] v = true := hc
    unfold covS at hc'
    dsimp only at hc'
    split at hc'
    · rename_i u k' hr hk'
      simp only [Bool.and_eq_true] at hc'
      have e1 := eqToks_eq hc'.1
      have e2 := of_decide_eq_true hc'.2.1
      subst e1; subst e2
      exact ⟨hr, hk', hc'.2.2⟩
    · cases hc'
  · cases h2
end
end Go.Sx
