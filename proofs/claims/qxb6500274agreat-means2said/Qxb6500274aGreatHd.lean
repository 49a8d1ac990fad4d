import Derived.Test.Qxb6500274aGreatGl
import Derived.Test.Qxb6500274aGreatKs
set_option linter.unusedVariables false
set_option linter.unusedSimpArgs false
set_option maxRecDepth 20000
namespace Go.Sx
open Go Go.RowKit
def zP (p : Nat) : St := if p = 1 then zOne else zTwo

/- THE HEAD OF THE LOOP -/
def Head (n0 : Base) (w0 : World) (script : Value) (p : Nat) (i : Int) (a : Act) (w : World) : Prop :=
  (p = 1 ∨ p = 2) ∧ ∃ K, Rep n0 w0 K ⟨(zP p).heap, (zP p).next, [], []⟩ w ∧ a.tmps.size = 99 ∧ a.defers = [] ∧ a.tmps.getD 0 undef = script ∧ a.tmps.getD 3 undef = .pointer (some ⟨K.bl 0, 0, none⟩) ∧
    a.tmps.getD 7 undef = .pointer (some ⟨K.bl 1, 0, none⟩) ∧ a.tmps.getD 8 undef = .pointer (some ⟨K.bl 2, 0, none⟩) ∧ a.tmps.getD 9 undef = .int .i64 i

theorem z_var (p : Nat) : (∃ x, find 1 (zP p).heap = some x ∧ x.kind ≤ 2 ∧ getAt x.cells 0 = some (symv (.int .u64 0) [.chan (some 2)])) ∧
    (∃ x, find 11 (zP p).heap = some x ∧ x.kind ≤ 2 ∧ getAt x.cells 41 = some (symv (.int .i64 0) [.chan (some 20)])) ∧
    (∃ x, find 12 (zP p).heap = some x ∧ x.kind ≤ 2 ∧ getAt x.cells 1 = some (symv (.int .i64 0) [.chan (some 21)])) := by
  unfold zP
  split
  · exact ⟨⟨_, rfl, by decide, rfl⟩, ⟨_, rfl, by decide, rfl⟩, ⟨_, rfl, by decide, rfl⟩⟩
  · exact ⟨⟨_, rfl, by decide, rfl⟩, ⟨_, rfl, by decide, rfl⟩, ⟨_, rfl, by decide, rfl⟩⟩

theorem weak_bl (K : Kx) (Z : St) (w : World) (sy : Nat → Value) (b : Nat) : (K.weak Z [] w sy).bl b = K.bl b := rfl
theorem weak_sy (K : Kx) (Z : St) (w : World) (sy : Nat → Value) : (K.weak Z [] w sy).sy = sy := rfl
theorem weak_pf (K : Kx) (Z : St) (w : World) (sy : Nat → Value) : (K.weak Z [] w sy).pf = K.pf := rfl

section
variable {n0 : Base} {w0 w : World} {K : Kx} {s : St}
theorem row_bd {i : Nat} {a b c t : List Value} (h : row i [(2, a), (20, b), (21, c)] = some t) : i = 2 ∨ i = 20 ∨ i = 21 := by
  simp only [row] at h
  split at h
  · rename_i e; exact .inl (Nat.eq_of_beq_eq_true e).symm
  · split at h
    · rename_i e; exact .inr (.inl (Nat.eq_of_beq_eq_true e).symm)
    · split at h
      · rename_i e; exact .inr (.inr (Nat.eq_of_beq_eq_true e).symm)
      · cases h
/- a state that covers: the loop's head -/
theorem rep_back {p : Nat} (hR : Rep n0 w0 K s w) (hc : covers (zP p) s [] (bdOf s) = true) : ∃ K', Rep n0 w0 K' ⟨(zP p).heap, (zP p).next, [], []⟩ w ∧ ∀ b, K'.bl b = K.bl b := by
  obtain ⟨⟨x1, f1, k1, g1⟩, ⟨x2, f2, k2, g2⟩, ⟨x3, f3, k3, g3⟩⟩ := z_var p
  obtain ⟨y1, v1, a1, b1, c1, d1, e1, i1⟩ := covers_var hc f1 k1 g1
  obtain ⟨y2, v2, a2, b2, c2, d2, e2, i2⟩ := covers_var hc f2 k2 g2
  obtain ⟨y3, v3, a3, b3, c3, d3, e3, i3⟩ := covers_var hc f3 k3 g3
  obtain ⟨q1, h1⟩ := hR.cell a1 (by omega) c1
  obtain ⟨q2, h2⟩ := hR.cell a2 (by omega) c2
  obtain ⟨q3, h3⟩ := hR.cell a3 (by omega) c3
  obtain ⟨n1, rfl, t1, r1⟩ := kindI_RV e1 h1.rv
  obtain ⟨n2, rfl, t2, r2⟩ := kindI_RV e2 h2.rv
  obtain ⟨n3, rfl, t3, r3⟩ := kindI_RV e3 h3.rv
  refine ⟨K.weak (zP p) [] w (fun i => if i = 2 then .int .u64 n1 else if i = 20 then .int .i64 n2 else if i = 21 then .int .i64 n3 else K.sy i), ?_, fun b => rfl⟩
  refine covers_sound hR hc _ ?_ [] [] (fun t b h => by simp at h) (fun t v h => by simp at h) ?_
  · intro i t c hrow hden
    rcases row_bd hrow with rfl | rfl | rfl
    · rw [d1] at hrow; cases hrow; exact (t1.uniq hden)
    · rw [d2] at hrow; cases hrow; exact (t2.uniq hden)
    · rw [d3] at hrow; cases hrow; exact (t3.uniq hden)
  · intro i k n h
    split at h
    · cases h; exact r1 i1
    · split at h
      · cases h; exact r2 i2
      · split at h
        · cases h; exact r3 i3
        · exact hR.syr i k n h
theorem head_back {r : Rg} {a : Act} {p : Nat} {i : Int} {script : Value} (hp : p = 1 ∨ p = 2) (hR : Rep n0 w0 K s w) (hr : RegRel K 99 r a) (hk : regsOK r = true) (hc : covers (zP p) s [] (bdOf s) = true) (h40 : K.sy 40 = script) (h8 : K.sy 8 = .int .i64 i) :
    Head n0 w0 script p i a w := by
  obtain ⟨K', hR', hbl⟩ := rep_back hR hc
  unfold regsOK at hk
  simp only [Bool.and_eq_true] at hk
  obtain ⟨k0, k3, k7, k8, k9, kd⟩ := hk
  refine ⟨hp, K', hR', hr.size, ?_, ?_, ?_, ?_, ?_, ?_⟩
  · have := hr.defers
    have e : r.defers = [] := List.isEmpty_iff.1 kd
    rw [e] at this
    cases hd : a.defers with
    | nil => rfl
    | cons d ds => rw [hd] at this; exact this.elim
  · rw [isVar_RV k0 (hr.slot 0), h40]
  · rw [isPtr0_RV k3 (hr.slot 3), hbl]
  · rw [isPtr0_RV k7 (hr.slot 7), hbl]
  · rw [isPtr0_RV k8 (hr.slot 8), hbl]
  · rw [isVar_RV k9 (hr.slot 9), h8]
theorem C1_var_int {i : Nat} {k : IntKind} {n z : Int} (h : K.sy i = .int k n) (hr : k.wrap n = n) : C1 K (symv (.int k z) [.chan (some i)]) (.int k n) :=
  ⟨n, rfl, hr, fun st => by simp [rpn, tok1, h]⟩
theorem C1_var_slice {i : Nat} {a : Option Addr} {l k : Nat} (h : K.sy i = .slice a l k) (hl : l ≤ 9223372036854775807) : C1 K (symv .nilIface [.chan (some i)]) (.slice a l k) :=
  ⟨i, a, l, k, rfl, h.symm, rfl, hl⟩
theorem C1_isVar {i : Nat} {v c : Value} (h : isVar i v = true) (hc : C1 K v c) : c = K.sy i := isVar_RV h hc.rv

/- back at the head, by either test -/
theorem head_ok {r : Rg} {a : Act} {i : Int} {script : Value} (hR : Rep n0 w0 K s w) (hr : RegRel K 99 r a) (hk : regsOK r = true) (hc : backOK s = true) (h40 : K.sy 40 = script) (h8 : K.sy 8 = .int .i64 i) :
    ∃ p, Head n0 w0 script p i a w := by
  unfold backOK at hc
  split at hc
  · rename_i n hn
    split at hc
    · exact ⟨1, head_back (.inl rfl) hR hr hk hc h40 h8⟩
    · simp only [Bool.and_eq_true] at hc
      exact ⟨2, head_back (.inr rfl) hR hr hk hc.2 h40 h8⟩
  · cases hc
theorem find_recell {b i : Nat} {v : Value} {x : Blk} (hx : find b s.heap = some x) (b' : Nat) : find b' (Go.Sx.recell s b i v).heap = if b = b' then some ⟨setAt x.cells i v, x.kind⟩ else find b' s.heap := by
  unfold Go.Sx.recell
  rw [hx]
  exact find_set _ _ _ _
theorem bdOf_recell {v u : Value} {x y : Blk} (hx : find 1 s.heap = some x) (hy : find 3 s.heap = some y) : bdOf (Go.Sx.recell (Go.Sx.recell s 1 1 v) 3 2 u) = bdOf s := by
  have hf1 := find_recell (i := 1) (v := v) hx
  have hy' : find 3 (Go.Sx.recell s 1 1 v).heap = some y := by rw [hf1]; simpa using hy
  have hf2 := find_recell (i := 2) (v := u) hy'
  unfold bdOf cellOf
  rw [hf2, hf2, hf2, hf1, hf1, hf1, hx]
  have e : getAt (setAt x.cells 1 v) 0 = getAt x.cells 0 := by
    rw [getAt_eq, getAt_eq, setAt_eq, List.getElem?_set]; simp
  simp only [show ¬ (3 = 1) by decide, show ¬ (3 = 11) by decide, show ¬ (3 = 12) by decide, show ¬ (1 = 11) by decide, show ¬ (1 = 12) by decide, if_false, if_true]
  rw [e]
theorem head_both {r : Rg} {a : Act} {i : Int} {script : Value} {p : Nat} (hp : p = 1 ∨ p = 2) (hR : Rep n0 w0 K s w) (hr : RegRel K 99 r a) (hk : regsOK r = true) (hc : backBoth s = true) (h40 : K.sy 40 = script) (h8 : K.sy 8 = .int .i64 i)
    (h30 : K.sy 30 = .int .u64 p) (h31 : K.sy 31 = .slice (some ⟨K.bl 16, 0, none⟩) (64 * p) 128) (h16 : 16 < K.nx) : Head n0 w0 script p i a w := by
  unfold backBoth at hc
  split at hc
  · rename_i x y hx hy
    split at hc
    · rename_i va vb ha hb
      simp only [Bool.and_eq_true] at hc
      obtain ⟨c1, c2, c3, c4, c5, c6⟩ := hc
      have hx1 := Nat.le_of_ble_eq_true c3
      have hy1 := Nat.le_of_ble_eq_true c4
      have key : ∀ q : Nat, q = p → (q = 1 ∨ q = 2) → covers (zP q) (Go.Sx.recell (Go.Sx.recell s 1 1 (.int .u64 q)) 3 2 (slP (64 * q))) [] (bdOf s) = true → Head n0 w0 script p i a w := by
        intro q hq hq2 hcv
        subst hq
        have hR1 : Rep n0 w0 K (Go.Sx.recell s 1 1 (.int .u64 q)) w := hR.recell hx hx1 (fun u c hu hc => by
          rw [ha] at hu
          cases hu
          rw [C1_isVar c1 hc, h30]
          exact C1_plain rfl)
        have hy' : find 3 (Go.Sx.recell s 1 1 (.int .u64 q)).heap = some y := by
          unfold Go.Sx.recell
          rw [hx]
          dsimp only
          rw [find_set]
          simpa using hy
        have hR2 : Rep n0 w0 K (Go.Sx.recell (Go.Sx.recell s 1 1 (.int .u64 q)) 3 2 (slP (64 * q))) w := hR1.recell hy' hy1 (fun u c hu hc => by
          rw [hb] at hu
          cases hu
          rw [C1_isVar c2 hc, h31]
          exact ⟨rfl, h16, .inl ⟨by decide, rfl⟩⟩)
        refine head_back hq2 hR2 hr hk ?_ h40 h8
        rw [bdOf_recell hx hy]
        exact hcv
      rcases hp with rfl | rfl
      · exact key 1 rfl (.inl rfl) c5
      · exact key 2 rfl (.inr rfl) c6
    · cases hc
  · cases hc
end
end Go.Sx
