import Derived.Test.Qxb6500274aGreatRd
set_option linter.unusedVariables false
set_option linter.unusedSimpArgs false
set_option maxRecDepth 20000
namespace Go.Sx
open Go Go.RowKit
section
variable {n0 : Base} {w0 w : World} {K : Kx}
def bdId : List (Nat × List Value) := [(2, [.chan (some 2)]), (20, [.chan (some 20)]), (21, [.chan (some 21)])]
theorem cov_id (p : Nat) : covers (zP p) ⟨(zP p).heap, (zP p).next, [], []⟩ [] bdId = true := by
  unfold zP
  split
  · kernel_rfl
  · kernel_rfl
theorem resym {p : Nat} (hR : Rep n0 w0 K ⟨(zP p).heap, (zP p).next, [], []⟩ w) (sy : Nat → Value) (h2 : sy 2 = K.sy 2) (h20 : sy 20 = K.sy 20) (h21 : sy 21 = K.sy 21) (hr : ∀ i k n, sy i = .int k n → k.wrap n = n)
    (F : List (List Value × Bool)) (V : List (List Value × Value)) (hF : ∀ t b, (t, b) ∈ F → Den (K.weak (zP p) [] w sy) t (.bool b)) (hV : ∀ t v, (t, v) ∈ V → Den (K.weak (zP p) [] w sy) t v ∧ plain v = true) :
    Rep n0 w0 (K.weak (zP p) [] w sy) ⟨(zP p).heap, (zP p).next, F, V⟩ w := by
  refine covers_sound hR (cov_id p) sy ?_ F V hF hV hr
  intro i t c hrow hden
  have hv : ∀ j, Den K [.chan (some j)] c → c = K.sy j := by
    intro j hd
    have := hd []
    simp [rpn, tok1] at this
    exact this.symm
  rcases row_bd hrow with rfl | rfl | rfl
  · cases hrow; rw [h2, hv 2 hden]
  · cases hrow; rw [h20, hv 20 hden]
  · cases hrow; rw [h21, hv 21 hden]

/- the registers -/
theorem RegRel.none {nt nv : Nat} {long : List Nat} {a : Act} (hs : a.tmps.size = nt) (hd : a.defers = []) : RegRel K nt (enter nv long []) a := by
  have h := enter_rel (K := K) (nv := nv) (long := long) (args := []) (cargs := []) (ntmps := 0) trivial
  refine ⟨hs, fun t => ?_, by rw [hd]; trivial⟩
  have hany : (enter nv long []).get t = any := by
    simp only [Rg.get, enter]
    have hlook : ∀ (l : List Nat), (∀ v, lookTmp t (l.map (fun q => (q, any))) = some v → v = any) := by
      intro l
      induction l with
      | nil => intro v hv; simp [lookTmp] at hv
      | cons q l ih =>
        intro v hv
        simp only [List.map_cons, lookTmp] at hv
        split at hv
        · simp at hv; exact hv.symm
        · exact ih v hv
    split
    · split
      · rename_i v hv
        exact hlook long v hv
      · simp only [lookTmp]
    · rw [pad_get]
      split
      · rename_i v hv
        split at hv
        · simp at hv; exact hv.symm
        · simp at hv
      · rfl
  rw [hany]
  exact RV_any
theorem RegRel.know {nt : Nat} {r : Rg} {a : Act} (h : RegRel K nt r a) {t : Nat} {v : Value} (hv : RV K v (a.tmps.getD t undef)) : RegRel K nt (r.put t v) a := by
  refine ⟨h.size, fun t' => ?_, ?_⟩
  · rcases get_put r t t' v with e | ⟨_, e⟩
    · rw [e]
      split
      · rename_i e2; rw [e2]; exact hv
      · exact h.slot t'
    · rw [e]; exact RV_any
  · have : (r.put t v).defers = r.defers := by
      unfold Rg.put
      split
      · split <;> rfl
      · rfl
    rw [this]
    exact h.defers

theorem zP_next (p : Nat) : (zP p).next = 36 := by
  unfold zP
  split
  · kernel_rfl
  · kernel_rfl
/- one page or two: the state in which both are left open -/
theorem both_of (p : Nat) (hp : p = 1 ∨ p = 2) (F : List (List Value × Bool)) (V : List (List Value × Value)) :
    recell (recell ⟨(zP p).heap, (zP p).next, F, V⟩ 1 1 (symv (.int .u64 0) [.chan (some 30)])) 3 2 (symv .nilIface [.chan (some 31)]) = ⟨zBoth.heap, zBoth.next, F, V⟩ := by
  rcases hp with rfl | rfl
  · kernel_rfl
  · kernel_rfl
theorem z_cells (p : Nat) (hp : p = 1 ∨ p = 2) : (∃ x, find 1 (zP p).heap = some x ∧ x.kind ≤ 1 ∧ getAt x.cells 1 = some (.int .u64 p)) ∧ (∃ x, find 3 (zP p).heap = some x ∧ x.kind ≤ 1 ∧ getAt x.cells 2 = some (slP (64 * p))) := by
  rcases hp with rfl | rfl
  · exact ⟨⟨_, rfl, by decide, rfl⟩, ⟨_, rfl, by decide, rfl⟩⟩
  · exact ⟨⟨_, rfl, by decide, rfl⟩, ⟨_, rfl, by decide, rfl⟩⟩
theorem rep_both {p : Nat} (hp : p = 1 ∨ p = 2) {F : List (List Value × Bool)} {V : List (List Value × Value)} (hR : Rep n0 w0 K ⟨(zP p).heap, (zP p).next, F, V⟩ w) (h30 : K.sy 30 = .int .u64 p) (h31 : K.sy 31 = .slice (some ⟨K.bl 16, 0, none⟩) (64 * p) 128) :
    Rep n0 w0 K ⟨zBoth.heap, zBoth.next, F, V⟩ w := by
  obtain ⟨⟨x, fx, kx, gx⟩, ⟨y, fy, ky, gy⟩⟩ := z_cells p hp
  rw [← both_of p hp F V]
  have hR1 : Rep n0 w0 K (recell ⟨(zP p).heap, (zP p).next, F, V⟩ 1 1 (symv (.int .u64 0) [.chan (some 30)])) w := hR.recell fx kx (fun u c hu hc => by
    rw [gx] at hu
    cases hu
    have e : c = .int .u64 p := hc.2
    rw [e]
    exact C1_var_int h30 (by rw [wrap_u64]; omega))
  have fy' : find 3 (recell ⟨(zP p).heap, (zP p).next, F, V⟩ 1 1 (symv (.int .u64 0) [.chan (some 30)])).heap = some y := by
    rw [find_recell (s := ⟨(zP p).heap, (zP p).next, F, V⟩) fx]
    simpa using fy
  refine hR1.recell fy' ky (fun u c hu hc => ?_)
  rw [gy] at hu
  cases hu
  obtain ⟨_, _, h | ⟨h, _⟩⟩ := hc
  · rw [h.2]
    exact C1_var_slice h31 (by omega)
  · exact absurd h (by decide)
end
end Go.Sx
