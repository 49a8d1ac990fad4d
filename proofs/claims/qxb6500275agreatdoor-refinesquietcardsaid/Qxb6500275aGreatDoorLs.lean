import Derived.Test.Qxb6500275aGreatDoorBlk
import Derived.Laws.IdiomCopy
import Derived.Laws.MakeOwn
import Derived.Laws.NewBlocks
set_option maxRecDepth 100000
set_option linter.unusedVariables false
set_option linter.unusedSimpArgs false
namespace Go.Proofs.Qxb6500275aGreatDoor
open Go Go.RowKit
theorem add_none2 (B o j : Nat) : (⟨B, o, none⟩ : Addr).add j = ⟨B, o + j, none⟩ := by
  unfold Addr.add
  split
  · rename_i h; subst h; rfl
  · rfl
theorem get_snoc2 {α : Type} {l : List α} {x y : α} {i : Nat} (h : (l ++ [x])[i]? = some y) : (i < l.length ∧ l[i]? = some y) ∨ (i = l.length ∧ y = x) := by
  by_cases e : i < l.length
  · rw [List.getElem?_append_left e] at h
    exact .inl ⟨e, h⟩
  · have hl := (List.getElem?_eq_some_iff.1 h).1
    simp at hl
    have hi : i = l.length := by omega
    subst hi
    simp at h
    exact .inr ⟨rfl, h.symm⟩
/- a list in memory: n rows of sz cells in a block of its own, not below n0; no rows: no block -/
structure Sl (w : World) (n0 : Nat) (v : Value) (n sz : Nat) (F : Nat → Value) : Prop where
  is : ∃ a, v = .slice a n n ∧ (n = 0 → a = none) ∧ (0 < n → ∃ k, n0 ≤ k ∧ a = some ⟨k, 0, none⟩ ∧ Blk w k (n * sz) F)
theorem Sl.keep {w w' : World} {n0 n sz : Nat} {v : Value} {F : Nat → Value} {S : Nat → Prop} (h : Sl w n0 v n sz F) (hk : Kp S w w') (hs : ∀ k, S k → k < n0) : Sl w' n0 v n sz F := by
  obtain ⟨a, h1, h2, h3⟩ := h.is
  refine ⟨a, h1, h2, fun hn => ?_⟩
  obtain ⟨k, h4, h5, h6⟩ := h3 hn
  exact ⟨k, h4, h5, h6.keep hk (fun h => by have := hs k h; omega)⟩
theorem Sl.mono {w : World} {n0 m0 n sz : Nat} {v : Value} {F : Nat → Value} (h : Sl w n0 v n sz F) (hm : m0 ≤ n0) : Sl w m0 v n sz F := by
  obtain ⟨a, h1, h2, h3⟩ := h.is
  refine ⟨a, h1, h2, fun hn => ?_⟩
  obtain ⟨k, h4, h5, h6⟩ := h3 hn
  exact ⟨k, by omega, h5, h6⟩
/- what a row says: R n0 w x f: the row's cells f hold x; what it names lies not below n0 -/
abbrev Rel (α : Type) := Nat → World → α → (Nat → Value) → Prop
structure RowOk {α : Type} (R : Rel α) : Prop where
  keep : ∀ (n0 : Nat) (w w' : World) (S : Nat → Prop) (x : α) (f : Nat → Value), R n0 w x f → Kp S w w' → (∀ k, S k → k < n0) → R n0 w' x f
  mono : ∀ (n0 m0 : Nat) (w : World) (x : α) (f : Nat → Value), R n0 w x f → m0 ≤ n0 → R m0 w x f
/- a list of rows -/
def Ls {α : Type} (R : Rel α) (sz : Nat) (n0 : Nat) (w : World) (v : Value) (l : List α) : Prop :=
  ∃ G, Sl w n0 v l.length sz G ∧ ∀ i x, l[i]? = some x → R n0 w x (fun c => G (i * sz + c))
theorem Ls.keep {α : Type} {R : Rel α} {sz n0 : Nat} {w w' : World} {v : Value} {l : List α} {S : Nat → Prop} (hR : RowOk R) (h : Ls R sz n0 w v l) (hk : Kp S w w') (hs : ∀ k, S k → k < n0) : Ls R sz n0 w' v l := by
  obtain ⟨G, h1, h2⟩ := h
  exact ⟨G, h1.keep hk hs, fun i x hx => hR.keep _ _ _ _ _ _ (h2 i x hx) hk hs⟩
theorem Ls.mono {α : Type} {R : Rel α} {sz n0 m0 : Nat} {w : World} {v : Value} {l : List α} (hR : RowOk R) (h : Ls R sz n0 w v l) (hm : m0 ≤ n0) : Ls R sz m0 w v l := by
  obtain ⟨G, h1, h2⟩ := h
  exact ⟨G, h1.mono hm, fun i x hx => hR.mono _ _ _ _ _ (h2 i x hx) hm⟩
theorem Ls.nil {α : Type} (R : Rel α) (sz n0 : Nat) (w : World) : Ls R sz n0 w (.slice none 0 0) [] :=
  ⟨fun _ => .bool false, ⟨none, rfl, fun _ => rfl, fun h => by simp at h⟩, fun i x hx => by simp at hx⟩
/- rows that are being laid: l stands, then the row at hand: cur, then rows as made: z -/
structure Rw {α : Type} (R : Rel α) (w : World) (n0 k n sz : Nat) (z : Nat → Value) (l : List α) (cur : Nat → Value) : Prop where
  le : l.length ≤ n
  is : ∃ G, Blk w k (n * sz) G ∧ (∀ i x, l[i]? = some x → R n0 w x (fun c => G (i * sz + c))) ∧ (l.length < n → ∀ c, c < sz → G (l.length * sz + c) = cur c) ∧ (∀ i, l.length < i → i < n → ∀ c, c < sz → G (i * sz + c) = z c)
section
variable {α : Type} {R : Rel α} {w w' : World} {n0 k n sz : Nat} {z cur : Nat → Value} {l : List α}
theorem Rw.keep {S : Nat → Prop} (hR : RowOk R) (h : Rw R w n0 k n sz z l cur) (hk : Kp S w w') (h1 : ¬ S k) (hs : ∀ j, S j → j < n0) : Rw R w' n0 k n sz z l cur := by
  obtain ⟨le, G, hB, hr, hc, hz⟩ := h
  exact ⟨le, G, hB.keep hk h1, fun i x hx => hR.keep _ _ _ _ _ _ (hr i x hx) hk hs, hc, hz⟩
theorem Rw.cell (h : Rw R w n0 k n sz z l cur) (hl : l.length < n) {c : Nat} (hc : c < sz) : w.cell? ⟨k, l.length * sz + c, none⟩ = some (cur c) ∧ w.frozen? ⟨k, l.length * sz + c, none⟩ = false := by
  obtain ⟨le, G, hB, hr, hcur, hz⟩ := h
  have hlt : l.length * sz + c < n * sz := by
    have : (l.length + 1) * sz ≤ n * sz := Nat.mul_le_mul_right _ hl
    rw [Nat.succ_mul] at this
    omega
  rw [← hcur hl c hc]
  exact hB _ hlt
theorem row_ne {i j sz c d : Nat} (hij : i ≠ j) (hc : c < sz) (hd : d < sz) : i * sz + c ≠ j * sz + d := by
  intro h
  rcases Nat.lt_or_gt_of_ne hij with h1 | h1
  · have : (i + 1) * sz ≤ j * sz := Nat.mul_le_mul_right _ h1
    rw [Nat.succ_mul] at this
    omega
  · have : (j + 1) * sz ≤ i * sz := Nat.mul_le_mul_right _ h1
    rw [Nat.succ_mul] at this
    omega
/- a row's cells alone count -/
structure RowPure {α : Type} (R : Rel α) (sz : Nat) : Prop where
  same : ∀ (n0 : Nat) (w : World) (x : α) (f g : Nat → Value), R n0 w x f → (∀ c, c < sz → g c = f c) → R n0 w x g
theorem Rw.set (hR : RowOk R) (hP : RowPure R sz) (h : Rw R w n0 k n sz z l cur) (hl : l.length < n) {c : Nat} (hc : c < sz) (v : Value) (hk0 : k < n0) : Rw R (w.setCell ⟨k, l.length * sz + c, none⟩ v) n0 k n sz z l (upd cur c v) := by
  obtain ⟨le, G, hB, hr, hcur, hz⟩ := h
  have hlt : l.length * sz + c < n * sz := by
    have : (l.length + 1) * sz ≤ n * sz := Nat.mul_le_mul_right _ hl
    rw [Nat.succ_mul] at this
    omega
  have hk : Kp (fun j => j = k) w (w.setCell ⟨k, l.length * sz + c, none⟩ v) := (Kp.refl (fun j => j = k) w).setCell (p := ⟨k, l.length * sz + c, none⟩) (.inl rfl) v
  refine ⟨le, _, hB.set hlt v, fun i x hx => ?_, fun _ d hd => ?_, fun i h1 h2 d hd => ?_⟩
  · have hi := (List.getElem?_eq_some_iff.1 hx).1
    refine hP.same _ _ _ _ _ (hR.keep _ _ _ _ _ _ (hr i x hx) hk (fun j hj => by subst hj; exact hk0)) (fun d hd => ?_)
    exact upd_ne _ _ (row_ne (by omega) hd hc)
  · by_cases e : d = c
    · subst e; rw [upd_same, upd_same]
    · rw [upd_ne _ _ e, upd_ne _ _ (by omega)]; exact hcur hl d hd
  · rw [upd_ne _ _ (row_ne (by omega) hd hc)]; exact hz i h1 h2 d hd
theorem Rw.push (hP : RowPure R sz) (h : Rw R w n0 k n sz z l cur) (hl : l.length < n) {x : α} (hx : R n0 w x cur) : Rw R w n0 k n sz z (l ++ [x]) z := by
  obtain ⟨le, G, hB, hr, hcur, hz⟩ := h
  refine ⟨by simp; omega, G, hB, fun i y hy => ?_, fun h2 c hc => ?_, fun i h1 h2 c hc => ?_⟩
  · rcases get_snoc2 hy with ⟨h1, h2⟩ | ⟨rfl, rfl⟩
    · exact hr i y h2
    · exact hP.same _ _ _ _ _ hx (fun c hc => hcur hl c hc)
  · simp at h2 ⊢
    exact hz _ (by omega) h2 c hc
  · simp at h1
    exact hz i (by omega) h2 c hc
theorem Rw.made {Z : Array Value} {G : Nat → Value} (hZ : Z.size = sz) (h0 : 0 < sz) (hB : Blk w k (n * sz) G) (hG : ∀ i, i < n * sz → G i = Z[i % Z.size]!) : Rw R w n0 k n sz (fun c => Z[c]!) [] (fun c => Z[c]!) := by
  have hrow : ∀ i, i < n → ∀ c, c < sz → G (i * sz + c) = Z[c]! := fun i hi c hc => by
    have hlt : i * sz + c < n * sz := by
      have : (i + 1) * sz ≤ n * sz := Nat.mul_le_mul_right _ hi
      rw [Nat.succ_mul] at this
      omega
    rw [hG _ hlt, hZ, Nat.add_comm, Nat.add_mul_mod_self_right, Nat.mod_eq_of_lt hc]
  exact ⟨by simp, G, hB, fun i x hx => by simp at hx, fun h c hc => hrow _ h c hc, fun i _ h c hc => hrow i h c hc⟩
theorem Rw.done (hR : RowOk R) (h : Rw R w n0 k n sz z l cur) (hl : l.length = n) (hn : 0 < n) {m0 : Nat} (hm : m0 ≤ n0) (hk : m0 ≤ k) : Ls R sz m0 w (.slice (some ⟨k, 0, none⟩) n n) l := by
  obtain ⟨le, G, hB, hr, hcur, hz⟩ := h
  subst hl
  exact ⟨G, ⟨_, rfl, fun h => by omega, fun _ => ⟨k, hk, rfl, hB⟩⟩, fun i x hx => hR.mono _ _ _ _ _ (hr i x hx) hm⟩
end
/- rows that are cells alone -/
def pureRel {α : Type} (P : α → (Nat → Value) → Prop) : Rel α := fun _ _ x f => P x f
theorem pureRel_ok {α : Type} (P : α → (Nat → Value) → Prop) : RowOk (pureRel P) := ⟨fun _ _ _ _ _ _ h _ _ => h, fun _ _ _ _ _ h _ => h⟩
/- the first n values of F -/
def firstN (F : Nat → Value) (n : Nat) : List Value := (List.range n).map F
theorem firstN_get (F : Nat → Value) (n j : Nat) (hj : j < n) : (firstN F n)[j]? = some (F j) := by
  unfold firstN
  rw [List.getElem?_map, List.getElem?_range hj]
  rfl
theorem firstN_len (F : Nat → Value) (n : Nat) : (firstN F n).length = n := by simp [firstN]
/- copy of n elements of k cells between two blocks -/
theorem run_copy_blk {P : Program} (w : World) (dT sT ty elem : TypeId) (b a n c k : Nat) {nb na : Nat} {D F : Nat → Value} (dn : Nat)
    (hu : P.underlying dT = some (.slice elem)) (hs : (P.info? elem).map (·.size) = some k) (hd : Blk w b nb D) (hf : Blk w a na F) (h1 : n * k ≤ nb) (h2 : n * k ≤ na) (hone : ∀ i, i < n * k → (F i).oneCell' = true) :
    (Builtin.copy_ #[dT, sT] ty #[.slice (some ⟨b, 0, none⟩) n dn, .slice (some ⟨a, 0, none⟩) n c]).run P w = .ok (goInt n) (w.setCells b 0 (firstN F (n * k))) := by
  have hl := run_loadCells_list (P := P) w ⟨a, 0, none⟩ (firstN F (n * k)) (fun j v hj => by
    have hjl := (List.getElem?_eq_some_iff.1 hj).1
    rw [firstN_len] at hjl
    rw [firstN_get F _ _ hjl] at hj
    rw [add_none2, Nat.zero_add, hf.cell (by omega)]
    exact hj)
  have hst := run_storeCells_cells (P := P) b 0 (firstN F (n * k)) 0 w (fun j hj => by
    rw [firstN_len] at hj
    simp only [Nat.zero_add]
    rw [hd.cell (by omega)]; rfl) (fun j hj => by
    rw [firstN_len] at hj
    simp only [Nat.zero_add]
    exact hd.fz (by omega)) (fun v hv => by
    unfold firstN at hv
    obtain ⟨i, hi, rfl⟩ := List.mem_map.1 hv
    exact hone i (List.mem_range.1 hi))
  rw [firstN_len] at hl
  cases hq : P.info? elem with
  | none => simp [hq] at hs
  | some i =>
    have hi : i.size = k := by simpa [hq] using hs
    simp [Builtin.copy_, run_underlying hu, Builtin.lenOf, Builtin.firstCells, sizeOf, typeInfo, hq, hi, hl, hst]
theorem blk_setCells {w : World} {b n : Nat} {D F : Nat → Value} (h : Blk w b n D) (m : Nat) (hm : m ≤ n) : Blk (w.setCells b 0 (firstN F m)) b n (fun i => if i < m then F i else D i) := by
  intro i hi
  refine ⟨?_, by rw [World.frozen?_setCells]; exact h.fz hi⟩
  dsimp only
  by_cases e : i < m
  · have := World.cell?_setCells_in b (firstN F m) 0 w (fun j hj => by
      rw [firstN_len] at hj
      rw [Nat.zero_add, h.cell (by omega)]; rfl) i (by rw [firstN_len]; exact e)
    rw [Nat.zero_add] at this
    rw [this, if_pos e]
    congr 1
    have h2 := firstN_get F m i e
    rw [List.getElem?_eq_getElem (by rw [firstN_len]; exact e)] at h2
    exact Option.some.inj h2
  · rw [World.cell?_setCells_out b (firstN F m) 0 w _ (fun _ _ => .inr (by rw [firstN_len]; simp; omega)), if_neg e]
    exact h.cell hi
/- make([]T, n) -/
theorem make_n {P : Program} (w : World) (t e : TypeId) (i : TypeInfo) (z : Value) (n sz bytes : Nat) (ht : P.underlying t = some (.slice e)) (hi : P.info? e = some i) (hz : i.zero = some z) (hsz : i.size = sz) (hby : i.bytes = bytes) (hn : bytes * n ≤ 16777216) (hn2 : n ≤ 16777216) :
    (Instr.makeSlice t (.int .i64 (n : Int)) (.int .i64 (n : Int))).run P w = .ok (.slice (some ⟨w.heap.size, 0, none⟩) n n) (w.alloc (.cells (madeCells z.cells (n * sz)) e)) := by
  have hb : (i.bytes : Int) * (n : Int) ≤ 281474976710656 := by
    rw [hby]
    have : ((bytes * n : Nat) : Int) ≤ 281474976710656 := by omega
    rwa [Int.natCast_mul] at this
  have h := run_make (P := P) w t e i z ht hi hz .i64 .i64 n n (by omega) (by omega) hb (by omega)
  rw [Int.toNat_natCast, hsz] at h
  exact h
theorem make_n2 {P : Program} (w : World) (t e : TypeId) (n sz bytes : Nat) (Z : Array Value) (ht : P.underlying t = some (.slice e)) (hi : (P.info? e).map (fun i => (i.size, i.bytes)) = some (sz, bytes)) (hz : (P.info? e).bind (fun i => i.zero.map (fun z => z.cells)) = some Z) (hn : bytes * n ≤ 16777216) (hn2 : n ≤ 16777216) :
    (Instr.makeSlice t (.int .i64 (n : Int)) (.int .i64 (n : Int))).run P w = .ok (.slice (some ⟨w.heap.size, 0, none⟩) n n) (w.alloc (.cells (madeCells Z (n * sz)) e)) := by
  cases hq : P.info? e with
  | none => simp [hq] at hi
  | some i =>
    simp [hq] at hi hz
    obtain ⟨z, h1, h2⟩ := hz
    subst h2
    exact make_n w t e i z n sz bytes ht hq h1 hi.1 hi.2 hn hn2
theorem blk_made (w : World) (z : Array Value) (m e : Nat) : Blk (w.alloc (.cells (madeCells z m) e)) w.heap.size m (fun i => z[i % z.size]!) := by
  intro i hi
  rw [World.cell?_alloc_at _ _ _ _ rfl, World.frozen?_alloc_at _ _ _ _ rfl]
  refine ⟨?_, rfl⟩
  unfold madeCells
  rw [Array.getElem?_map]
  rw [Array.getElem?_range, if_pos hi]
  rfl
theorem rw_made {α : Type} (R : Rel α) (w : World) (n0 n sz e : Nat) (Z : Array Value) (hZ : Z.size = sz) (h0 : 0 < sz) : Rw R (w.alloc (.cells (madeCells Z (n * sz)) e)) n0 w.heap.size n sz (fun c => Z[c]!) [] (fun c => Z[c]!) :=
  Rw.made hZ h0 (blk_made w Z (n * sz) e) (fun i _ => rfl)
end Go.Proofs.Qxb6500275aGreatDoor
