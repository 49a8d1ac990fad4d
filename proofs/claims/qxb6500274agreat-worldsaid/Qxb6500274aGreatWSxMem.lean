import Derived.Test.Qxb6500274aGreatWSxRel
namespace Go.Sx
open Go Go.RowKit

/- lists -/
theorem beq_ne {a b : Nat} (h : a ≠ b) : Nat.beq a b = false := by
  cases h' : Nat.beq a b
  · rfl
  · exact absurd (Nat.eq_of_beq_eq_true h') h

theorem findL_cons (b b' : Nat) (x : Blk) (h : List (Nat × Blk)) : findL b ((b', x) :: h) = if b' = b then some x else findL b h := by
  simp only [findL]
  by_cases e : b' = b
  · subst e; simp
  · have : Nat.beq b' b = false := beq_ne e
    simp [this, e]

theorem findL_drop1 (b b' : Nat) (hne : b ≠ b') : ∀ (h : List (Nat × Blk)), findL b' (drop1 b h) = findL b' h
  | [] => rfl
  | (k, x) :: h => by
    by_cases e : k = b
    · subst e
      simp only [drop1, Nat.beq_refl]
      rw [findL_cons, if_neg hne]
    · have : Nat.beq k b = false := beq_ne e
      simp only [drop1, this, findL_cons, findL_drop1 b b' hne h]

theorem findL_dropAll (b b' : Nat) : ∀ (h : List (Nat × Blk)), findL b' (dropAll b h) = if b' = b then none else findL b' h
  | [] => by simp [dropAll, findL]
  | (k, x) :: h => by
    by_cases e : k = b
    · subst e
      simp only [dropAll, Nat.beq_refl, findL_dropAll k b' h, findL_cons]
      by_cases e' : b' = k
      · simp [e']
      · have : ¬ k = b' := fun h => e' h.symm
        simp [e', this]
    · simp only [dropAll, beq_ne e, findL_cons, findL_dropAll b b' h]
      by_cases e' : k = b'
      · subst e'; simp [e]
      · simp [e']

theorem nthL_setL {α : Type} (v : List α) : ∀ (i j : Nat) (l : List (List α)), nthL j (setL v i l) = if i = j then v else nthL j l
  | 0, 0, [] => rfl
  | 0, 0, _ :: _ => rfl
  | 0, j + 1, [] => by simp [setL, nthL]
  | 0, j + 1, _ :: _ => by simp [setL, nthL]
  | i + 1, 0, [] => by simp [setL, nthL]
  | i + 1, 0, _ :: _ => by simp [setL, nthL]
  | i + 1, j + 1, [] => by simp [setL, nthL, nthL_setL v i j []]
  | i + 1, j + 1, _ :: l => by simp [setL, nthL, nthL_setL v i j l]

theorem find_inHeap (b c : Nat) (f : List (Nat × Blk) → List (Nat × Blk)) (h : Heap) (hf : ∀ l, b ≠ c → findL c (f l) = findL c l) :
    find c (inHeap b f h) = if b = c then findL c (f (nthL (b / 8 % 8) (nthL (b % 8) h))) else find c h := by
  unfold find inHeap
  rw [nthL_setL]
  by_cases e : b = c
  · subst e
    simp [nthL_setL]
  · rw [if_neg e]
    by_cases e1 : b % 8 = c % 8
    · rw [if_pos e1, nthL_setL]
      by_cases e2 : b / 8 % 8 = c / 8 % 8
      · rw [if_pos e2, hf _ e, e1, e2]
      · rw [if_neg e2, e1]
    · rw [if_neg e1]

theorem find_set (s : St) (b b' : Nat) (x : Blk) : find b' (s.setBlk b x).heap = if b = b' then some x else find b' s.heap := by
  simp only [St.setBlk]
  rw [find_inHeap b b' _ _ (fun l hne => by rw [findL_cons, if_neg hne, findL_drop1 b b' hne])]
  by_cases e : b = b'
  · simp [e, findL_cons]
  · simp [e]

theorem find_new (s : St) (b' : Nat) (x : Blk) : find b' (s.new x).heap = if s.next = b' then some x else find b' s.heap := by
  simp only [St.new]
  rw [find_inHeap s.next b' _ _ (fun l hne => by rw [findL_cons, if_neg hne])]
  by_cases e : s.next = b'
  · simp [e, findL_cons]
  · simp [e]

theorem find_kill (s : St) (b b' : Nat) : find b' (s.kill b).heap = if b' = b then none else find b' s.heap := by
  simp only [St.kill]
  rw [find_inHeap b b' _ _ (fun l hne => by rw [findL_dropAll, if_neg (fun e => hne e.symm)])]
  by_cases e : b = b'
  · subst e; simp [findL_dropAll]
  · rw [if_neg e, if_neg (fun h : b' = b => e h.symm)]

theorem getAt_eq : ∀ (l : List Value) (n : Nat), getAt l n = l[n]?
  | [], n => by simp [getAt]
  | x :: l, 0 => by simp [getAt]
  | x :: l, n + 1 => by simp [getAt, getAt_eq l n]

theorem setAt_eq : ∀ (l : List Value) (n : Nat) (v : Value), setAt l n v = l.set n v
  | [], n, v => by simp [setAt]
  | x :: l, 0, v => by simp [setAt]
  | x :: l, n + 1, v => by simp [setAt, setAt_eq l n v]

theorem takeN_some : ∀ (l : List Value) (n : Nat) (r : List Value), takeN l n = some r → n ≤ l.length ∧ r = l.take n
  | l, 0, r, h => by simp [takeN] at h; simp [h]
  | [], n + 1, r, h => by simp [takeN] at h
  | x :: l, n + 1, r, h => by
    simp only [takeN] at h
    split at h
    · rename_i q hq
      obtain ⟨h1, h2⟩ := takeN_some l n q hq
      simp at h
      subst h
      simp [h1, h2]
    · simp at h

theorem cellsAt_some : ∀ (l : List Value) (o n : Nat) (r : List Value), cellsAt l o n = some r → o + n ≤ l.length ∧ r = (l.drop o).take n
  | l, 0, n, r, h => by
    have h' : takeN l n = some r := by cases l <;> simpa [cellsAt] using h
    simpa using takeN_some l n r h'
  | [], o + 1, n, r, h => by simp [cellsAt] at h
  | x :: l, o + 1, n, r, h => by
    simp only [cellsAt] at h
    obtain ⟨h1, h2⟩ := cellsAt_some l o n r h
    exact ⟨by simp; omega, by simpa using h2⟩

theorem layN_some : ∀ (l vs r : List Value), layN l vs = some r → vs.length ≤ l.length ∧ r = vs ++ l.drop vs.length
  | l, [], r, h => by
    have : l = r := by cases l <;> simpa [layN] using h
    simp [this]
  | [], v :: vs, r, h => by simp [layN] at h
  | x :: l, v :: vs, r, h => by
    simp only [layN] at h
    split at h
    · rename_i q hq
      obtain ⟨h1, h2⟩ := layN_some l vs q hq
      simp at h
      subst h
      simp [h1, h2]
    · simp at h

theorem layAt_some : ∀ (l : List Value) (o : Nat) (vs r : List Value), layAt l o vs = some r → o + vs.length ≤ l.length ∧ r = l.take o ++ vs ++ l.drop (o + vs.length)
  | l, 0, vs, r, h => by
    have h' : layN l vs = some r := by cases l <;> simpa [layAt] using h
    simpa using layN_some l vs r h'
  | [], o + 1, vs, r, h => by simp [layAt] at h
  | x :: l, o + 1, vs, r, h => by
    simp only [layAt] at h
    split at h
    · rename_i q hq
      obtain ⟨h1, h2⟩ := layAt_some l o vs q hq
      simp at h
      subst h
      refine ⟨by simp; omega, ?_⟩
      rw [h2, show o + 1 + vs.length = (o + vs.length) + 1 by omega]
      simp
    · simp at h

/- blocks -/
def frOK (fr : Nat × Nat) (n : Nat) : Prop := fr.1 = fr.2 ∨ n ≤ fr.1

def MapRel (K : Kx) : List Value → List MapEntry → Prop
  | [], [] => True
  | k :: v :: l, e :: es => (∃ s, k = .string s ∧ e.key = .string s) ∧ C1 K v e.val ∧ MapRel K l es
  | _, _ => False

theorem MapRel.mono {K K' : Kx} (hle : K.le K') : ∀ {l : List Value} {es : List MapEntry}, MapRel K l es → MapRel K' l es
  | [], [], _ => trivial
  | [], _ :: _, h => h.elim
  | [_], _, h => by simp [MapRel] at h
  | _ :: _ :: _, [], h => h.elim
  | _ :: _ :: _, _ :: _, h => ⟨h.1, C1.mono hle h.2.1, MapRel.mono hle h.2.2⟩

def BlkRep (K : Kx) (b : Nat) (x : Blk) (o : Option Obj) : Prop :=
  if x.kind = 2 then ∃ es ck, o = some (.map es ck) ∧ MapRel K x.cells es.toList
  else ∃ cs T fr pre tl, o = some (.cells cs T fr) ∧ frOK fr cs.size ∧ cs.toList = pre ++ tl ∧ All2 (C1 K) x.cells pre ∧
    (x.kind < 3 → tl = []) ∧ (3 ≤ x.kind → cs.size = K.tot b ∧ K.es b = x.kind - 3)

theorem BlkRep.mono {K K' : Kx} (hle : K.le K') {b : Nat} (hb : b < K.nx) {x : Blk} {o : Option Obj} (h : BlkRep K b x o) : BlkRep K' b x o := by
  unfold BlkRep at *
  split
  · rename_i hk
    rw [if_pos hk] at h
    obtain ⟨es, ck, h1, h2⟩ := h
    exact ⟨es, ck, h1, h2.mono hle⟩
  · rename_i hk
    rw [if_neg hk] at h
    obtain ⟨cs, T, fr, pre, tl, h1, h2, h3, h4, h5, h6⟩ := h
    exact ⟨cs, T, fr, pre, tl, h1, h2, h3, h4.mono (fun _ _ => C1.mono hle), h5, fun h => by rw [hle.tot b hb, hle.es b hb]; exact h6 h⟩

structure Rep (n0 : Base) (w0 : World) (K : Kx) (s : St) (w : World) : Prop where
  below : Below n0.n w0 w
  hn : n0.n ≤ w.heap.size
  nx : K.nx = s.next
  live : ∀ b x, find b s.heap = some x → b < K.nx ∧ n0.n ≤ K.bl b ∧ K.bl b < w.heap.size ∧ BlkRep K b x w.heap[K.bl b]?
  inj : ∀ b b' x x', find b s.heap = some x → find b' s.heap = some x' → K.bl b = K.bl b' → b = b'
  facts : ∀ t b, (t, b) ∈ s.facts → Den K t (.bool b)
  vals : ∀ t v, (t, v) ∈ s.vals → Den K t v ∧ plain v = true
  syr : ∀ i k n, K.sy i = .int k n → k.wrap n = n
  pfq : K.pf = n0.pf

section
variable {n0 : Base} {w0 : World} {K : Kx} {s : St} {w : World}

theorem Rep.drew (h : Rep n0 w0 K s w) : Rep n0 w0 K s { w with drawn := w.drawn + 1 } :=
  ⟨⟨h.below.os, h.below.tape, h.below.output, h.below.size, h.below.block⟩, h.hn, h.nx, h.live, h.inj, h.facts, h.vals, h.syr, h.pfq⟩

/- a block turned -/
theorem Rep.turned (h : Rep n0 w0 K s w) {b : Nat} {x x' : Blk} {o : Obj} (hx : find b s.heap = some x) (ho : BlkRep K b x' (some o)) :
    Rep n0 w0 K (s.setBlk b x') { w with heap := w.heap.setIfInBounds (K.bl b) o } := by
  obtain ⟨hb, hlo, hhi, _⟩ := h.live b x hx
  refine ⟨⟨h.below.os, h.below.tape, h.below.output, by simpa using h.below.size, fun k hk => ?_⟩, by simpa using h.hn, h.nx, ?_, ?_, h.facts, h.vals, h.syr, h.pfq⟩
  · have hne : K.bl b ≠ k := by omega
    simp only [Array.getElem?_setIfInBounds_ne hne]
    exact h.below.block k hk
  · intro c y hy
    rw [find_set] at hy
    by_cases e : b = c
    · subst e
      simp at hy
      subst hy
      refine ⟨hb, hlo, by simpa using hhi, ?_⟩
      simpa [Array.getElem?_setIfInBounds, hhi] using ho
    · rw [if_neg e] at hy
      obtain ⟨h1, h2, h3, h4⟩ := h.live c y hy
      refine ⟨h1, h2, by simpa using h3, ?_⟩
      have hne : K.bl b ≠ K.bl c := fun he => e (h.inj b c x y hx hy he)
      simp only [Array.getElem?_setIfInBounds_ne hne]
      exact h4
  · intro c c' y y' hy hy' hbl
    rw [find_set] at hy hy'
    by_cases e : b = c
    · by_cases e' : b = c'
      · rw [← e, ← e']
      · rw [if_neg e'] at hy'
        subst e
        exact h.inj b c' x y' hx hy' hbl
    · rw [if_neg e] at hy
      by_cases e' : b = c'
      · subst e'
        exact h.inj c b y x hy hx hbl
      · rw [if_neg e'] at hy'
        exact h.inj c c' y y' hy hy' hbl

/- a new block -/
def Kx.grow (K : Kx) (B tot es : Nat) : Kx :=
  ⟨fun b => if b = K.nx then B else K.bl b, fun b => if b = K.nx then tot else K.tot b, fun b => if b = K.nx then es else K.es b, K.nx + 1, K.sy, K.pf⟩

theorem Kx.le_grow (K : Kx) (B tot es : Nat) : K.le (K.grow B tot es) :=
  ⟨Nat.le_succ _, fun b hb => by simp [Kx.grow, Nat.ne_of_lt hb], fun b hb => by simp [Kx.grow, Nat.ne_of_lt hb],
   fun b hb => by simp [Kx.grow, Nat.ne_of_lt hb], rfl, rfl⟩

theorem Rep.made (h : Rep n0 w0 K s w) {x : Blk} {o : Obj} (tot es : Nat)
    (ho : BlkRep (K.grow w.heap.size tot es) s.next x (some o)) :
    Rep n0 w0 (K.grow w.heap.size tot es) (s.new x) { w with heap := w.heap.push o } := by
  have hle := Kx.le_grow K w.heap.size tot es
  refine ⟨⟨h.below.os, h.below.tape, h.below.output, by have := h.below.size; simp; omega, fun k hk => ?_⟩, by have := h.hn; simp; omega, by simp [Kx.grow, St.new, h.nx], ?_, ?_, fun t b ht => (h.facts t b ht).mono hle.sy hle.pf, fun t v ht => ⟨(h.vals t v ht).1.mono hle.sy hle.pf, (h.vals t v ht).2⟩, fun i k n hi => h.syr i k n (hle.sy ▸ hi), hle.pf.trans h.pfq⟩
  · have hlt : k < w.heap.size := Nat.lt_of_lt_of_le hk h.hn
    show (w.heap.push o)[k]? = _
    rw [Array.getElem?_push, if_neg (Nat.ne_of_lt hlt)]
    exact h.below.block k hk
  · intro b y hy
    rw [find_new] at hy
    by_cases e : s.next = b
    · subst e
      simp at hy
      subst hy
      have hbl : (K.grow w.heap.size tot es).bl s.next = w.heap.size := by simp [Kx.grow, h.nx]
      rw [hbl]
      refine ⟨by simp [Kx.grow, h.nx], h.hn, by simp, ?_⟩
      simpa using ho
    · rw [if_neg e] at hy
      obtain ⟨h1, h2, h3, h4⟩ := h.live b y hy
      have hbl : (K.grow w.heap.size tot es).bl b = K.bl b := hle.bl b h1
      rw [hbl]
      refine ⟨Nat.lt_succ_of_lt h1, h2, by simp; omega, ?_⟩
      show BlkRep _ _ _ (w.heap.push o)[K.bl b]?
      rw [Array.getElem?_push, if_neg (Nat.ne_of_lt h3)]
      exact h4.mono hle h1
  · intro b b' y y' hy hy' hbl
    rw [find_new] at hy hy'
    by_cases e : s.next = b
    · by_cases e' : s.next = b'
      · rw [← e, ← e']
      · rw [if_neg e'] at hy'
        obtain ⟨h1, _, h3, _⟩ := h.live b' y' hy'
        subst e
        rw [hle.bl b' h1] at hbl
        have : (K.grow w.heap.size tot es).bl s.next = w.heap.size := by simp [Kx.grow, h.nx]
        omega
    · rw [if_neg e] at hy
      obtain ⟨h1, _, h3, _⟩ := h.live b y hy
      by_cases e' : s.next = b'
      · subst e'
        rw [hle.bl b h1] at hbl
        have : (K.grow w.heap.size tot es).bl s.next = w.heap.size := by simp [Kx.grow, h.nx]
        omega
      · rw [if_neg e'] at hy'
        obtain ⟨h1', _, _, _⟩ := h.live b' y' hy'
        rw [hle.bl b h1, hle.bl b' h1'] at hbl
        exact h.inj b b' y y' hy hy' hbl

/- reading -/
theorem Rep.loaded (h : Rep n0 w0 K s w) {a : Addr} {n : Nat} {vs : List Value} (hl : loadN s a n = some vs) :
    ∃ cs, All2 (C1 K) vs cs ∧ cs.length = n ∧ ∀ j v, cs[j]? = some v → w.cell? ((⟨K.bl a.block, a.off, none⟩ : Addr).add j) = some v := by
  unfold loadN St.blk at hl
  split at hl
  · rename_i x hx
    split at hl
    · rename_i hk
      obtain ⟨_, _, _, hb⟩ := h.live _ x hx
      have hk2 : x.kind ≠ 2 := by intro e; simp [isCells, e] at hk
      unfold BlkRep at hb
      rw [if_neg hk2] at hb
      obtain ⟨cs, T, fr, pre, tl, h1, h2, h3, h4, _, _⟩ := hb
      obtain ⟨h5, h6⟩ := cellsAt_some _ _ _ _ hl
      refine ⟨(pre.drop a.off).take n, by rw [h6]; exact (h4.drop _).take _, ?_, ?_⟩
      · have := h4.length; simp; omega
      · intro j v hj
        have hadd : (⟨K.bl a.block, a.off, none⟩ : Addr).add j = ⟨K.bl a.block, a.off + j, none⟩ := by unfold Addr.add; split <;> simp_all
        rw [hadd]
        have hjn : j < n := by
          rcases Nat.lt_or_ge j n with hh | hh
          · exact hh
          · rw [List.getElem?_take, if_neg (by omega)] at hj; simp at hj
        rw [List.getElem?_take, if_pos hjn, List.getElem?_drop] at hj
        have hc : cs[a.off + j]? = some v := by
          rw [← Array.getElem?_toList, h3, List.getElem?_append_left (by
            rcases Nat.lt_or_ge (a.off + j) pre.length with hh | hh
            · exact hh
            · rw [List.getElem?_eq_none hh] at hj; simp at hj)]
          exact hj
        simp [World.cell?, h1, hc]
    · simp at hl
  · simp at hl

theorem Rep.run_loadCells (h : Rep n0 w0 K s w) {P : Program} {a : Addr} {n : Nat} {vs : List Value} (hl : loadN s a n = some vs) :
    ∃ cs, All2 (C1 K) vs cs ∧ cs.length = n ∧ (Go.loadCells ⟨K.bl a.block, a.off, none⟩ n).run P w = .ok cs.toArray w := by
  obtain ⟨cs, h1, h2, h3⟩ := h.loaded hl
  refine ⟨cs, h1, h2, ?_⟩
  have := run_loadCells_list (P := P) w ⟨K.bl a.block, a.off, none⟩ cs h3
  rwa [h2] at this

theorem Rep.run_load1 (h : Rep n0 w0 K s w) {P : Program} {a : Addr} {v : Value} (hl : loadN s a 1 = some [v]) :
    ∃ c, C1 K v c ∧ (Go.load ⟨K.bl a.block, a.off, none⟩).run P w = .ok c w := by
  obtain ⟨cs, h1, h2, h3⟩ := h.loaded hl
  match cs, h1, h2 with
  | [c], h1, _ =>
    have := h3 0 c rfl
    simp only [Addr.add, if_true] at this
    exact ⟨c, h1.1, by rw [Go.run_load, this]⟩

/- writing -/
theorem run_storeCells_blk {P : Program} (B o : Nat) (T : TypeId) (fr : Nat × Nat) : ∀ (vs : List Value) (i : Nat) (cs : Array Value) (w : World),
    w.heap[B]? = some (.cells cs T fr) → frOK fr cs.size → o + i + vs.length ≤ cs.size → (∀ v ∈ vs, v.oneCell' = true) →
    (Go.storeCells ⟨B, o, none⟩ vs i).run P w = .ok () (w.setRow B (cs.toList.take (o + i) ++ vs ++ cs.toList.drop (o + i + vs.length)).toArray)
  | [], i, cs, w, hg, _, _, _ => by
    simp only [Go.storeCells, List.append_nil, List.length_nil, Nat.add_zero, List.take_append_drop, Array.toArray_toList]
    rw [setRow_self w B cs T fr hg]
    rfl
  | v :: rest, i, cs, w, hg, hf, hl, h1 => by
    have hi : o + i < cs.size := by simp at hl; omega
    have hadd : (⟨B, o, none⟩ : Addr).add i = ⟨B, o + i, none⟩ := by unfold Addr.add; split <;> simp_all
    have hcell : w.cell? ⟨B, o + i, none⟩ = some cs[o + i] := by simp [World.cell?, hg, hi]
    have hfro : w.frozen? ⟨B, o + i, none⟩ = false := by
      simp only [World.frozen?, hg]
      rcases hf with hf | hf
      · simp; omega
      · simp; omega
    have hst : (Go.store ((⟨B, o, none⟩ : Addr).add i) v).run P w = .ok () (w.setRow B (cs.setIfInBounds (o + i) v)) := by
      rw [hadd, run_store P w _ v _ (h1 v (by simp)), hcell]
      simp [hfro, setCell_eq_setRow w B (o + i) cs T fr v hg]
    have ih := run_storeCells_blk (P := P) B o T fr rest (i + 1) (cs.setIfInBounds (o + i) v) (w.setRow B (cs.setIfInBounds (o + i) v)) (setRow_heap w B cs _ T _ hg) (by simpa using hf) (by simp at hl ⊢; omega) (fun x hx => h1 x (by simp [hx]))
    simp only [Go.storeCells, Sem.run_bind, hst, Result.andThen_ok, ih, setRow_setRow]
    congr 3
    have e := list_seg_step cs.toList (o + i) v rest (by simp at hl ⊢; omega)
    simpa [Array.toList_setIfInBounds, Nat.add_assoc] using e

theorem setRow_eq (w : World) (B : Nat) (cs cs' : Array Value) (T : TypeId) (fr : Nat × Nat) (hg : w.heap[B]? = some (.cells cs T fr)) :
    w.setRow B cs' = { w with heap := w.heap.setIfInBounds B (.cells cs' T fr) } := by
  have hlt : B < w.heap.size := (Array.getElem?_eq_some_iff.1 hg).1
  have hv : w.heap[B] = .cells cs T fr := (Array.getElem?_eq_some_iff.1 hg).2
  unfold World.setRow
  congr 1
  apply Array.ext
  · simp
  · intro j h1 h2
    by_cases e : B = j
    · subst e; simp [Array.getElem_modify, hv]
    · rw [Array.getElem_modify, if_neg e, Array.getElem_setIfInBounds_ne _ e]

theorem Rep.stored (h : Rep n0 w0 K s w) {P : Program} {a : Addr} {vs cs : List Value} {s' : St} (hs : storeN s a vs = some s') (hc : All2 (C1 K) vs cs) :
    ∃ w', (Go.storeCells ⟨K.bl a.block, a.off, none⟩ cs).run P w = .ok () w' ∧ Rep n0 w0 K s' w' := by
  unfold storeN St.blk at hs
  split at hs
  · rename_i x hx
    split at hs
    · rename_i hk
      split at hs
      · rename_i c hlay
        simp at hs
        subst hs
        obtain ⟨_, _, hlt, hb⟩ := h.live _ x hx
        have hk2 : x.kind ≠ 2 := by intro e; simp [isCells, e] at hk
        unfold BlkRep at hb
        rw [if_neg hk2] at hb
        obtain ⟨as, T, fr, pre, tl, h1, h2, h3, h4, h5, h6⟩ := hb
        obtain ⟨h7, h8⟩ := layAt_some _ _ _ _ hlay
        have hlen := h4.length
        have hcl := hc.length
        have hsz : as.size = pre.length + tl.length := by rw [← Array.length_toList, h3]; simp
        have hrun := run_storeCells_blk (P := P) (K.bl a.block) a.off T fr cs 0 as w h1 h2 (by omega) (fun v hv => by
          obtain ⟨j, hj⟩ := List.getElem?_of_mem hv
          have hjl : j < vs.length := by rw [hcl]; exact (List.getElem?_eq_some_iff.1 hj).1
          obtain ⟨b, hb1, hb2⟩ := hc.get j (List.getElem?_eq_getElem hjl)
          rw [hj] at hb1
          simp at hb1
          subst hb1
          exact hb2.one)
        refine ⟨_, hrun, ?_⟩
        rw [setRow_eq w _ as _ T fr h1]
        refine h.turned hx ?_
        unfold BlkRep
        rw [if_neg hk2]
        refine ⟨_, T, fr, pre.take a.off ++ cs ++ pre.drop (a.off + cs.length), tl, rfl, ?_, ?_, ?_, h5, ?_⟩
        · simp only [h3]
          have : ((pre ++ tl).take (a.off + 0) ++ cs ++ (pre ++ tl).drop (a.off + 0 + cs.length)).toArray.size = as.size := by
            simp; omega
          rw [this]
          exact h2
        · simp only [h3]
          rw [List.take_append_of_le_length (by omega), List.drop_append_of_le_length (by omega)]
          simp [List.append_assoc]
        · rw [h8, hcl]
          exact ((h4.take _).append hc).append (h4.drop _)
        · intro hk3
          obtain ⟨h9, h10⟩ := h6 hk3
          refine ⟨?_, h10⟩
          rw [← h9]
          simp only [h3]
          simp
          omega
      · simp at hs
    · simp at hs
  · simp at hs

end
end Go.Sx
