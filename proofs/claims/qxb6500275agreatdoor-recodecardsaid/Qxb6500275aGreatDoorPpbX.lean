import Derived.Test.Qxb6500275aGreatDoorPpa
import Derived.Test.Qxb6500275aGreatDoorKq
set_option maxRecDepth 100000
set_option linter.unusedVariables false
set_option linter.unusedSimpArgs false
namespace Go.Proofs.Qxb6500275aGreatDoor
open Go Go.RowKit
/- copy of n elements of k cells out of a block from cell o on -/
theorem run_copy_off {P : Program} (w : World) (dT sT ty elem : TypeId) (b a o n c k : Nat) {nb na : Nat} {D F : Nat → Value} (dn : Nat)
    (hu : P.underlying dT = some (.slice elem)) (hs : (P.info? elem).map (·.size) = some k) (hd : Blk w b nb D) (hf : Blk w a na F) (h1 : n * k ≤ nb) (h2 : o + n * k ≤ na) (hone : ∀ i, i < n * k → (F (o + i)).oneCell' = true) :
    (Builtin.copy_ #[dT, sT] ty #[.slice (some ⟨b, 0, none⟩) n dn, .slice (some ⟨a, o, none⟩) n c]).run P w = .ok (goInt n) (w.setCells b 0 (firstN (fun i => F (o + i)) (n * k))) := by
  have hl := run_loadCells_list (P := P) w ⟨a, o, none⟩ (firstN (fun i => F (o + i)) (n * k)) (fun j v hj => by
    have hjl := (List.getElem?_eq_some_iff.1 hj).1
    rw [firstN_len] at hjl
    rw [firstN_get _ _ _ hjl] at hj
    rw [add_none2, hf.cell (by omega)]
    exact hj)
  have hst := run_storeCells_cells (P := P) b 0 (firstN (fun i => F (o + i)) (n * k)) 0 w (fun j hj => by
    rw [firstN_len] at hj
    simp only [Nat.zero_add]
    rw [hd.cell (by omega)]; rfl) (fun j hj => by
    rw [firstN_len] at hj
    simp only [Nat.zero_add]
    exact hd.fz (by omega)) (fun v hv => by
    unfold firstN at hv
    obtain ⟨i, hi, rfl⟩ := List.mem_map.1 hv
    exact hone i (List.mem_range.1 hi))
  rw [firstN_len] at hl
  cases hq : P.info? elem with
  | none => simp [hq] at hs
  | some i =>
    have hi : i.size = k := by simpa [hq] using hs
    simp [Builtin.copy_, run_underlying hu, Builtin.lenOf, Builtin.firstCells, sizeOf, typeInfo, hq, hi, hl, hst]
/- the last round lays a cell -/
theorem step_end {M : Mod} {fn : Fn} {p q : PS} (h : PI p) (hc : p.ctl ≠ []) {x : Ins} (hx : InsOk x) (hF : FnOk fn) {last : Bool} (hs : stepP M fn last p x = some q) (hq : q.ctl = []) : 2 ≤ q.cells.length := by
  have hpos := h.pos
  by_cases h11 : skipP p x.op = none ∧ x.op = 11
  · unfold stepP at hs
    rw [h11.1] at hs
    dsimp only at hs
    rw [if_neg (by omega), if_neg (by omega), if_pos h11.2] at hs
    split at hs
    · simp at hs
    · rename_i q' hq'
      rcases iteC hs with ⟨_, hs⟩ | ⟨_, hs⟩
      · simp at hs
      simp at hs
      subst hs
      unfold shutP at hq'
      dsimp only at hq'
      rcases iteC hq' with ⟨_, hq'⟩ | ⟨_, hq'⟩
      · simp at hq'
      rcases iteC hq' with ⟨_, hq'⟩ | ⟨_, hq'⟩
      · simp at hq'
      simp at hq'
      subst hq'
      have hl0 : p.ctl.tail.length = 0 := by rw [show p.ctl.tail = [] from hq]; rfl
      dsimp only
      rw [List.length_tail] at hl0
      simp only [hl0, if_true, List.length_append, List.length_cons, List.length_nil, setX0_len, patchP_len]
      omega
  · have e : stepP M fn false p x = some q := by
      rw [← hs]
      unfold stepP
      cases hk : skipP p x.op with
      | some q' => rfl
      | none =>
        have : x.op ≠ 11 := fun e => h11 ⟨hk, e⟩
        dsimp only
        simp only [if_neg this]
    exact absurd ((h.step hc hx hF e).e hq) (by simp)
theorem flatL_two {M : Mod} {fn : Fn} (hF : FnOk fn) : ∀ (l : List Ins) (i : Nat) (p q : PS), PI p → p.ctl ≠ [] → (∀ x, x ∈ l → InsOk x) → flatL M fn l i p = .ok q → 2 ≤ q.cells.length
  | [], i, p, q, _, hc, _, h => by
    unfold flatL at h
    rw [if_neg (fun e => hc (List.length_eq_zero_iff.1 e))] at h
    simp at h
  | x :: xs, i, p, q, hp, hc, hx, h => by
    unfold flatL at h
    split at h
    · simp at h
    · rename_i q' hq
      have hk := hp.step hc (hx x (by simp)) hF hq
      by_cases e : q'.ctl = []
      · have := hk.e e
        have h0 : xs = [] := List.length_eq_zero_iff.1 (of_decide_eq_true this)
        subst h0
        unfold flatL at h
        rw [if_pos (by rw [e]; rfl)] at h
        simp at h
        subst h
        exact step_end hp hc (hx x (by simp)) hF hq e
      · exact flatL_two hF xs (i + 1) q' q hk.pi e (fun y hy => hx y (by simp [hy])) h
theorem flatP_two {M : Mod} {fn : Fn} {q : PS} {n : Nat} (hF : FnOk fn) (hn : n ≤ 1) (h : flatP M fn n = .ok q) : 2 ≤ q.cells.length :=
  flatL_two hF _ _ _ _ (PI.first n hn) (by simp) hF.body h
/- the code behind the first cell, copied -/
theorem Pd.copyTail {w W : World} {pb cb x K nn : Nat} {q : PS} {D : Nat → Value} (h : Pd w pb cb x q) (hn : q.cells.length = nn) (h2 : 2 ≤ nn) (hD : Blk W K ((nn - 1) * 3) D) (hG : ∀ G, Blk w cb 363 G → Blk W cb 363 G) :
    ∃ vs, (Builtin.copy_ #[102, 102] 3 #[.slice (some ⟨K, 0, none⟩) (nn - 1) (nn - 1), .slice (some ⟨cb, 3, none⟩) (nn - 1) 120]).run Tryz.prog W = .ok (goInt (nn - 1 : Nat)) (W.setCells K 0 vs) ∧ ∀ k0, k0 ≤ K → InsAt (W.setCells K 0 vs) k0 (.slice (some ⟨K, 0, none⟩) (nn - 1) (nn - 1)) q.cells.tail := by
  obtain ⟨⟨F, G, b1, b2, hl, hc⟩, ne⟩ := h
  have hl121 := hl.n
  have hcl := hl.cl
  have hlen : q.cells.tail.length = nn - 1 := by rw [List.length_tail, hn]
  refine ⟨firstN (fun i => G (3 + i)) ((nn - 1) * 3), ?_, fun k0 hk => ?_⟩
  · refine run_copy_off (P := Tryz.prog) W 102 102 3 129 K cb 3 (nn - 1) 120 3 (nn - 1) (by kernel_rfl) (by kernel_rfl) hD (hG G b2) (Nat.le_refl _) (by omega) (fun i hi => ?_)
    have hj : i / 3 + 1 < q.cells.length := by omega
    obtain ⟨e0, e1, e2⟩ := hcl (i / 3 + 1) q.cells[i / 3 + 1] (List.getElem?_eq_getElem hj)
    dsimp only at e0 e1 e2 ⊢
    have h3 : 3 + i = (i / 3 + 1) * 3 + 0 ∨ 3 + i = (i / 3 + 1) * 3 + 1 ∨ 3 + i = (i / 3 + 1) * 3 + 2 := by omega
    rcases h3 with h3 | h3 | h3
    · rw [h3, e0]; rfl
    · rw [h3, e1]; rfl
    · rw [h3, e2]; rfl
  · refine ⟨fun i => if i < (nn - 1) * 3 then G (3 + i) else D i, ⟨some ⟨K, 0, none⟩, by rw [hlen], fun h => by omega, fun _ => ⟨K, hk, rfl, ?_⟩⟩, fun i x hx => ?_⟩
    · rw [hlen]
      exact blk_setCells (w := W) (D := D) hD ((nn - 1) * 3) (Nat.le_refl _)
    · have hi := (List.getElem?_eq_some_iff.1 hx).1
      rw [hlen] at hi
      have hx' : q.cells[i + 1]? = some x := by rw [List.getElem?_tail] at hx; exact hx
      obtain ⟨e0, e1, e2⟩ := hcl (i + 1) x hx'
      refine ⟨?_, ?_, ?_⟩
      · dsimp only; rw [if_pos (by omega), ← e0]; congr 1; omega
      · dsimp only; rw [if_pos (by omega), ← e1]; congr 1; omega
      · dsimp only; rw [if_pos (by omega), ← e2]; congr 1; omega
/- a compiled function's row -/
def ffR : Rel FF := fun n0 w x f => (f 0 = .int .i64 x.params ∧ f 1 = .int .i64 x.locals ∧ f 2 = .int .i64 x.results) ∧ InsAt w n0 (f 3) x.cells
theorem ffR_ok : RowOk ffR := ⟨fun n0 w w' S x f h hk hs => ⟨h.1, h.2.keep hk hs⟩, fun n0 m0 w x f h hm => ⟨h.1, h.2.mono hm⟩⟩
theorem ff_pure : RowPure ffR 4 := ⟨fun n0 w x f g h e => ⟨⟨(e 0 (by decide)).trans h.1.1, (e 1 (by decide)).trans h.1.2.1, (e 2 (by decide)).trans h.1.2.2⟩, by rw [e 3 (by decide)]; exact h.2⟩⟩
/- the code in memory -/
structure Cd (w : World) (kc : Nat) (l : List FF) : Prop where
  is : ∃ v, w.cell? ⟨kc, 0, none⟩ = some v ∧ Ls ffR 4 (kc + 1) w v l
theorem Cd.keep {w w' : World} {kc : Nat} {l : List FF} {S : Nat → Prop} (h : Cd w kc l) (hk : Kp S w w') (hs : ∀ k, S k → k < kc) : Cd w' kc l := by
  obtain ⟨v, h1, h2⟩ := h.is
  exact ⟨v, by rw [hk.cell (p := ⟨kc, 0, none⟩) (lt_of_cell h1) (fun h => by have := hs _ h; dsimp only at this; omega)]; exact h1, h2.keep ffR_ok hk (fun k h => by have := hs _ h; omega)⟩
section
variable {w : World} {mb pb cb x fk fo : Nat} {M : Mod} {p : PS} {fn : Fn}
/- behind flat: the mark is raised, the depth is 0 -/
theorem Pw.rest (h : Pw w pb cb x) : ∃ nn : Nat, (w.cell? ⟨pb, 0, none⟩ = some (.slice (some ⟨cb, 0, none⟩) nn 121) ∧ w.cell? ⟨pb, 1, none⟩ = some (.int .i64 x) ∧ (∃ v, w.cell? ⟨pb, 51, none⟩ = some v) ∧ w.frozen? ⟨pb, 1, none⟩ = false ∧ w.frozen? ⟨pb, 51, none⟩ = false ∧ 1 ≤ nn ∧ nn ≤ 121 ∧ x ≤ 121 ∧ pb < w.heap.size) ∧ ∀ y : Nat, y = max x nn → Pr ((w.setCell ⟨pb, 1, none⟩ (.int .i64 (y : Int))).setCell ⟨pb, 51, none⟩ (.int .i64 0)) pb cb y := by
  obtain ⟨⟨F, G, cells, b1, b2, hl, n, hn⟩, ne⟩ := h
  refine ⟨cells.length, ⟨by rw [b1.cell (by decide), hl.sl], by rw [b1.cell (by decide), hl.hi.1], ⟨_, b1.cell (by decide)⟩, b1.fz (by decide), b1.fz (by decide), (List.getElem?_eq_some_iff.1 hl.z).1, hl.n, hl.hi.2.2, b1.lt (by decide)⟩, fun y hy => ?_⟩
  have h1 := hl.hi
  have h2 := hl.n
  refine ⟨⟨_, G, cells, (b1.set (i := 1) (by decide) _).set (i := 51) (by decide) _, (b2.other (Ne.symm ne) _).other (Ne.symm ne) _, ⟨?_, ?_, fun i h3 h4 h5 => hl.zr i (by omega) h4 h5, hl.cl, hl.z, hl.n⟩, by omega, upd_same _ _ _⟩, ne⟩
  · rw [upd_ne _ _ (by decide), upd_ne _ _ (by decide)]; exact hl.sl
  · rw [upd_ne _ _ (by decide), upd_same]; exact ⟨rfl, by omega, by omega⟩
def Z146 : Array Value := #[.int .i64 0, .int .i64 0, .int .i64 0, .slice none 0 0]
theorem mk146 (W : World) (n : Nat) (hn : n ≤ 8) : (Instr.makeSlice 146 (.int .i64 (n : Int)) (.int .i64 (n : Int))).run Tryz.prog W = .ok (.slice (some ⟨W.heap.size, 0, none⟩) n n) (W.alloc (.cells (madeCells Z146 (n * 4)) 151)) :=
  make_n2 W 146 151 n 4 48 Z146 (by kernel_rfl) (by kernel_rfl) (by kernel_rfl) (by omega) (by omega)
theorem mk102n (W : World) (n : Nat) (hn : n ≤ 121) : (Instr.makeSlice 102 (.int .i64 (n : Int)) (.int .i64 (n : Int))).run Tryz.prog W = .ok (.slice (some ⟨W.heap.size, 0, none⟩) n n) (W.alloc (.cells (madeCells Z102 (n * 3)) 129)) :=
  make_n2 W 102 129 n 3 16 Z102 (by kernel_rfl) (by kernel_rfl) (by kernel_rfl) (by omega) (by omega)
/- amid the functions -/
structure CI (w w1 : World) (pb cb kc kk nf : Nat) (l : List FF) : Prop where
  c : w1.cell? ⟨kc, 0, none⟩ = some (.slice (some ⟨kk, 0, none⟩) nf nf)
  rw : Rw ffR w1 (kk + 1) kk nf 4 (fun c => Z146[c]!) l (fun c => Z146[c]!)
  kp : Kp (P2 pb cb) w w1
  kc : kc = w.heap.size ∧ kk = w.heap.size + 1 ∧ kk < w1.heap.size
theorem CI.keep {w1 w2 : World} {kc kk nf : Nat} {l : List FF} (h : CI w w1 pb cb kc kk nf l) (hk : Kp (P2 pb cb) w1 w2) (hp : pb < w.heap.size ∧ cb < w.heap.size) : CI w w2 pb cb kc kk nf l := by
  obtain ⟨h1, h2, h3⟩ := h.kc
  have hs := hk.size
  refine ⟨?_, h.rw.keep ffR_ok hk (by unfold P2; omega) (fun j hj => by unfold P2 at hj; omega), h.kp.trans hk, h1, h2, by omega⟩
  rw [hk.cell (p := ⟨kc, 0, none⟩) (lt_of_cell h.c) (by unfold P2; dsimp only; omega)]
  exact h.c
/- a function's row is laid -/
theorem CI.push {w1 : World} {kc kk nf k : Nat} {l : List FF} (h : CI w w1 pb cb kc kk nf l) (hl : l.length = k) (hk : k < nf) (hp : pb < w.heap.size ∧ cb < w.heap.size) (f : FF) (vp vl vr v : Value) (hv : vp = .int .i64 f.params ∧ vl = .int .i64 f.locals ∧ vr = .int .i64 f.results) (hi : InsAt w1 (kk + 1) v f.cells) :
    CI w ((((w1.setCell ⟨kk, k * 4, none⟩ vp).setCell ⟨kk, k * 4 + 1, none⟩ vl).setCell ⟨kk, k * 4 + 2, none⟩ vr).setCell ⟨kk, k * 4 + 3, none⟩ v).drew pb cb kc kk nf (l ++ [f]) ∧ Kp (fun j => j = kk) w1 ((((w1.setCell ⟨kk, k * 4, none⟩ vp).setCell ⟨kk, k * 4 + 1, none⟩ vl).setCell ⟨kk, k * 4 + 2, none⟩ vr).setCell ⟨kk, k * 4 + 3, none⟩ v).drew := by
  subst hl
  obtain ⟨h1, h2, h3⟩ := h.kc
  have hk1 : Kp (fun j => j = kk) w1 ((((w1.setCell ⟨kk, l.length * 4, none⟩ vp).setCell ⟨kk, l.length * 4 + 1, none⟩ vl).setCell ⟨kk, l.length * 4 + 2, none⟩ vr).setCell ⟨kk, l.length * 4 + 3, none⟩ v).drew :=
    (((((Kp.refl (fun j => j = kk) w1).setCell (p := ⟨kk, l.length * 4, none⟩) (.inl rfl) vp).setCell (p := ⟨kk, l.length * 4 + 1, none⟩) (.inl rfl) vl).setCell (p := ⟨kk, l.length * 4 + 2, none⟩) (.inl rfl) vr).setCell (p := ⟨kk, l.length * 4 + 3, none⟩) (.inl rfl) v).drew
  have hr := (((h.rw.set ffR_ok ff_pure hk (c := 0) (by decide) vp (by omega)).set ffR_ok ff_pure hk (c := 1) (by decide) vl (by omega)).set ffR_ok ff_pure hk (c := 2) (by decide) vr (by omega)).set ffR_ok ff_pure hk (c := 3) (by decide) v (by omega)
  have hr2 := hr.keep (S := fun _ => False) (w' := ((((w1.setCell ⟨kk, l.length * 4, none⟩ vp).setCell ⟨kk, l.length * 4 + 1, none⟩ vl).setCell ⟨kk, l.length * 4 + 2, none⟩ vr).setCell ⟨kk, l.length * 4 + 3, none⟩ v).drew) ffR_ok (Kp.refl _ _).drew (fun h => h) (fun j h => h.elim)
  refine ⟨⟨?_, hr2.push ff_pure hk ⟨⟨hv.1, hv.2.1, hv.2.2⟩, hi.keep hk1 (fun j hj => by subst hj; omega)⟩, ?_, h1, h2, Nat.lt_of_lt_of_le h3 hk1.size⟩, hk1⟩
  · rw [hk1.cell (p := ⟨kc, 0, none⟩) (lt_of_cell h.c) (by dsimp only; omega)]; exact h.c
  · exact h.kp.later hk1 (fun j hj => .inr (by omega))
def CO (M : Mod) (pb cb : Nat) (w : World) (o : Except (Nat × Nat) (List FF)) (en : Ending) (w' : World) : Prop :=
  Kp (P2 pb cb) w w' ∧ (∃ x, Pr w' pb cb x) ∧ match o with
    | .ok l => ∃ kc, w.heap.size ≤ kc ∧ en = .returned (.tuple #[.pointer (some ⟨kc, 0, none⟩), .int .i64 M.funcs.length, .int .i64 0, .int .i64 0]) ∧ Cd w' kc l
    | .error (k, a) => en = .returned (.tuple #[.pointer none, .int .i64 k, .int .i64 a, .int .i64 29])
end
end Go.Proofs.Qxb6500275aGreatDoor
