import Derived.Test.Qxb6500275aGreatDoorHk0
import Derived.Test.Qxb6500275aGreatDoorVc1
import Derived.Deep.QuietTactic
import Derived.StillTailTactics
import Derived.Test.Qxb6500275aGreatDoorSp14
import Derived.ArgAppend
import Derived.Test.Qxb6500275aGreatDoorPpc
import Derived.BigQuiet
set_option maxRecDepth 100000
set_option linter.unusedVariables false
set_option linter.unusedSimpArgs false
namespace Go.Proofs.Qxb6500275aGreatDoor
open Go Go.RowKit
theorem ta_189_279f (v : Value) (w : World) : (Instr.typeAssert (.iface 189 v) 184 279 false).run Tryz.prog w = .ok (.iface 189 v) w := by kernel_rfl
theorem eq186 (hb : Nat) (W : World) : (binOp .eql 186 (.func (.func 265) #[.pointer (some ⟨hb, 0, none⟩)] #[]) .nilFunc).run Tryz.prog W = .ok (.bool false) W := by kernel_rfl
theorem ne186 (W : World) : (binOp .neq 186 .nilFunc .nilFunc).run Tryz.prog W = .ok (.bool false) W := by kernel_rfl
theorem eq245 (n : Nat) (W : World) : (binOp .eql 245 (.func (.func n) #[] #[]) .nilFunc).run Tryz.prog W = .ok (.bool false) W := by kernel_rfl
/- the names, by their rank -/
def nameR (q : Nat) : ByteArray := if q = 0 then ⟨#[115, 105, 122, 101]⟩ else if q = 1 then ⟨#[116, 97, 112, 101]⟩ else if q = 2 then ⟨#[116, 114, 97, 112]⟩ else ⟨#[122, 101, 114, 111]⟩
/- born -> rank, rank -> born -/
def rkB (b : Nat) : Nat := if b = 0 then 1 else if b = 1 then 3 else if b = 2 then 0 else 2
def bnR (q : Nat) : Nat := if q = 0 then 2 else if q = 1 then 0 else if q = 2 then 3 else 1
def rsOf (seen : Array Nat) : List Nat := [0, 1, 2, 3].filter (fun q => seen.contains (bnR q))
def rsB (m0 m1 m2 m3 : Bool) : List Nat := (if m0 then [0] else []) ++ (if m1 then [1] else []) ++ (if m2 then [2] else []) ++ (if m3 then [3] else [])
theorem rsOf_B (seen : Array Nat) : rsOf seen = rsB (seen.contains 2) (seen.contains 0) (seen.contains 3) (seen.contains 1) := by
  unfold rsOf rsB
  have e0 : bnR 0 = 2 := rfl
  have e1 : bnR 1 = 0 := rfl
  have e2 : bnR 2 = 3 := rfl
  have e3 : bnR 3 = 1 := rfl
  simp only [List.filter_cons, List.filter_nil, e0, e1, e2, e3]
  cases seen.contains 2 <;> cases seen.contains 0 <;> cases seen.contains 3 <;> cases seen.contains 1 <;> rfl
theorem ins_all : ∀ m0 m1 m2 m3 : Bool, ∀ x i : Fin 5, x.val < 4 → ¬ x.val ∈ rsB m0 m1 m2 m3 → i.val ≤ (rsB m0 m1 m2 m3).length → (∀ y ∈ (rsB m0 m1 m2 m3).drop i.val, x.val < y) → (i.val = 0 ∨ (rsB m0 m1 m2 m3).getD (i.val - 1) 0 ≤ x.val) →
    (rsB m0 m1 m2 m3).take i.val ++ x.val :: (rsB m0 m1 m2 m3).drop i.val = rsB (m0 || x.val == 0) (m1 || x.val == 1) (m2 || x.val == 2) (m3 || x.val == 3) := by decide
theorem rsB_len : ∀ m0 m1 m2 m3 : Bool, (rsB m0 m1 m2 m3).length ≤ 4 ∧ (∀ x : Fin 4, ¬ x.val ∈ rsB m0 m1 m2 m3 → (rsB m0 m1 m2 m3).length ≤ 3) ∧ ∀ y ∈ rsB m0 m1 m2 m3, y < 4 := by decide
theorem rsB_4 : rsB true true true true = [0, 1, 2, 3] := rfl
theorem lessR : ∀ p q : Fin 4, Op.bytesLess (nameR p.val).toList (nameR q.val).toList = decide (p.val < q.val) := by decide +kernel
theorem eqR : ∀ p q : Fin 4, (nameR p.val).toList = (nameR q.val).toList → p = q := by decide +kernel
theorem count_snoc (l : List Nat) (x : Nat) : (l ++ [x]).count 32 = l.count 32 + if x = 32 then 1 else 0 := by
  rw [List.count_append, List.count_singleton]
  simp
theorem sizeOfU166 (w : World) : (sizeOf (Tryz.prog.elem 166)).run Tryz.prog w = .ok 1 w := by
  have e : Tryz.prog.elem 166 = 184 := by kernel_rfl
  have h : (sizeOf 184).run Tryz.prog w = .ok 1 w := by kernel_rfl
  rw [e]
  exact h
theorem slice166 (B n o : Nat) (h : n ≤ 4) (ho : o = if n = 4 then 0 else n) (w : World) : (Instr.sliceAt 166 (.slice (some ⟨B, 0, none⟩) n 4) (some (.int .i64 (n : Int))) (some (.int .i64 4)) none).run Tryz.prog w = .ok (.slice (some ⟨B, o, none⟩) (4 - n) (4 - n)) w := by
  rw [run_sliceAt_slice w 166 _ _ _ _ (by kernel_rfl), run_slice_lh w 166 _ n 4 (by kernel_rfl) .i64 .i64 (n : Int) 4 (by omega) (by omega) (by omega), sizeOfU166]
  have : n = 0 ∨ n = 1 ∨ n = 2 ∨ n = 3 ∨ n = 4 := by omega
  rcases this with rfl | rfl | rfl | rfl | rfl <;> (subst ho; simp [Result.andThen_ok, sliced, add_non])
theorem kp_in' {A P : Nat → Prop} {a b c : World} (h : Kp A a b) (k : Kp P b c) (hp : ∀ i, i < a.heap.size → P i → A i) : Kp A a c :=
  ⟨k.os.trans h.os, k.tape.trans h.tape, k.output.trans h.output, Nat.le_trans h.size k.size, fun i hi ha => by
    rw [k.block i (Nat.lt_of_lt_of_le hi h.size) (fun e => ha (hp i hi e))]
    exact h.block i hi ha⟩
/- amid the names: the slice's block, the registry, the iterator -/
structure Nw (w u : World) (ns bm r : Nat) (seen : Array Nat) (L : List Nat) : Prop where
  kp : Kp (fun _ => False) w u
  blk : ∃ D, Blk u ns 4 D ∧ ∀ (i q : Nat), L[i]? = some q → D i = .string (nameR q)
  it : u.heap[r]? = some (.mapIter (some bm) 4 seen 4)
  mp : u.heap[bm]? = some (.map regM 4)
  ge : w.heap.size ≤ ns ∧ w.heap.size ≤ bm ∧ w.heap.size ≤ r
  ne : ns ≠ bm ∧ ns ≠ r ∧ bm ≠ r
section
variable {w u u' : World} {ns bm r : Nat} {seen : Array Nat} {L : List Nat}
theorem Nw.quiet (h : Nw w u ns bm r seen L) (hk : Kp (fun _ => False) u u') : Nw w u' ns bm r seen L := by
  obtain ⟨D, d1, d2⟩ := h.blk
  exact ⟨h.kp.trans hk, ⟨D, d1.keep hk (fun h => h), d2⟩, by rw [hk.block r (Array.getElem?_eq_some_iff.1 h.it).1 (fun h => h)]; exact h.it, by rw [hk.block bm (Array.getElem?_eq_some_iff.1 h.mp).1 (fun h => h)]; exact h.mp, h.ge, h.ne⟩
theorem Nw.set (h : Nw w u ns bm r seen L) {i : Nat} (hi : i < 4) (q : Nat) {L' : List Nat} (hL : ∀ (j p : Nat), L'[j]? = some p → (j = i ∧ p = q) ∨ (j ≠ i ∧ L[j]? = some p)) : Nw w (u.setCell ⟨ns, i, none⟩ (.string (nameR q))) ns bm r seen L' := by
  obtain ⟨D, d1, d2⟩ := h.blk
  have hk : Kp (fun k => k = ns) u (u.setCell ⟨ns, i, none⟩ (.string (nameR q))) := (Kp.refl (fun k => k = ns) u).setCell (p := ⟨ns, i, none⟩) (.inl rfl) _
  refine ⟨kp_in' h.kp hk (fun k hk e => by have := h.ge; omega), ⟨_, d1.set hi _, fun j p hj => ?_⟩, by rw [hk.block r (Array.getElem?_eq_some_iff.1 h.it).1 (fun e => h.ne.2.1 e.symm)]; exact h.it, by rw [hk.block bm (Array.getElem?_eq_some_iff.1 h.mp).1 (fun e => h.ne.1 e.symm)]; exact h.mp, h.ge, h.ne⟩
  rcases hL j p hj with ⟨rfl, rfl⟩ | ⟨h1, h2⟩
  · exact upd_same _ _ _
  · rw [upd_ne _ _ h1]; exact d2 j p h2
theorem Nw.next (h : Nw w u ns bm r seen L) {W1 : World} (a1 : W1.heap = u.heap) (a2 : W1.os = u.os) (a3 : W1.tape = u.tape) (a4 : W1.output = u.output) (b : Nat) : Nw w (itW W1 r (.mapIter (some bm) 4 (seen.push b) 4)) ns bm r (seen.push b) L := by
  obtain ⟨D, d1, d2⟩ := h.blk
  have hrl : r < u.heap.size := (Array.getElem?_eq_some_iff.1 h.it).1
  have hk : Kp (fun k => k = r) u (itW W1 r (.mapIter (some bm) 4 (seen.push b) 4)) := ⟨a2, a3, a4, by unfold itW; simp [a1], fun k hk hne => by
    unfold itW
    dsimp only
    rw [a1, Array.getElem?_setIfInBounds_ne (fun e => hne e.symm)]⟩
  refine ⟨kp_in' h.kp hk (fun k hk e => by have := h.ge; omega), ⟨D, d1.keep hk h.ne.2.1, d2⟩, ?_, by rw [hk.block bm (Array.getElem?_eq_some_iff.1 h.mp).1 h.ne.2.2]; exact h.mp, h.ge, h.ne⟩
  unfold itW
  dsimp only
  rw [a1, Array.getElem?_setIfInBounds_self_of_lt hrl]
end
theorem left_is {seen : Array Nat} {e : MapEntry} (h : e ∈ (leftOf regM seen).toList) : e ∈ regM.toList ∧ seen.contains e.born = false ∧ ∃ b, b < 4 ∧ e = ⟨.string (nameR (rkB b)), .func (.func (212 + b)) #[] #[], b⟩ := by
  unfold leftOf at h
  have h1 : e ∈ regM.toList ∧ (!seen.contains e.born) = true := by
    rw [Array.toList_filter, List.mem_filter] at h
    exact h
  refine ⟨h1.1, by simpa using h1.2, ?_⟩
  have h2 := h1.1
  unfold regM at h2
  simp only [List.mem_cons, List.not_mem_nil, or_false] at h2
  rcases h2 with rfl | rfl | rfl | rfl
  · exact ⟨0, by decide, rfl⟩
  · exact ⟨1, by decide, rfl⟩
  · exact ⟨2, by decide, rfl⟩
  · exact ⟨3, by decide, rfl⟩
theorem left_no {seen : Array Nat} (h : (leftOf regM seen).size = 0) : rsOf seen = [0, 1, 2, 3] := by
  have h0 : ∀ e ∈ regM.toList, seen.contains e.born = true := fun e he => by
    cases hc : seen.contains e.born with
    | true => rfl
    | false =>
      exfalso
      have : e ∈ (leftOf regM seen).toList := by
        unfold leftOf
        rw [Array.toList_filter, List.mem_filter]
        exact ⟨he, by rw [hc]; rfl⟩
      have := List.length_pos_of_mem this
      rw [Array.length_toList] at this
      omega
  have a0 := h0 ⟨.string tapeB, fnV 212, 0⟩ (by unfold regM; simp)
  have a1 := h0 ⟨.string zeroB, fnV 213, 1⟩ (by unfold regM; simp)
  have a2 := h0 ⟨.string sizeB, fnV 214, 2⟩ (by unfold regM; simp)
  have a3 := h0 ⟨.string trapB, fnV 215, 3⟩ (by unfold regM; simp)
  dsimp only at a0 a1 a2 a3
  rw [rsOf_B, a0, a1, a2, a3, rsB_4]
theorem rs_push {seen : Array Nat} {b : Nat} (hb : b < 4) (hn : seen.contains b = false) {i : Nat} (hi : i ≤ (rsOf seen).length) (h1 : ∀ y ∈ (rsOf seen).drop i, rkB b < y) (h2 : i = 0 ∨ (rsOf seen).getD (i - 1) 0 ≤ rkB b) : (rsOf seen).take i ++ rkB b :: (rsOf seen).drop i = rsOf (seen.push b) := by
  have hp : ∀ k, (seen.push b).contains k = (seen.contains k || b == k) := fun k => by
    rw [Array.contains_push]
    cases seen.contains k <;> cases hbk : (b == k) <;> simp_all [Bool.beq_comm]
  rw [rsOf_B] at hi h1 h2 ⊢
  rw [rsOf_B, hp, hp, hp, hp]
  have hl := (rsB_len (seen.contains 2) (seen.contains 0) (seen.contains 3) (seen.contains 1)).1
  have hnot : ¬ rkB b ∈ rsB (seen.contains 2) (seen.contains 0) (seen.contains 3) (seen.contains 1) := by
    have hb4 : b = 0 ∨ b = 1 ∨ b = 2 ∨ b = 3 := by omega
    rcases hb4 with rfl | rfl | rfl | rfl <;> (rw [hn]; generalize seen.contains _ = x; revert x; try (generalize seen.contains _ = y; revert y); try (generalize seen.contains _ = z; revert z); decide)
  have key := ins_all (seen.contains 2) (seen.contains 0) (seen.contains 3) (seen.contains 1) ⟨rkB b, by unfold rkB; split <;> (try split) <;> (try split) <;> decide⟩ ⟨i, by omega⟩ (by unfold rkB; dsimp only; split <;> (try split) <;> (try split) <;> decide) hnot hi h1 h2
  dsimp only at key
  rw [key]
  have hb4 : b = 0 ∨ b = 1 ∨ b = 2 ∨ b = 3 := by omega
  rcases hb4 with rfl | rfl | rfl | rfl <;> rfl
/- the names' table -/
def Kn (w : World) : Prop := ∀ q, q < 4 → w.cell? ⟨0, q, none⟩ = some (.string (nameR q))
theorem rkB_lt {b : Nat} (hb : b < 4) : rkB b < 4 := by
  have hb4 : b = 0 ∨ b = 1 ∨ b = 2 ∨ b = 3 := by omega
  rcases hb4 with rfl | rfl | rfl | rfl <;> decide
theorem rs_not {seen : Array Nat} {b : Nat} (hb : b < 4) (hn : seen.contains b = false) : ¬ rkB b ∈ rsOf seen ∧ (rsOf seen).length ≤ 3 ∧ ∀ y ∈ rsOf seen, y < 4 := by
  have hl := rsB_len (seen.contains 2) (seen.contains 0) (seen.contains 3) (seen.contains 1)
  have hnot : ¬ rkB b ∈ rsOf seen := by
    rw [rsOf_B]
    have hb4 : b = 0 ∨ b = 1 ∨ b = 2 ∨ b = 3 := by omega
    rcases hb4 with rfl | rfl | rfl | rfl <;> (rw [hn]; generalize seen.contains _ = x; revert x; try (generalize seen.contains _ = y; revert y); try (generalize seen.contains _ = z; revert z); decide)
  refine ⟨hnot, ?_, ?_⟩
  · rw [rsOf_B] at hnot ⊢
    exact hl.2.1 ⟨rkB b, rkB_lt hb⟩ hnot
  · rw [rsOf_B]; exact hl.2.2
theorem app77 (W : World) (ns n : Nat) (nm : ByteArray) {D : Nat → Value} (hB : Blk W ns 4 D) (hn : n < 4) : (Builtin.append_ #[77, 77] 77 #[.slice (some ⟨ns, 0, none⟩) n 4, .slice (some ⟨W.heap.size, 0, none⟩) 1 1]).run Tryz.prog (W.alloc (.cells #[.string nm] 9)) = .ok (.slice (some ⟨ns, 0, none⟩) (n + 1) 4) ((W.alloc (.cells #[.string nm] 9)).setCell ⟨ns, n, none⟩ (.string nm)) := by
  have h9 : ∃ i : TypeInfo, Tryz.prog.info? 9 = some i ∧ i.size = 1 := by
    have h0 : (Tryz.prog.info? 9).map (fun i => i.size) = some 1 := by kernel_rfl
    cases h : Tryz.prog.info? 9 with
    | none => rw [h] at h0; simp at h0
    | some i => rw [h] at h0; simp at h0; exact ⟨i, rfl, h0⟩
  obtain ⟨i, hi, hs⟩ := h9
  have hB' := hB.keep ((Kp.refl (fun _ => False) W).alloc (.cells #[.string nm] 9)) (fun h => h)
  have hl := run_append_room_cells (P := Tryz.prog) (W.alloc (.cells #[.string nm] 9)) 77 77 9 i (by kernel_rfl) hi ns 0 n 4 ⟨W.heap.size, 0, none⟩ 1 1 [.string nm] (by rw [hs]; rfl) (fun j u hu => by
    cases j with
    | zero => simp at hu; subst hu; rw [add_non, World.cell?_alloc_at _ _ _ _ rfl]; rfl
    | succ j => simp at hu) (fun u hu => by simp at hu; subst hu; rfl) (by omega) (fun j hj => by
      have : j = 0 := by simpa using hj
      subst this
      rw [hs, Nat.mul_one, Nat.zero_add, Nat.add_zero, hB'.cell hn]; rfl) (fun j hj => by
      have : j = 0 := by simpa using hj
      subst this
      rw [hs, Nat.mul_one, Nat.zero_add, Nat.add_zero]; exact hB'.fz hn)
  rw [hs, Nat.mul_one, Nat.zero_add] at hl
  exact hl
section
variable {w w' : World} {hb bb tb : Nat} {T : Nat → Prop} {H : Hm}
set_option maxHeartbeats 16000000 in
theorem hcheck_calls (hkn : Kn w) (h : Hw w hb bb tb T H) (hO : HmOk H) : Calls Tryz.prog 142 #[.pointer (some ⟨hb, 0, none⟩)] w (fun en w' => en = .returned (.bool true) ∧ Kp (fun _ => False) w w') := by
  have HKN : Hid _ := hkn
  clear hkn
  obtain ⟨⟨F, G, C, head, b1, b2, b3, hl⟩, d1, d2, d3, ht⟩ := h
  have c0 := b1.cell (i := 0) (by decide)
  have c7 := b1.cell (i := 7) (by decide)
  have c8 := b1.cell (i := 8) (by decide)
  have c9 := b1.cell (i := 9) (by decide)
  have c10 := b1.cell (i := 10) (by decide)
  rw [hl.f0] at c0
  rw [hl.f7] at c7
  rw [hl.f8] at c8
  rw [hl.f9] at c9
  rw [hl.f10] at c10
  have hhd := hl.hd
  have hb4 := hO.bd.1
  have htr := hO.tr.1
  have hrw := hO.rows
  obtain ⟨nb, hnb⟩ : ∃ n, H.bd.length = n := ⟨_, rfl⟩
  obtain ⟨np, hnp⟩ : ∃ n, H.tp.length = n := ⟨_, rfl⟩
  obtain ⟨nr, hnr⟩ : ∃ n, H.tr.length = n := ⟨_, rfl⟩
  obtain ⟨rows, hrows⟩ : ∃ n, H.rows = n := ⟨_, rfl⟩
  have HNB : Hid _ := hnb
  have HNP : Hid _ := hnp
  have HNR : Hid _ := hnr
  have HROW : Hid _ := hrows
  rw [hnb] at c0 hb4
  rw [hnp] at c8 hhd
  rw [hnr] at c9
  rw [hnr, hrows] at htr
  rw [hrows] at c10 hrw
  have HB1 : Hid (Blk w hb 11 F) := b1
  have HB2 : Hid (Blk w bb 4 G) := b2
  have HB3 : Hid (Blk w tb 864 C) := b3
  have HL : Hid _ := hl
  have HO : Hid _ := hO
  have i1 : ¬ ((4 : Int) < (nb : Int)) := by omega
  have i2 : decide ((head : Int) < 0) = false := decide_eq_false (by omega)
  have i3 : decide ((np : Int) < 0) = false := decide_eq_false (by omega)
  have i4 : decide ((6 : Int) < (head : Int) + (np : Int)) = false := decide_eq_false (by omega)
  have i5 : decide ((rows : Int) < 0) = false := decide_eq_false (by omega)
  have i6 : decide ((12 : Int) < (rows : Int)) = false := decide_eq_false (by omega)
  have i7 : (head : Int) + (np : Int) ≤ 6 := by omega
  clear b1 b2 b3 hl hO hnb hnp hnr hrows d1 d2 d3 ht
  go_enter Tryz.func142, Tryz.ntmps142
  go_wp2_with fail
  go_quiet (fail)
  go_wp2_with fail
  have HK0 : Hid (Kp (fun _ => False) w (w.drewN nq)) := ⟨rfl, rfl, rfl, Nat.le_refl _, fun _ _ _ => rfl⟩
  generalize w.drewN nq = W1 at HK0 ⊢
  clear i2 i3 i4 i5 i6 i7
  have a189 := ta_189_189
  have a248 := ta_248_189
  have a250 := ta_250_189
  have a251 := ta_251_189
  have w189 := ta_189_279
  have w248 := ta_248_279
  have w250 := ta_250_279
  have w251 := ta_251_279
  have wf := ta_189_279f
  have mew := me_189w
  have n189 := ta_0_189
  have e186 := eq186 hb
  have f186 := ne186
  go_loopw [89] (fun ii w1 => ∃ (i : Nat), i ≤ nb ∧ ii = .int .i64 i ∧ Hid (Kp (fun _ => False) w w1)) (fun ii _ => nb + 1 - (intOf ii).toNat)
  case atStart => exact ⟨0, by omega, rfl, HK0⟩
  case round =>
    clear HK0
    obtain ⟨i, hi, rfl, HK⟩ := hrel
    by_cases hlt : i < nb
    · obtain ⟨k, hk⟩ : ∃ k, H.bd[i]? = some k := ⟨_, List.getElem?_eq_getElem (by rw [HNB.out]; exact hlt)⟩
      have hf := (HL.out.bd i k hk).keep HK.out (fun _ _ h => h)
      have cb : wr.cell? ⟨bb, i, none⟩ = some (G i) := by rw [HK.out.cell (p := ⟨bb, i, none⟩) (HB2.out.lt (by decide)) (fun h => h)]; exact HB2.out.cell (by omega)
      have hkc := kind_any hf.loose wr
      have hib : (i : Int) < (nb : Int) := by omega
      generalize G i = gv at cb hkc hf
      clear hk
      rcases hf with ⟨rfl, fb, rfl, hTf, hBf⟩ | ⟨rfl, rfl⟩ | ⟨rfl, rfl⟩ | ⟨rfl, rfl⟩
      · have hfb := hBf.cell (i := 0) (by decide)
        unfold takeV at hfb
        have hwa := fun v => fWants_calls wr v
        clear hBf hTf
        go_wp2_with fail
        refine hkc.mono ?_
        rintro en w3 ⟨rfl, rfl⟩
        go_wp2_with fail
        refine (hwa _).mono ?_
        rintro en w4 ⟨rfl, rfl⟩
        go_wp2_with fail
        go_roundw
        case rel => exact ⟨i + 1, by omega, by go_num, HK⟩
        case measure => simp [intOf]; omega
      · go_wp2_with fail
        refine hkc.mono ?_
        rintro en w3 ⟨rfl, rfl⟩
        go_wp2_with fail
        go_roundw
        case rel => exact ⟨i + 1, by omega, by go_num, HK⟩
        case measure => simp [intOf]; omega
      · go_wp2_with fail
        refine hkc.mono ?_
        rintro en w3 ⟨rfl, rfl⟩
        go_wp2_with fail
        go_roundw
        case rel => exact ⟨i + 1, by omega, by go_num, HK⟩
        case measure => simp [intOf]; omega
      · go_wp2_with fail
        refine hkc.mono ?_
        rintro en w3 ⟨rfl, rfl⟩
        go_wp2_with fail
        go_roundw
        case rel => exact ⟨i + 1, by omega, by go_num, HK⟩
        case measure => simp [intOf]; omega
    · have hie : nb = i := by omega
      subst hie
      have c0' : wr.cell? ⟨hb, 0, none⟩ = some (.slice (some ⟨bb, 0, none⟩) nb 4) := by rw [HK.out.cell (p := ⟨hb, 0, none⟩) (lt_of_cell c0) (fun h => h)]; exact c0
      obtain ⟨o, ho⟩ : ∃ o, o = if nb = 4 then 0 else nb := ⟨_, rfl⟩
      have hsl := slice166 bb nb o hb4 ho
      have HOO : Hid _ := ho
      clear ho
      go_wp2_with fail
      go_quiet (fail)
      go_wp2_with fail
      have HK1 : Hid (Kp (fun _ => False) w (wr.drewN nq)) := HK.out.trans ⟨rfl, rfl, rfl, Nat.le_refl _, fun _ _ _ => rfl⟩
      clear c0' hsl
      generalize wr.drewN nq = W2 at HK1 ⊢
      go_loopw [148] (fun ii w1 => ∃ (i : Nat), i ≤ 4 - nb ∧ ii = .int .i64 i ∧ Hid (Kp (fun _ => False) w w1)) (fun ii _ => 4 - nb + 1 - (intOf ii).toNat)
      case atStart => exact ⟨0, by omega, rfl, HK1⟩
      case round =>
        clear HK1 HK
        obtain ⟨i, hi, rfl, HK⟩ := hrel
        by_cases hlt : i < 4 - nb
        · have hoh : o = nb := by have h := HOO.out; rw [if_neg (by omega)] at h; exact h
          have hf := (HL.out.st (nb + i) (by rw [HNB.out]; omega) (by omega)).keep HK.out (fun _ _ h => h)
          have cb : wr.cell? ⟨bb, o + i, none⟩ = some (G (nb + i)) := by rw [HK.out.cell (p := ⟨bb, o + i, none⟩) (HB2.out.lt (by decide)) (fun h => h), hoh]; exact HB2.out.cell (by omega)
          have hib : (i : Int) < ((4 - nb : Nat) : Int) := by omega
          generalize G (nb + i) = gv at cb hf
          clear hoh
          rcases hf with rfl | ⟨fb, rfl, hTf, hBf⟩ | rfl | rfl | rfl
          · go_wp2_with fail
            go_roundw
            case rel => exact ⟨i + 1, by omega, by go_num, HK⟩
            case measure => simp [intOf]; omega
          · have hfb := hBf.cell (i := 0) (by decide)
            clear hBf hTf
            go_wp2_with fail
            go_roundw
            case rel => exact ⟨i + 1, by omega, by go_num, HK⟩
            case measure => simp [intOf]; omega
          · go_wp2_with fail
            go_roundw
            case rel => exact ⟨i + 1, by omega, by go_num, HK⟩
            case measure => simp [intOf]; omega
          · go_wp2_with fail
            go_roundw
            case rel => exact ⟨i + 1, by omega, by go_num, HK⟩
            case measure => simp [intOf]; omega
          · go_wp2_with fail
            go_roundw
            case rel => exact ⟨i + 1, by omega, by go_num, HK⟩
            case measure => simp [intOf]; omega
        · have hin : ¬ ((i : Int) < ((4 - nb : Nat) : Int)) := by omega
          have c9' : wr.cell? ⟨hb, 9, none⟩ = some (.slice (some ⟨tb, 0, none⟩) nr 864) := by rw [HK.out.cell (p := ⟨hb, 9, none⟩) (lt_of_cell c9) (fun h => h)]; exact c9
          have hnr : nr ≤ 864 := by omega
          go_wp2_with fail
          have HK1 : Hid _ := HK.out
          clear HK c9' hin
          go_loopw [14, 171] (fun cc ii w1 => ∃ (j c : Nat), j ≤ nr ∧ c ≤ j ∧ cc = .int .i64 c ∧ ii = .int .i64 j ∧ Hid (Kp (fun _ => False) w w1) ∧ Hid ((H.tr.take j).count 32 = c)) (fun _ ii _ => nr + 1 - (intOf ii).toNat)
          case atStart => exact ⟨0, 0, by omega, by omega, rfl, rfl, HK1, rfl⟩
          case round =>
            clear HK1
            obtain ⟨j, c, hj, hcj, rfl, rfl, HK, HC⟩ := hrel
            by_cases hlt2 : j < nr
            · obtain ⟨x, hx⟩ : ∃ x, H.tr[j]? = some x := ⟨_, List.getElem?_eq_getElem (by rw [HNR.out]; exact hlt2)⟩
              have cx : wr.cell? ⟨tb, j, none⟩ = some (.int .u8 (x : Int)) := by rw [HK.out.cell (p := ⟨tb, j, none⟩) (HB3.out.lt (by decide)) (fun h => h), HB3.out.cell (by omega), HL.out.tr j x hx]
              have hjb : (j : Int) < (nr : Int) := by omega
              have HCN : Hid ((H.tr.take (j + 1)).count 32 = c + if x = 32 then 1 else 0) := by
                show (H.tr.take (j + 1)).count 32 = _
                rw [take_snocL hx, count_snoc, HC.out]
              clear hx HC
              by_cases h32 : x = 32
              · subst h32
                rw [if_pos rfl] at HCN
                go_wp2_with fail
                go_roundw
                case rel => exact ⟨j + 1, c + 1, by omega, by omega, by go_num, by go_num, HK, HCN⟩
                case measure => simp [intOf]; omega
              · rw [if_neg h32] at HCN
                have hx32 : ((x : Int) == 32) = false := by rw [beq_eq_false_iff_ne]; omega
                go_wp2_with fail
                go_roundw
                case rel => exact ⟨j + 1, c, by omega, by omega, rfl, by go_num, HK, HCN⟩
                case measure => simp [intOf]; omega
            · have hje : nr = j := by omega
              subst hje
              have hcr : c = rows := by
                have h1 := HC.out
                rw [List.take_of_length_le (by rw [HNR.out]; exact Nat.le_refl _), HO.out.tr.2.2, HROW.out] at h1
                exact h1.symm
              subst hcr
              have c9' : wr.cell? ⟨hb, 9, none⟩ = some (.slice (some ⟨tb, 0, none⟩) nr 864) := by rw [HK.out.cell (p := ⟨hb, 9, none⟩) (lt_of_cell c9) (fun h => h)]; exact c9
              have c10' : wr.cell? ⟨hb, 10, none⟩ = some (.int .i64 (c : Int)) := by rw [HK.out.cell (p := ⟨hb, 10, none⟩) (lt_of_cell c10) (fun h => h)]; exact c10
              have i8 : decide ((c : Int) * 72 < (nr : Int)) = false := decide_eq_false (by omega)
              have i9 : (c : Int) * 72 ≤ 864 := by omega
              clear HC
              have hmk : ∀ W : World, (Instr.makeSlice 77 (.int .i64 0) (.int .i64 4)).run Tryz.prog W = .ok (.slice (some ⟨W.heap.size, 0, none⟩) 0 4) (W.alloc (.cells (madeCells #[.string ⟨#[]⟩] 4) 9)) := fun W => make_c2 (P := Tryz.prog) W 77 9 0 4 1 16 #[.string ⟨#[]⟩] (by kernel_rfl) (by kernel_rfl) (by kernel_rfl) (by omega) (by omega) (by omega)
              go_wp2_with fail
              go_quiet (fail)
              go_wp2_with fail
              have HK2 : Hid (Kp (fun _ => False) w ((wr.drewN nq).alloc (.cells (madeCells #[.string ⟨#[]⟩] 4) 9))) := (HK.out.trans (⟨rfl, rfl, rfl, Nat.le_refl _, fun _ _ _ => rfl⟩ : Kp (fun _ => False) wr (wr.drewN nq))).alloc _
              have HBN : Hid (Blk ((wr.drewN nq).alloc (.cells (madeCells #[.string ⟨#[]⟩] 4) 9)) (wr.drewN nq).heap.size 4 _) := blk_made (wr.drewN nq) #[.string ⟨#[]⟩] 4 9
              generalize hAe : ((wr.drewN nq).alloc (.cells (madeCells #[.string ⟨#[]⟩] 4) 9)) = A at HK2 HBN ⊢
              have hns : (wr.drewN nq).heap.size = wr.heap.size := rfl
              obtain ⟨ns, hnse⟩ : ∃ ns, wr.heap.size = ns := ⟨_, rfl⟩
              rw [hns, hnse] at HBN
              have hAs : A.heap.size = ns + 1 := by rw [← hAe, World.size_alloc, hns, hnse]
              rw [hnse]
              have hnw : w.heap.size ≤ ns := by rw [← hnse]; exact HK.out.size
              clear hAe hns hnse
              refine (makers_calls _).mono ?_
              rintro en w5 ⟨rfl, rfl⟩
              have hrg := run_range_map (P := Tryz.prog) (mkW A) 242 9 _ A.heap.size regM 4 u242 (mkW_at A)
              have hsm : (mkW A).heap.size = ns + 2 := by
                unfold mkW
                rw [setM_size, setM_size, setM_size, setM_size, World.size_alloc, hAs]
              have HNW : Hid (Nw w ((mkW A).alloc (.mapIter (some A.heap.size) 4 #[] 4)) ns A.heap.size (mkW A).heap.size #[] []) := by
                have hk1 : Kp (fun _ => False) A ((mkW A).alloc (.mapIter (some A.heap.size) 4 #[] 4)) := (mkW_kp A).alloc _
                refine ⟨HK2.out.trans hk1, ⟨_, Blk.keep HBN.out hk1 (fun h => h), fun i q hi => by simp at hi⟩, heap_alloc_new _ _, by rw [heap_alloc_old _ _ (by rw [hsm, hAs]; omega)]; exact mkW_at A, ⟨hnw, by rw [hAs]; omega, by rw [hsm]; omega⟩, ⟨by rw [hAs]; omega, by rw [hsm]; omega, by rw [hsm, hAs]; omega⟩⟩
              rw [hAs, hsm] at hrg HNW
              go_wp2_with fail
              generalize ((mkW A).alloc (.mapIter (some (ns + 1)) 4 #[] 4)) = U0 at HNW ⊢
              have hrs0 : rsOf #[] = [] := by rw [rsOf_B]; simp [rsB]
              have HNW0 : Hid (Nw w U0 ns (ns + 1) (ns + 2) #[] (rsOf #[])) := by
                show Nw _ _ _ _ _ _ _
                rw [hrs0]
                exact HNW.out
              clear hrg hsm hAs HK2 HBN HK hmk c9' c10' i8 i9 mew wf w189 w248 w250 w251 a189 a248 a250 a251 n189 e186 f186 i1 HNW
              have e245 := fun n => eq245 n
              go_loopw [17] (fun x w1 => ∃ (seen : Array Nat) (n : Nat), n = (rsOf seen).length ∧ n ≤ 4 ∧ x = .slice (some ⟨ns, 0, none⟩) n 4 ∧ Hid (Nw w w1 ns (ns + 1) (ns + 2) seen (rsOf seen))) (fun x _ => match x with | .slice _ n _ => 5 - n | _ => 0)
              case atStart => exact ⟨#[], 0, by rw [hrs0]; rfl, by omega, rfl, HNW0⟩
              case round =>
                clear HNW0
                obtain ⟨seen, n, hn, hn4, rfl, HNW⟩ := hrel
                rcases next_gen (P := Tryz.prog) wr 0 (ns + 2) (ns + 1) 4 4 seen regM 4 HNW.out.it HNW.out.mp (by decide) (by decide) with ⟨hl0, hnx⟩ | ⟨e, hel, W1, b1, b2, b3, b4, hnx⟩
                · have hrs := left_no hl0
                  rw [hrs] at hn HNW
                  have hn44 : n = 4 := hn
                  subst hn44
                  have hkn : ∀ q, q < 4 → wr.cell? ⟨0, q, none⟩ = some (.string (nameR q)) := fun q hq => by
                    have h0 : w.cell? ⟨0, q, none⟩ = some (.string (nameR q)) := HKN.out q hq
                    rw [HNW.out.kp.cell (p := ⟨0, q, none⟩) (lt_of_cell h0) (fun h => h)]
                    exact h0
                  obtain ⟨D, dB, dL⟩ := HNW.out.blk
                  have hnn : ∀ q, q < 4 → wr.cell? ⟨ns, q, none⟩ = some (.string (nameR q)) := fun q hq => by
                    rw [dB.cell hq, dL q q (by
                      have : q = 0 ∨ q = 1 ∨ q = 2 ∨ q = 3 := by omega
                      rcases this with rfl | rfl | rfl | rfl <;> rfl)]
                  have k0 := hkn 0 (by decide)
                  have k1 := hkn 1 (by decide)
                  have k2 := hkn 2 (by decide)
                  have k3 := hkn 3 (by decide)
                  have n0 := hnn 0 (by decide)
                  have n1 := hnn 1 (by decide)
                  have n2 := hnn 2 (by decide)
                  have n3 := hnn 3 (by decide)
                  generalize nameR 0 = s0 at k0 n0
                  generalize nameR 1 = s1 at k1 n1
                  generalize nameR 2 = s2 at k2 n2
                  generalize nameR 3 = s3 at k3 n3
                  clear hl0 hrs hn hkn hnn dB dL D
                  have ix0 : ∀ W : World, (Instr.index 306 (.agg #[.string s0, .string s1, .string s2, .string s3]) (.int .i64 0)).run Tryz.prog W = .ok (.string s0) W := fun W => by kernel_rfl
                  have ix1 : ∀ W : World, (Instr.index 306 (.agg #[.string s0, .string s1, .string s2, .string s3]) (.int .i64 1)).run Tryz.prog W = .ok (.string s1) W := fun W => by kernel_rfl
                  have ix2 : ∀ W : World, (Instr.index 306 (.agg #[.string s0, .string s1, .string s2, .string s3]) (.int .i64 2)).run Tryz.prog W = .ok (.string s2) W := fun W => by kernel_rfl
                  have ix3 : ∀ W : World, (Instr.index 306 (.agg #[.string s0, .string s1, .string s2, .string s3]) (.int .i64 3)).run Tryz.prog W = .ok (.string s3) W := fun W => by kernel_rfl
                  go_wp2_with fail
                  refine wp_loop_rounds 5 ?_
                  rw [rounds_succ]
                  go_wp2_with fail
                  rw [rounds_succ]
                  go_wp2_with fail
                  rw [rounds_succ]
                  go_wp2_with fail
                  rw [rounds_succ]
                  go_wp2_with fail
                  rw [rounds_succ]
                  go_wp2_with fail
                  refine bodyPost_ret (v := .bool true) (by simp [results, Tryz.results142, go_sem]) rfl ?_
                  exact ⟨rfl, HNW.out.kp⟩
                · obtain ⟨hem, hec, b, hb4', rfl⟩ := left_is hel
                  dsimp only at hec hnx hem
                  have HN1 : Hid (Nw w (itW W1 (ns + 2) (.mapIter (some (ns + 1)) 4 (seen.push b) 4)) ns (ns + 1) (ns + 2) (seen.push b) (rsOf seen)) := HNW.out.next b1 b2 b3 b4 b
                  have hen := entry_gen (P := Tryz.prog) (itW W1 (ns + 2) (.mapIter (some (ns + 1)) 4 (seen.push b) 4)) (ns + 2) (ns + 1) 4 seen regM 4 ⟨.string (nameR (rkB b)), .func (.func (212 + b)) #[] #[], b⟩ HN1.out.it HN1.out.mp hem (by decide)
                  dsimp only at hen
                  obtain ⟨r1, r2, r3⟩ := rs_not hb4' hec
                  rw [← hn] at r2
                  have HR1 : Hid _ := r1
                  have HR3 : Hid _ := r3
                  have HEC : Hid _ := hec
                  have HN : Hid _ := hn
                  obtain ⟨D, dB, _⟩ := HN1.out.blk
                  generalize itW W1 (ns + 2) (.mapIter (some (ns + 1)) 4 (seen.push b) 4) = W2 at HN1 hnx hen dB
                  have hap := app77 W2 ns n (nameR (rkB b)) dB (by omega)
                  have HN2 : Hid (Nw w ((W2.alloc (.cells #[.string (nameR (rkB b))] 9)).setCell ⟨ns, n, none⟩ (.string (nameR (rkB b)))) ns (ns + 1) (ns + 2) (seen.push b) (rsOf seen ++ [rkB b])) := (HN1.out.quiet ((Kp.refl (fun _ => False) W2).alloc _)).set (by omega) (rkB b) (fun j p hj => by
                    rcases get_snoc3 hj with ⟨g1, g2⟩ | ⟨g1, g2⟩
                    · exact .inr ⟨by omega, g2⟩
                    · exact .inl ⟨by rw [g1, ← HN.out], g2⟩)
                  have hn4' : ((n : Int) == 4) = false := by rw [beq_eq_false_iff_ne]; omega
                  clear hel hem r1 r3 hec hn dB HN1 b1 b2 b3 b4 HNW
                  go_wp2_with (at_builtin; refine wpList_app rfl _ _ 77 rfl hap ?_)
                  generalize ((W2.alloc (.cells #[.string (nameR (rkB b))] 9)).setCell ⟨ns, n, none⟩ (.string (nameR (rkB b)))) = W3 at HN2 ⊢
                  have HN3 : Hid (Nw w W3 ns (ns + 1) (ns + 2) (seen.push b) ((rsOf seen).take n ++ rkB b :: (rsOf seen).drop n)) := by
                    show Nw _ _ _ _ _ _ _
                    rw [List.take_of_length_le (by rw [← HN.out]; exact Nat.le_refl _), List.drop_eq_nil_of_le (by rw [← HN.out]; exact Nat.le_refl _)]
                    exact HN2.out
                  obtain ⟨q, hq⟩ : ∃ q, rkB b = q := ⟨_, rfl⟩
                  have hq4 : q < 4 := by rw [← hq]; exact rkB_lt hb4'
                  have HRS : Hid _ := @rs_push seen b hb4' HEC.out
                  rw [hq] at HN3 HR1 HRS
                  clear HN2 hap hen hnx hn4' e245 hq
                  go_loopw [21] (fun ii w1 => ∃ (i : Nat), i ≤ n ∧ ii = .int .i64 i ∧ Hid (Nw w w1 ns (ns + 1) (ns + 2) (seen.push b) ((rsOf seen).take i ++ q :: (rsOf seen).drop i)) ∧ Hid (∀ y ∈ (rsOf seen).drop i, q < y)) (fun ii _ => (intOf ii).toNat)
                  case atStart => exact ⟨n, by omega, by go_num, HN3, fun y hy => by
                    rw [List.drop_eq_nil_of_le (by rw [← HN.out]; exact Nat.le_refl _)] at hy
                    simp at hy⟩
                  case round =>
                    clear HN3
                    obtain ⟨i, hi, rfl, HN4, HLT⟩ := hrel
                    by_cases h0 : i = 0
                    · subst h0
                      have HNF : Hid (Nw w wr ns (ns + 1) (ns + 2) (seen.push b) (rsOf (seen.push b))) := by
                        show Nw _ _ _ _ _ _ _
                        rw [← HRS.out (by omega) HLT.out (.inl rfl)]
                        exact HN4.out
                      have hlen : (rsOf (seen.push b)).length = n + 1 := by
                        rw [← HRS.out (by omega) HLT.out (.inl rfl), List.length_append, List.length_cons, List.length_take, List.length_drop, ← HN.out]
                        omega
                      have HLE : Hid _ := hlen
                      clear hlen HN4 HLT
                      go_wp2_with fail
                      go_quiet (fail)
                      go_wp2_with fail
                      go_roundw
                      case rel => exact ⟨seen.push b, n + 1, HLE.out.symm, by omega, rfl, HNF.out.quiet ⟨rfl, rfl, rfl, Nat.le_refl _, fun _ _ _ => rfl⟩⟩
                      case measure => simp; omega
                    · obtain ⟨m, rfl⟩ : ∃ m, i = m + 1 := ⟨i - 1, by omega⟩
                      obtain ⟨p, hp⟩ : ∃ p, (rsOf seen)[m]? = some p := ⟨_, List.getElem?_eq_getElem (by rw [← HN.out]; omega)⟩
                      have hp4 : p < 4 := HR3.out p (List.mem_of_getElem? hp)
                      have hpq : p ≠ q := fun e => HR1.out (by rw [← e]; exact List.mem_of_getElem? hp)
                      obtain ⟨D, dB, dL⟩ := HN4.out.blk
                      have cm : wr.cell? ⟨ns, m, none⟩ = some (.string (nameR p)) := by
                        rw [dB.cell (by omega), dL m p (by
                          rw [List.getElem?_append_left (by rw [List.length_take, ← HN.out]; omega), List.getElem?_take, if_pos (by omega)]
                          exact hp)]
                      have cm1 : wr.cell? ⟨ns, m + 1, none⟩ = some (.string (nameR q)) := by
                        rw [dB.cell (by omega), dL (m + 1) q (by
                          rw [List.getElem?_append_right (by rw [List.length_take]; omega), List.length_take, ← HN.out, show m + 1 - min (m + 1) n = 0 by omega]
                          rfl)]
                      have gm := dB.fz (i := m) (by omega)
                      have gm1 := dB.fz (i := m + 1) (by omega)
                      have hbl := lessR ⟨p, hp4⟩ ⟨q, hq4⟩
                      have hbe : ¬ (nameR p).toList = (nameR q).toList := fun e => hpq (by have := eqR ⟨p, hp4⟩ ⟨q, hq4⟩ e; simpa using this)
                      dsimp only at hbl
                      have him : ((m + 1 : Nat) : Int) - 1 = (m : Int) := by omega
                      have hipos : (0 : Int) < ((m + 1 : Nat) : Int) := by omega
                      have hm3 : (m : Int) + 1 ≤ 3 := by omega
                      by_cases hlt : q < p
                      · have hb1 : Op.bytesLess (nameR p).toList (nameR q).toList = false := by rw [hbl]; exact decide_eq_false (by omega)
                        have hdr : (rsOf seen).drop m = p :: (rsOf seen).drop (m + 1) := drop_cons hp
                        have htk : (rsOf seen).take (m + 1) = (rsOf seen).take m ++ [p] := take_snocL hp
                        have hml : ((rsOf seen).take m).length = m := by rw [List.length_take, ← HN.out]; omega
                        have HSW : Hid (∀ V, Nw w V ns (ns + 1) (ns + 2) (seen.push b) ((rsOf seen).take (m + 1) ++ q :: (rsOf seen).drop (m + 1)) → Nw w ((V.setCell ⟨ns, m, none⟩ (.string (nameR q))).setCell ⟨ns, m + 1, none⟩ (.string (nameR p))) ns (ns + 1) (ns + 2) (seen.push b) ((rsOf seen).take m ++ q :: (rsOf seen).drop m)) := by
                          intro V hV
                          have h1 : Nw w (V.setCell ⟨ns, m, none⟩ (.string (nameR q))) ns (ns + 1) (ns + 2) (seen.push b) ((rsOf seen).take m ++ q :: q :: (rsOf seen).drop (m + 1)) := hV.set (by omega) q (fun j x hj => by
                            rw [htk, List.append_assoc]
                            by_cases e : j = m
                            · subst e
                              left
                              rw [List.getElem?_append_right (by omega), hml, Nat.sub_self] at hj
                              exact ⟨rfl, by simpa using hj.symm⟩
                            · right
                              refine ⟨e, ?_⟩
                              by_cases e2 : j < m
                              · rw [List.getElem?_append_left (by omega)] at hj ⊢
                                exact hj
                              · rw [List.getElem?_append_right (by omega), hml] at hj ⊢
                                obtain ⟨d, hd⟩ : ∃ d, j - m = d + 1 := ⟨j - m - 1, by omega⟩
                                rw [hd] at hj ⊢
                                exact hj)
                          exact h1.set (by omega) p (fun j x hj => by
                            rw [hdr] at hj
                            by_cases e : j = m + 1
                            · subst e
                              left
                              rw [List.getElem?_append_right (by omega), hml, show m + 1 - m = 1 by omega] at hj
                              exact ⟨rfl, by simpa using hj.symm⟩
                            · right
                              refine ⟨e, ?_⟩
                              by_cases e2 : j < m
                              · rw [List.getElem?_append_left (by omega)] at hj ⊢
                                exact hj
                              · rw [List.getElem?_append_right (by omega), hml] at hj ⊢
                                by_cases e3 : j = m
                                · subst e3
                                  rw [Nat.sub_self] at hj ⊢
                                  exact hj
                                · obtain ⟨d, hd⟩ : ∃ d, j - m = d + 2 := ⟨j - m - 2, by omega⟩
                                  rw [hd] at hj ⊢
                                  exact hj)
                        have HLN : Hid (∀ y ∈ (rsOf seen).drop m, q < y) := fun y hy => by
                          rw [hdr] at hy
                          rcases List.mem_cons.1 hy with rfl | hy
                          · exact hlt
                          · exact HLT.out y hy
                        have hbb : ((nameR p).toList == (nameR q).toList) = false := by rw [beq_eq_false_iff_ne]; exact hbe
                        clear HLT hbl hp dB dL hdr htk hml hbe
                        generalize nameR p = sp at cm hb1 hbb HSW
                        generalize nameR q = sq at cm1 hb1 hbb HSW
                        go_wp2_with fail
                        go_quiet (fail)
                        go_wp2_with fail
                        have HN5 : Hid (Nw w (wr.drewN nq).drew ns (ns + 1) (ns + 2) (seen.push b) ((rsOf seen).take (m + 1) ++ q :: (rsOf seen).drop (m + 1))) := HN4.out.quiet ⟨rfl, rfl, rfl, Nat.le_refl _, fun _ _ _ => rfl⟩
                        have cm' : (wr.drewN nq).drew.cell? ⟨ns, m, none⟩ = some (.string sp) := cm
                        have cm1' : (wr.drewN nq).drew.cell? ⟨ns, m + 1, none⟩ = some (.string sq) := cm1
                        have gm' : (wr.drewN nq).drew.frozen? ⟨ns, m, none⟩ = false := gm
                        have gm1' : (wr.drewN nq).drew.frozen? ⟨ns, m + 1, none⟩ = false := gm1
                        have HSW5 : Hid _ := HSW.out _ HN5.out
                        have hmn : m < n := by omega
                        have hmn1 : m < n + 1 := by omega
                        have hz1 : (0 : Int) ≤ (m : Int) + 1 := by omega
                        have hz2 : (0 : Int) ≤ (m : Int) := by omega
                        have hwm : IntKind.i64.wrap (m : Int) = (m : Int) := by simp [IntKind.wrap, IntKind.bits, IntKind.signed]; omega
                        have hz3 : (m : Int) < (n : Int) + 1 := by omega
                        clear HSW HN4 HN5 cm cm1 gm gm1
                        refine wp_region_any (by kernel_rfl) ?_
                        change wpAny _ _ _ _ _ _ _ (World.drew _)
                        generalize (wr.drewN nq).drew = W6 at cm' cm1' gm' gm1' HSW5 ⊢
                        refine wpAny_take (i := 0) (v := ?_) rfl (by kernel_rfl) (by kernel_rfl) (by kernel_rfl) (fun _ _ _ h => h) (Or.inl ⟨by rfl, ?_⟩) ?_
                        rotate_left
                        · intro w; go_simp; try with_reducible rfl
                        refine wpAny_take (i := 1) (v := ?_) rfl (by kernel_rfl) (by kernel_rfl) (by kernel_rfl) (fun _ _ _ h => h) (Or.inl ⟨by rfl, ?_⟩) ?_
                        rotate_left
                        · intro w; go_simp; try with_reducible rfl
                        refine wpAny_take (i := 2) (v := ?_) rfl (by kernel_rfl) (by kernel_rfl) (by kernel_rfl) (fun _ _ _ h => h) (Or.inl ⟨by rfl, ?_⟩) ?_
                        rotate_left
                        · intro w; go_simp; try with_reducible rfl
                        refine wpAny_take (i := 3) (v := ?_) rfl (by kernel_rfl) (by kernel_rfl) (by kernel_rfl) (fun _ _ _ h => h) (Or.inl ⟨by rfl, ?_⟩) ?_
                        rotate_left
                        · intro w; go_simp; try with_reducible rfl
                        refine wpAny_take (i := 4) (v := ?_) rfl (by kernel_rfl) (by kernel_rfl) (by kernel_rfl) (fun _ _ _ h => h) (Or.inl ⟨by rfl, ?_⟩) ?_
                        rotate_left
                        · intro w; go_simp; try with_reducible rfl
                        refine wpAny_take (i := 5) (v := ?_) rfl (by kernel_rfl) (by kernel_rfl) (by kernel_rfl) (fun _ _ _ h => h) (Or.inl ⟨by rfl, ?_⟩) ?_
                        rotate_left
                        · intro w; go_simp; try with_reducible rfl
                        refine wpAny_take (i := 6) (v := ?_) rfl (by kernel_rfl) (by kernel_rfl) (by kernel_rfl) (fun _ _ _ h => h) (Or.inl ⟨by rfl, ?_⟩) ?_
                        rotate_left
                        · intro w; go_simp; try with_reducible rfl
                        refine wpAny_take (i := 7) (v := ?_) rfl (by kernel_rfl) (by kernel_rfl) (by kernel_rfl) (fun _ _ _ h => h) (Or.inl ⟨by rfl, ?_⟩) ?_
                        rotate_left
                        · intro w; go_simp; try with_reducible rfl
                        refine wpAny_take (i := 9) (v := ?_) rfl (by kernel_rfl) (by kernel_rfl) (by kernel_rfl) (fun _ _ _ h => h) (Or.inl ⟨by rfl, ?_⟩) ?_
                        rotate_left
                        · intro w; go_simp; try with_reducible rfl
                        refine wpAny_take (i := 10) (v := ?_) rfl (by kernel_rfl) (by kernel_rfl) (by kernel_rfl) (fun _ _ _ h => h) (Or.inl ⟨by rfl, ?_⟩) ?_
                        rotate_left
                        · intro w; go_simp; try with_reducible rfl
                        refine wpAny_take (i := 11) (v := ?_) rfl (by kernel_rfl) (by kernel_rfl) (by kernel_rfl) (fun _ _ _ h => h) (Or.inl ⟨by rfl, ?_⟩) ?_
                        rotate_left
                        · intro w; go_simp; try with_reducible rfl
                        refine wpAny_take (i := 12) (v := ?_) rfl (by kernel_rfl) (by kernel_rfl) (by kernel_rfl) (fun _ _ _ h => h) (Or.inl ⟨by rfl, ?_⟩) ?_
                        rotate_left
                        · intro w; go_simp; try with_reducible rfl
                        refine wpAny_ready (rs := [8, 13]) (by kernel_rfl) (by simp) ?_
                        refine (AllReady.cons rfl (fun K hK => ?_) (AllReady.cons rfl (fun K hK => ?_) AllReady.nil))
                        · go_simp
                          refine hK _ _ ?_
                          clear hK K
                          refine wpAny_ready (rs := [13]) (by kernel_rfl) (by simp) ?_
                          refine (AllReady.cons rfl (fun K hK => ?_) AllReady.nil)
                          go_simp
                          refine hK _ _ ?_
                          clear hK K
                          refine wpAny_take (i := 14) (v := ?_) rfl (by kernel_rfl) (by kernel_rfl) (by kernel_rfl) (fun _ _ _ h => h) (Or.inl ⟨by rfl, ?_⟩) ?_
                          rotate_left
                          · intro w; go_simp; try with_reducible rfl
                          refine wpAny_ready (rs := [15]) (by kernel_rfl) (by simp) ?_
                          refine (AllReady.cons rfl (fun K hK => ?_) AllReady.nil)
                          go_simp
                          refine hK _ _ ?_
                          clear hK K
                          refine wpAny_take (i := 16) (v := ?_) rfl (by kernel_rfl) (by kernel_rfl) (by kernel_rfl) (fun _ _ _ h => h) (Or.inl ⟨by rfl, ?_⟩) ?_
                          rotate_left
                          · intro w; go_simp; try with_reducible rfl
                          refine wpAny_ready (rs := [17]) (by kernel_rfl) (by simp) ?_
                          refine (AllReady.cons rfl (fun K hK => ?_) AllReady.nil)
                          go_simp
                          refine hK _ _ ?_
                          clear hK K
                          refine wpAny_done (by kernel_rfl) ?_ _
                          go_wp2_with fail
                          go_roundw
                          case rel => exact ⟨m, by omega, by go_num, HSW5.out, HLN⟩
                          case measure => simp [intOf]
                        · go_simp
                          refine hK _ _ ?_
                          clear hK K
                          refine wpAny_ready (rs := [8]) (by kernel_rfl) (by simp) ?_
                          refine (AllReady.cons rfl (fun K hK => ?_) AllReady.nil)
                          go_simp
                          refine hK _ _ ?_
                          clear hK K
                          refine wpAny_take (i := 14) (v := ?_) rfl (by kernel_rfl) (by kernel_rfl) (by kernel_rfl) (fun _ _ _ h => h) (Or.inl ⟨by rfl, ?_⟩) ?_
                          rotate_left
                          · intro w; go_simp; try with_reducible rfl
                          refine wpAny_ready (rs := [15]) (by kernel_rfl) (by simp) ?_
                          refine (AllReady.cons rfl (fun K hK => ?_) AllReady.nil)
                          go_simp
                          refine hK _ _ ?_
                          clear hK K
                          refine wpAny_take (i := 16) (v := ?_) rfl (by kernel_rfl) (by kernel_rfl) (by kernel_rfl) (fun _ _ _ h => h) (Or.inl ⟨by rfl, ?_⟩) ?_
                          rotate_left
                          · intro w; go_simp; try with_reducible rfl
                          refine wpAny_ready (rs := [17]) (by kernel_rfl) (by simp) ?_
                          refine (AllReady.cons rfl (fun K hK => ?_) AllReady.nil)
                          go_simp
                          refine hK _ _ ?_
                          clear hK K
                          refine wpAny_done (by kernel_rfl) ?_ _
                          go_wp2_with fail
                          go_roundw
                          case rel => exact ⟨m, by omega, by go_num, HSW5.out, HLN⟩
                          case measure => simp [intOf]
                      · have hb1 : Op.bytesLess (nameR p).toList (nameR q).toList = true := by rw [hbl]; exact decide_eq_true (by omega)
                        have hge : (rsOf seen).getD (m + 1 - 1) 0 ≤ q := by
                          rw [Nat.add_sub_cancel, List.getD_eq_getElem?_getD, hp]
                          show p ≤ q
                          omega
                        have HNF : Hid (Nw w wr ns (ns + 1) (ns + 2) (seen.push b) (rsOf (seen.push b))) := by
                          show Nw _ _ _ _ _ _ _
                          rw [← HRS.out (by rw [← HN.out]; exact hi) HLT.out (.inr hge)]
                          exact HN4.out
                        have hlen : (rsOf (seen.push b)).length = n + 1 := by
                          rw [← HRS.out (by rw [← HN.out]; exact hi) HLT.out (.inr hge), List.length_append, List.length_cons, List.length_take, List.length_drop, ← HN.out]
                          omega
                        have HLE : Hid _ := hlen
                        clear hlen HN4 HLT hge hbl hp dB dL
                        generalize nameR p = sp at cm hb1 hbe
                        generalize nameR q = sq at cm1 hb1 hbe
                        go_wp2_with fail
                        go_quiet (fail)
                        go_wp2_with fail
                        go_roundw
                        case rel => exact ⟨seen.push b, n + 1, HLE.out.symm, by omega, rfl, HNF.out.quiet ⟨rfl, rfl, rfl, Nat.le_refl _, fun _ _ _ => rfl⟩⟩
                        case measure => simp; omega
end
end Go.Proofs.Qxb6500275aGreatDoor
