import Derived.Test.Qxb6500274aGreatWPb
import Derived.Test.Qxb6500274aGreatWPh
import Derived.Test.Qxb6500274aGreatWEnvFl
set_option linter.unusedVariables false
set_option linter.unusedSimpArgs false
set_option maxRecDepth 20000
namespace Go.Sx
open Go Go.RowKit
section
variable {n0 : Base} {w0 w : World} {K : Kx} {s : St}
/- more was made that nobody names -/
theorem Rep.wider {w' : World} (h : Rep n0 w0 K s w) (hb : Below w.heap.size w w') : Rep n0 w0 K s w' := by
  refine ⟨⟨hb.os.trans h.below.os, hb.tape.trans h.below.tape, hb.output.trans h.below.output, Nat.le_trans h.below.size hb.size, fun k hk => ?_⟩, Nat.le_trans h.hn hb.size, h.nx, fun b x hx => ?_, h.inj, h.facts, h.vals, h.syr, h.pfq⟩
  · rw [hb.block k (Nat.lt_of_lt_of_le hk h.hn)]; exact h.below.block k hk
  · obtain ⟨h1, h2, h3, h4⟩ := h.live b x hx
    exact ⟨h1, h2, Nat.lt_of_lt_of_le h3 hb.size, by rw [hb.block _ h3]; exact h4⟩
/- a block that is there is named -/
theorem Rep.adopt (h : Rep n0 w0 K s w) {x : Blk} {B tot es : Nat} (hB : n0.n ≤ B ∧ B < w.heap.size) (hfree : ∀ b y, find b s.heap = some y → K.bl b ≠ B)
    (hx : BlkRep (K.grow B tot es) s.next x w.heap[B]?) : Rep n0 w0 (K.grow B tot es) (s.new x) w := by
  have hle := Kx.le_grow K B tot es
  refine ⟨h.below, h.hn, by simp [Kx.grow, St.new, h.nx], ?_, ?_, fun t b ht => (h.facts t b ht).mono hle.sy hle.pf, fun t v ht => ⟨(h.vals t v ht).1.mono hle.sy hle.pf, (h.vals t v ht).2⟩, fun i k n hi => h.syr i k n (hle.sy ▸ hi), hle.pf.trans h.pfq⟩
  · intro b y hy
    rw [find_new] at hy
    by_cases e : s.next = b
    · subst e
      simp at hy
      subst hy
      have hbl : (K.grow B tot es).bl s.next = B := by simp [Kx.grow, h.nx]
      rw [hbl]
      exact ⟨by simp [Kx.grow, h.nx], hB.1, hB.2, hx⟩
    · rw [if_neg e] at hy
      obtain ⟨h1, h2, h3, h4⟩ := h.live b y hy
      rw [hle.bl b h1]
      exact ⟨Nat.lt_succ_of_lt h1, h2, h3, h4.mono hle h1⟩
  · intro b b' y y' hy hy' hbl
    rw [find_new] at hy hy'
    have hn : (K.grow B tot es).bl s.next = B := by simp [Kx.grow, h.nx]
    by_cases e : s.next = b
    · by_cases e' : s.next = b'
      · rw [← e, ← e']
      · rw [if_neg e'] at hy'
        obtain ⟨h1, _, h3, _⟩ := h.live b' y' hy'
        subst e
        rw [hle.bl b' h1, hn] at hbl
        exact absurd hbl.symm (hfree b' y' hy')
    · rw [if_neg e] at hy
      obtain ⟨h1, _, h3, _⟩ := h.live b y hy
      by_cases e' : s.next = b'
      · subst e'
        rw [hle.bl b h1, hn] at hbl
        exact absurd hbl (hfree b y hy)
      · rw [if_neg e'] at hy'
        obtain ⟨h1', _, _, _⟩ := h.live b' y' hy'
        rw [hle.bl b h1, hle.bl b' h1'] at hbl
        exact h.inj b b' y y' hy hy' hbl
theorem BlkRep_cells {b : Nat} {x : List Value} {X : Array Value} {T : TypeId} (h : All2 (C1 K) x X.toList) : BlkRep K b ⟨x, 0⟩ (some (.cells X T (0, 0))) := by
  unfold BlkRep
  rw [if_neg (by simp)]
  exact ⟨X, T, (0, 0), X.toList, [], rfl, .inl (by decide), by simp, h, fun _ => rfl, fun h => absurd h (by simp)⟩
end
/- a prim for one function alone -/
theorem prim_sound {P : Program} {n0 : Base} {w0 : World} {g : FuncId} {f : Func} {pr : List Value → St → Option (List (Value × St))} (hfn : P.funcs[g]? = some f) (hname : f.name ≠ "runtime.NumGoroutine") (hb : f.body.isSome = true)
    (h : ∀ args s L, pr args s = some L → ∀ K w cargs, Rep n0 w0 K s w → All2 (RV K) args cargs → Calls P g cargs.toArray w (fun e w' => ∃ c, e = .returned c ∧ LPost n0 w0 K L c w')) :
    CallSound P n0 w0 (fun h args s => if h = g then pr args s else none) := by
  obtain ⟨c, hb⟩ := Option.isSome_iff_exists.1 hb
  intro g' args s L hL
  dsimp only at hL
  split at hL
  · rename_i e
    subst e
    exact ⟨callFunc_run hfn hname hb, fun K w cargs hR ha => h args s L hL K w cargs hR ha⟩
  · simp at hL
end Go.Sx
namespace Go.Proofs.Qxb6500274aGreat
open Go Go.RowKit Go.Sx

theorem made2_sound {n0 : Base} {w0 w w' : World} {K : Kx} {s : St} {A B : List Value} {C : Nat → Nat → Array Value} {C' : Addr → Addr → List Value} {e : Ending} (hR : Rep n0 w0 K s w) (h : Made2 w w' A B C e) (hA : ∀ v, v ∈ A → plain v = true) (hB : ∀ v, v ∈ B → plain v = true)
    (hC : ∀ (K : Kx) (x y : Nat), x < K.nx → y < K.nx → All2 (C1 K) (C' ⟨x, 0, none⟩ ⟨y, 0, none⟩) (C (K.bl x) (K.bl y)).toList) :
    ∃ c, e = .returned c ∧ LPost n0 w0 K [(.pointer (some (newBlk (newBlk (newBlk s A 0).2 B 0).2 (C' (newBlk s A 0).1 (newBlk (newBlk s A 0).2 B 0).1) 0).1), (newBlk (newBlk (newBlk s A 0).2 B 0).2 (C' (newBlk s A 0).1 (newBlk (newBlk s A 0).2 B 0).1) 0).2)] c w' := by
  obtain ⟨a, b, c, hab, hac, hbc, ha, hb, hc, rfl, hbel, ⟨X, T, hX, hXa⟩, ⟨Y, T', hY, hYb⟩, T'', hZ⟩ := h
  refine ⟨_, rfl, ?_⟩
  have hR1 := hR.wider hbel
  have hlow : ∀ q y, find q s.heap = some y → K.bl q < w.heap.size := fun q y hq => (hR.live q y hq).2.2.1
  have hn := hR.hn
  have hR2 : Rep n0 w0 (K.grow a 0 0) (s.new ⟨A, 0⟩) w' := hR1.adopt ⟨by omega, ha.2⟩ (fun q y hq => by have := hlow q y hq; omega) (by
    rw [hXa]; exact BlkRep_cells (by rw [hX]; exact All2.refl _ (fun v hv => C1_plain (hA v hv))))
  have hlow2 : ∀ q y, find q (s.new ⟨A, 0⟩).heap = some y → (K.grow a 0 0).bl q < w.heap.size ∨ (K.grow a 0 0).bl q = a := by
    intro q y hq
    rw [find_new] at hq
    split at hq
    · rename_i e; subst e; right; simp [Kx.grow, hR.nx]
    · left
      rw [(Kx.le_grow K a 0 0).bl q (hR.live q y hq).1]
      exact hlow q y hq
  have hR3 : Rep n0 w0 ((K.grow a 0 0).grow b 0 0) ((s.new ⟨A, 0⟩).new ⟨B, 0⟩) w' := hR2.adopt ⟨by omega, hb.2⟩ (fun q y hq => by have := hlow2 q y hq; omega) (by
    rw [hYb]; exact BlkRep_cells (by rw [hY]; exact All2.refl _ (fun v hv => C1_plain (hB v hv))))
  have hlow3 : ∀ q y, find q ((s.new ⟨A, 0⟩).new ⟨B, 0⟩).heap = some y → ((K.grow a 0 0).grow b 0 0).bl q < w.heap.size ∨ ((K.grow a 0 0).grow b 0 0).bl q = a ∨ ((K.grow a 0 0).grow b 0 0).bl q = b := by
    intro q y hq
    rw [find_new] at hq
    split at hq
    · rename_i e; subst e; right; right; simp [Kx.grow, hR.nx, St.new]
    · rw [(Kx.le_grow (K.grow a 0 0) b 0 0).bl q (hR2.live q y hq).1]
      have := hlow2 q y hq
      omega
  have e1 : ((K.grow a 0 0).grow b 0 0).bl s.next = a := by simp [Kx.grow, hR.nx]
  have e2 : ((K.grow a 0 0).grow b 0 0).bl (s.next + 1) = b := by simp [Kx.grow, hR.nx]
  have hR4 : Rep n0 w0 (((K.grow a 0 0).grow b 0 0).grow c 0 0) (((s.new ⟨A, 0⟩).new ⟨B, 0⟩).new ⟨C' ⟨s.next, 0, none⟩ ⟨s.next + 1, 0, none⟩, 0⟩) w' := hR3.adopt ⟨by omega, hc.2⟩ (fun q y hq => by have := hlow3 q y hq; omega) (by
    rw [hZ]
    refine BlkRep_cells ?_
    have := hC ((K.grow a 0 0).grow b 0 0) s.next (s.next + 1) (by simp [Kx.grow, hR.nx]; omega) (by simp [Kx.grow, hR.nx])
    rw [e1, e2] at this
    exact this.mono (fun _ _ h => C1.mono (Kx.le_grow _ c 0 0) h))
  refine ⟨_, _, _, List.mem_singleton.2 rfl, Kx.le_trans (Kx.le_trans (Kx.le_grow K a 0 0) (Kx.le_grow _ b 0 0)) (Kx.le_grow _ c 0 0), ?_, hR4⟩
  rw [RV_ptr]
  exact ⟨rfl, by simp [newBlk, Kx.grow, St.new, hR.nx], by simp [newBlk, Kx.grow, St.new, hR.nx]⟩

theorem rep_all {Q : Value → Prop} (z : List Value) (h : ∀ v, v ∈ z → Q v) : ∀ (n : Nat) (v : Value), v ∈ rep z n → Q v
  | 0, v, hv => by simp [rep] at hv
  | n + 1, v, hv => by
    simp only [rep, List.mem_append] at hv
    rcases hv with hv | hv
    · exact h v hv
    · exact rep_all z h n v hv

theorem C1_slice {K : Kx} {x l k : Nat} (hx : x < K.nx) (hk : k ≠ capU) : C1 K (.slice (some ⟨x, 0, none⟩) l k) (.slice (some ⟨K.bl x, 0, none⟩) l k) :=
  ⟨rfl, hx, .inl ⟨hk, rfl⟩⟩
theorem C1_pl {K : Kx} {v : Value} (h : plain v = true) : C1 K v v := C1_plain h

section
variable {n0 : Base} {w0 : World}
theorem bin_sound : CallSound Tryz.prog n0 w0 (fun h args s => if h = 30 then primBin args s else none) := by
  refine prim_sound Tryz.func30 (of_decide_eq_true (by kernel_rfl)) (by kernel_rfl) ?_
  intro args s L h K w cargs hR ha
  unfold primBin at h
  split at h
  · have := one_eq h
    subst this
    match cargs, ha with
    | [], _ =>
      refine (bin_new w).mono ?_
      intro e w' hm
      refine made2_sound (C' := fun x y => [.int .i64 0, .int .i64 0, .int .i64 0, .int .i64 0, .int .i64 0, .int .i64 0, .int .i64 0, .int .i64 0, .int .i64 0, .int .u8 0, .int .u8 0, .int .u8 0, .int .u8 0, .int .u8 0, .int .u8 0, .int .i64 0, .slice (some x) 96 96, .int .i64 0, .slice (some y) 24 24, .int .i64 0, .slice none 0 0, .slice none 0 0, .slice none 0 0]) hR hm ?_ ?_ ?_
      · exact rep_all _ (by intro v hv; simp at hv; rcases hv with rfl | rfl | rfl <;> rfl) 96
      · exact rep_all _ (by intro v hv; simp at hv; subst hv; rfl) 24
      · intro K x y hx hy
        refine ⟨C1_pl rfl, C1_pl rfl, C1_pl rfl, C1_pl rfl, C1_pl rfl, C1_pl rfl, C1_pl rfl, C1_pl rfl, C1_pl rfl, C1_pl rfl, C1_pl rfl, C1_pl rfl, C1_pl rfl, C1_pl rfl, C1_pl rfl, C1_pl rfl, C1_slice hx (by decide), C1_pl rfl, C1_slice hy (by decide), C1_pl rfl, C1_pl rfl, C1_pl rfl, C1_pl rfl, trivial⟩
  · simp at h
theorem host_sound : CallSound Tryz.prog n0 w0 (fun h args s => if h = 69 then primHost args s else none) := by
  refine prim_sound Tryz.func69 (of_decide_eq_true (by kernel_rfl)) (by kernel_rfl) ?_
  intro args s L h K w cargs hR ha
  unfold primHost at h
  split at h
  · have := one_eq h
    subst this
    match cargs, ha with
    | [], _ =>
      refine (host_new w).mono ?_
      intro e w' hm
      refine made2_sound (C' := fun x y => [.slice (some x) 0 4, .int .u64 0, .int .u64 0, .int .u64 0, .int .u64 0, .int .u64 0, .int .u64 0, .int .i64 0, .int .i64 0, .slice (some y) 0 864, .int .i64 0]) hR hm ?_ ?_ ?_
      · exact rep_all _ (by intro v hv; simp at hv; subst hv; rfl) 4
      · exact rep_all _ (by intro v hv; simp at hv; subst hv; rfl) 864
      · intro K x y hx hy
        refine ⟨C1_slice hx (by decide), C1_pl rfl, C1_pl rfl, C1_pl rfl, C1_pl rfl, C1_pl rfl, C1_pl rfl, C1_pl rfl, C1_pl rfl, C1_slice hy (by decide), C1_pl rfl, trivial⟩
  · simp at h

theorem u64_range {n : Int} (h : IntKind.u64.wrap n = n) : 0 ≤ n ∧ n < 18446744073709551616 := by rw [wrap_u64] at h; omega
theorem u64_wrap {n : Int} (h : 0 ≤ n ∧ n < 18446744073709551616) : IntKind.u64.wrap n = n := by rw [wrap_u64]; omega

theorem den108 {K : Kx} {u : List Value} {k : Nat} {b : UInt8} (h : Den K (u ++ [.slice none 108 k]) (.int .u8 b.toNat)) (st : List Value) :
    ∃ n : Int, rpn K u st = some (.int .u64 n :: st) ∧ (0 ≤ n ∧ n < 18446744073709551616) ∧ n / 256 ^ k % 256 = b.toNat := by
  have h0 := h st
  rw [rpn_append] at h0
  cases hu : rpn K u st with
  | none => rw [hu] at h0; simp at h0
  | some s1 =>
    rw [hu, Option.bind_some] at h0
    simp only [rpn, tok1, tokOp] at h0
    simp only [show ¬ ((108 : Nat) < 100) by decide, show ¬ ((108 : Nat) = 100) by decide, show ¬ ((108 : Nat) = 101) by decide, show ¬ ((108 : Nat) = 102) by decide, show ¬ ((108 : Nat) = 103) by decide,
      show ¬ ((108 : Nat) = 104) by decide, show ¬ ((108 : Nat) = 105) by decide, show ¬ ((108 : Nat) = 106) by decide, show ¬ ((108 : Nat) = 107) by decide, if_false, if_true] at h0
    split at h0
    · rename_i st2 hst
      split at hst
      · rename_i n st3
        split at hst
        · rename_i hr
          simp at hst
          subst hst
          simp at h0
          obtain ⟨h1, rfl⟩ := h0
          exact ⟨n, rfl, hr, h1⟩
        · simp at hst
      · simp at hst
    · simp at h0
theorem isWord_sound {K : Kx} {u : List Value} : ∀ {l : List Value} {k : Nat} {bs : List UInt8}, isWord u k l = true → All2 (ByteRel K) l bs →
    k + l.length = 8 ∧ ∀ j b, bs[j]? = some b → Den K (u ++ [.slice none 108 (k + j)]) (.int .u8 b.toNat)
  | [], k, [], h, _ => by
    simp only [isWord] at h
    exact ⟨by simpa using Nat.eq_of_beq_eq_true h, fun j b hb => by simp at hb⟩
  | [], _, _ :: _, _, h => h.elim
  | _ :: _, _, [], _, h => h.elim
  | c :: l, k, b :: bs, h, hr => by
    simp only [isWord, Bool.and_eq_true] at h
    obtain ⟨h1, h2⟩ := isWord_sound h.2 hr.2
    refine ⟨by simp; omega, fun j b' hb => ?_⟩
    cases j with
    | zero =>
      simp at hb
      subst hb
      rw [Nat.add_zero, eqToks_eq h.1]
      exact hr.1.den
    | succ j =>
      have := h2 j b' (by simpa using hb)
      rwa [show k + 1 + j = k + (j + 1) by omega] at this
theorem word_sound : CallSound Tryz.prog n0 w0 (fun h args s => if h = 64 then primWord args s else none) := by
  refine prim_sound Tryz.func64 (of_decide_eq_true (by kernel_rfl)) (by kernel_rfl) ?_
  intro args s L h K w cargs hR ha
  unfold primWord at h
  split at h
  · rename_i s x i
    split at h
    · rename_i c hc hi
      have hi : 0 ≤ i := by simpa using hi
      obtain ⟨q, rfl⟩ : ∃ q : Nat, i = q := ⟨i.toNat, by omega⟩
      simp only [Int.toNat_natCast] at h
      split at h
      · rename_i hb
        simp only [Bool.and_eq_true] at hb
        have hb1 := Nat.le_of_ble_eq_true hb.1
        have hb2 := Nat.le_of_ble_eq_true hb.2
        split at h
        · rename_i b l hl
          split at h
          · rename_i hw
            have := one_eq h
            subst this
            match cargs, ha with
            | [cx, ci], ⟨h1, h2, _⟩ =>
              rw [RV_int] at h2
              subst h2
              obtain ⟨str, rfl, hbs⟩ := bytesS_RV hc h1
              have hlen := hbs.length
              have hsz : str.size = c.length := by rw [hlen]; simp
              have hbs8 := (hbs.drop (8 * q)).take 8
              rw [hl] at hbs8
              obtain ⟨g1, g2⟩ := isWord_sound hw hbs8
              have key : ∀ st, ∃ n : Nat, rpn K (toks b).dropLast st = some (.int .u64 n :: st) ∧ n < 18446744073709551616 ∧ ∀ k, k < 8 → (str.data.toList.getD (8 * q + k) 0).toNat = n / 256 ^ k % 256 := by
                intro st
                have byte : ∀ k, k < 8 → ∃ y : UInt8, ((str.data.toList.drop (8 * q)).take 8)[k]? = some y ∧ str.data.toList.getD (8 * q + k) 0 = y := by
                  intro k hk
                  have hlt : 8 * q + k < str.data.toList.length := by omega
                  refine ⟨str.data.toList[8 * q + k], ?_, ?_⟩
                  · rw [List.getElem?_take, if_pos hk, List.getElem?_drop, List.getElem?_eq_getElem hlt]
                  · rw [List.getD_eq_getElem?_getD, List.getElem?_eq_getElem hlt]
                    rfl
                obtain ⟨y0, e0, _⟩ := byte 0 (by decide)
                obtain ⟨n, n1, n2, _⟩ := den108 (g2 0 y0 e0) st
                obtain ⟨m, rfl⟩ : ∃ m : Nat, n = m := ⟨n.toNat, by omega⟩
                refine ⟨m, n1, by omega, fun k hk => ?_⟩
                obtain ⟨y, e1, e2⟩ := byte k hk
                have hd := g2 k y e1
                rw [Nat.zero_add] at hd
                obtain ⟨n', n1', _, n3'⟩ := den108 hd st
                rw [n1] at n1'
                simp at n1'
                subst n1'
                rw [e2]
                have : ((m / 256 ^ k % 256 : Nat) : Int) = ((y.toNat : Nat) : Int) := by
                  rw [← n3']
                  push_cast
                  rfl
                omega
              have hden : Den K (toks b).dropLast (.int .u64 (wordF str q)) := by
                intro st
                obtain ⟨n, n1, n2, n3⟩ := key st
                rw [n1, wordF_bytes str q n n2 (by omega) n3]
              refine (word_any str q (by omega) w).mono ?_
              rintro e w' ⟨rfl, rfl⟩
              exact ⟨_, rfl, _, _, K, List.mem_singleton.2 rfl, Kx.le_refl K, RV_symInt (u64_wrap (wordF_range str q)) hden, hR⟩
          · simp at h
        · simp at h
      · simp at h
    · simp at h
  · simp at h
theorem hex_sound : CallSound Tryz.prog n0 w0 (fun h args s => if h = 66 then primHex args s else none) := by
  refine prim_sound Tryz.func66 (of_decide_eq_true (by kernel_rfl)) (by kernel_rfl) ?_
  intro args s L h K w cargs hR ha
  unfold primHex at h
  split at h
  · rename_i s v n
    split at h
    · rename_i hb
      simp only [Bool.and_eq_true, decide_eq_true_eq] at hb
      have := one_eq h
      subst this
      match cargs, ha with
      | [cx, ci], ⟨h1, h2, _⟩ =>
        rw [RV_int] at h1 h2
        subst h1; subst h2
        obtain ⟨q, rfl⟩ : ∃ q : Nat, n = q := ⟨n.toNat, by omega⟩
        refine (hex_any v q hb.1 (by omega) w).mono ?_
        rintro e w' ⟨rfl, hbel⟩
        refine ⟨_, rfl, _, _, K, List.mem_singleton.2 rfl, Kx.le_refl K, ?_, hR.wider hbel⟩
        rw [RV_string, Int.toNat_natCast]
    · simp at h
  · rename_i s m t sh n
    split at h
    · rename_i hk hb
      simp only [Bool.and_eq_true, decide_eq_true_eq] at hb
      have := one_eq h
      subst this
      match cargs, ha with
      | [cx, ci], ⟨h1, h2, _⟩ =>
        rw [RV_int] at h2
        subst h2
        obtain ⟨v, rfl, hden, hr⟩ := kindI_RV hk h1
        have hrange := u64_range (hr rfl)
        obtain ⟨q, rfl⟩ : ∃ q : Nat, n = q := ⟨n.toNat, by omega⟩
        obtain ⟨u, rfl⟩ : ∃ u : Nat, v = u := ⟨v.toNat, by omega⟩
        refine (hex_any u q hrange (by omega) w).mono ?_
        rintro e w' ⟨rfl, hbel⟩
        refine ⟨_, rfl, _, _, K, List.mem_singleton.2 rfl, Kx.le_refl K, ?_, hR.wider hbel⟩
        rw [Int.toNat_natCast, Int.toNat_natCast]
        exact mkS_RV (hexCells_rel hden (by omega) q (by omega))
    · simp at h
  · simp at h
end
end Go.Proofs.Qxb6500274aGreat
