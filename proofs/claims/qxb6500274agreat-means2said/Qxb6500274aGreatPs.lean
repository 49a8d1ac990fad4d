import Derived.Test.Qxb6500274aGreatPb
import Derived.Test.Qxb6500274aGreatPa
import Derived.Test.Qxb6500274aGreatEnvFl
set_option linter.unusedVariables false
set_option linter.unusedSimpArgs false
set_option maxRecDepth 20000
namespace Go.Sx
open Go Go.RowKit
section
variable {n0 : Base} {w0 w : World} {K : Kx} {s : St}
/- more was made that nobody names -/
theorem Rep.wider {w' : World} (h : Rep n0 w0 K s w) (hb : Below w.heap.size w w') : Rep n0 w0 K s w' := by
  refine ⟨⟨hb.os.trans h.below.os, hb.tape.trans h.below.tape, hb.output.trans h.below.output, Nat.le_trans h.below.size hb.size, fun k hk => ?_⟩, Nat.le_trans h.hn hb.size, h.nx, fun b x hx => ?_, h.inj, h.facts, h.vals, h.syr, h.pfq⟩
  · rw [hb.block k (Nat.lt_of_lt_of_le hk h.hn)]; exact h.below.block k hk
  · obtain ⟨h1, h2, h3, h4⟩ := h.live b x hx
    exact ⟨h1, h2, Nat.lt_of_lt_of_le h3 hb.size, by rw [hb.block _ h3]; exact h4⟩
/- a block that is there is named -/
theorem Rep.adopt (h : Rep n0 w0 K s w) {x : Blk} {B tot es : Nat} (hB : n0.n ≤ B ∧ B < w.heap.size) (hfree : ∀ b y, find b s.heap = some y → K.bl b ≠ B)
    (hx : BlkRep (K.grow B tot es) s.next x w.heap[B]?) : Rep n0 w0 (K.grow B tot es) (s.new x) w := by
  have hle := Kx.le_grow K B tot es
  refine ⟨h.below, h.hn, by simp [Kx.grow, St.new, h.nx], ?_, ?_, fun t b ht => (h.facts t b ht).mono hle.sy hle.pf, fun t v ht => ⟨(h.vals t v ht).1.mono hle.sy hle.pf, (h.vals t v ht).2⟩, fun i k n hi => h.syr i k n (hle.sy ▸ hi), hle.pf.trans h.pfq⟩
  · intro b y hy
    rw [find_new] at hy
    by_cases e : s.next = b
    · subst e
      simp at hy
      subst hy
      have hbl : (K.grow B tot es).bl s.next = B := by simp [Kx.grow, h.nx]
      rw [hbl]
      exact ⟨by simp [Kx.grow, h.nx], hB.1, hB.2, hx⟩
    · rw [if_neg e] at hy
      obtain ⟨h1, h2, h3, h4⟩ := h.live b y hy
      rw [hle.bl b h1]
      exact ⟨Nat.lt_succ_of_lt h1, h2, h3, h4.mono hle h1⟩
  · intro b b' y y' hy hy' hbl
    rw [find_new] at hy hy'
    have hn : (K.grow B tot es).bl s.next = B := by simp [Kx.grow, h.nx]
    by_cases e : s.next = b
    · by_cases e' : s.next = b'
      · rw [← e, ← e']
      · rw [if_neg e'] at hy'
        obtain ⟨h1, _, h3, _⟩ := h.live b' y' hy'
        subst e
        rw [hle.bl b' h1, hn] at hbl
        exact absurd hbl.symm (hfree b' y' hy')
    · rw [if_neg e] at hy
      obtain ⟨h1, _, h3, _⟩ := h.live b y hy
      by_cases e' : s.next = b'
      · subst e'
        rw [hle.bl b h1, hn] at hbl
        exact absurd hbl (hfree b y hy)
      · rw [if_neg e'] at hy'
        obtain ⟨h1', _, _, _⟩ := h.live b' y' hy'
        rw [hle.bl b h1, hle.bl b' h1'] at hbl
        exact h.inj b b' y y' hy hy' hbl
theorem BlkRep_cells {b : Nat} {x : List Value} {X : Array Value} {T : TypeId} (h : All2 (C1 K) x X.toList) : BlkRep K b ⟨x, 0⟩ (some (.cells X T (0, 0))) := by
  unfold BlkRep
  rw [if_neg (by simp)]
  exact ⟨X, T, (0, 0), X.toList, [], rfl, .inl (by decide), by simp, h, fun _ => rfl, fun h => absurd h (by simp)⟩
end
/- a prim for one function alone -/
theorem prim_sound {P : Program} {n0 : Base} {w0 : World} {g : FuncId} {f : Func} {pr : List Value → St → Option (List (Value × St))} (hfn : P.funcs[g]? = some f) (hname : f.name ≠ "runtime.NumGoroutine") (hb : f.body.isSome = true)
    (h : ∀ args s L, pr args s = some L → ∀ K w cargs, Rep n0 w0 K s w → All2 (RV K) args cargs → Calls P g cargs.toArray w (fun e w' => ∃ c, e = .returned c ∧ LPost n0 w0 K L c w')) :
    CallSound P n0 w0 (fun h args s => if h = g then pr args s else none) := by
  obtain ⟨c, hb⟩ := Option.isSome_iff_exists.1 hb
  intro g' args s L hL
  dsimp only at hL
  split at hL
  · rename_i e
    subst e
    exact ⟨callFunc_run hfn hname hb, fun K w cargs hR ha => h args s L hL K w cargs hR ha⟩
  · simp at hL
end Go.Sx
namespace Go.Proofs.Qxb6500274aGreat
open Go Go.RowKit Go.Sx

theorem made2_sound {n0 : Base} {w0 w w' : World} {K : Kx} {s : St} {A B : List Value} {C : Nat → Nat → Array Value} {C' : Addr → Addr → List Value} {e : Ending} (hR : Rep n0 w0 K s w) (h : Made2 w w' A B C e) (hA : ∀ v, v ∈ A → plain v = true) (hB : ∀ v, v ∈ B → plain v = true)
    (hC : ∀ (K : Kx) (x y : Nat), x < K.nx → y < K.nx → All2 (C1 K) (C' ⟨x, 0, none⟩ ⟨y, 0, none⟩) (C (K.bl x) (K.bl y)).toList) :
    ∃ c, e = .returned c ∧ LPost n0 w0 K [(.pointer (some (newBlk (newBlk (newBlk s A 0).2 B 0).2 (C' (newBlk s A 0).1 (newBlk (newBlk s A 0).2 B 0).1) 0).1), (newBlk (newBlk (newBlk s A 0).2 B 0).2 (C' (newBlk s A 0).1 (newBlk (newBlk s A 0).2 B 0).1) 0).2)] c w' := by
  obtain ⟨a, b, c, hab, hac, hbc, ha, hb, hc, rfl, hbel, ⟨X, T, hX, hXa⟩, ⟨Y, T', hY, hYb⟩, T'', hZ⟩ := h
  refine ⟨_, rfl, ?_⟩
  have hR1 := hR.wider hbel
  have hlow : ∀ q y, find q s.heap = some y → K.bl q < w.heap.size := fun q y hq => (hR.live q y hq).2.2.1
  have hn := hR.hn
  have hR2 : Rep n0 w0 (K.grow a 0 0) (s.new ⟨A, 0⟩) w' := hR1.adopt ⟨by omega, ha.2⟩ (fun q y hq => by have := hlow q y hq; omega) (by
    rw [hXa]; exact BlkRep_cells (by rw [hX]; exact All2.refl _ (fun v hv => C1_plain (hA v hv))))
  have hlow2 : ∀ q y, find q (s.new ⟨A, 0⟩).heap = some y → (K.grow a 0 0).bl q < w.heap.size ∨ (K.grow a 0 0).bl q = a := by
    intro q y hq
    rw [find_new] at hq
    split at hq
    · rename_i e; subst e; right; simp [Kx.grow, hR.nx]
    · left
      rw [(Kx.le_grow K a 0 0).bl q (hR.live q y hq).1]
      exact hlow q y hq
  have hR3 : Rep n0 w0 ((K.grow a 0 0).grow b 0 0) ((s.new ⟨A, 0⟩).new ⟨B, 0⟩) w' := hR2.adopt ⟨by omega, hb.2⟩ (fun q y hq => by have := hlow2 q y hq; omega) (by
    rw [hYb]; exact BlkRep_cells (by rw [hY]; exact All2.refl _ (fun v hv => C1_plain (hB v hv))))
  have hlow3 : ∀ q y, find q ((s.new ⟨A, 0⟩).new ⟨B, 0⟩).heap = some y → ((K.grow a 0 0).grow b 0 0).bl q < w.heap.size ∨ ((K.grow a 0 0).grow b 0 0).bl q = a ∨ ((K.grow a 0 0).grow b 0 0).bl q = b := by
    intro q y hq
    rw [find_new] at hq
    split at hq
    · rename_i e; subst e; right; right; simp [Kx.grow, hR.nx, St.new]
    · rw [(Kx.le_grow (K.grow a 0 0) b 0 0).bl q (hR2.live q y hq).1]
      have := hlow2 q y hq
      omega
  have e1 : ((K.grow a 0 0).grow b 0 0).bl s.next = a := by simp [Kx.grow, hR.nx]
  have e2 : ((K.grow a 0 0).grow b 0 0).bl (s.next + 1) = b := by simp [Kx.grow, hR.nx]
  have hR4 : Rep n0 w0 (((K.grow a 0 0).grow b 0 0).grow c 0 0) (((s.new ⟨A, 0⟩).new ⟨B, 0⟩).new ⟨C' ⟨s.next, 0, none⟩ ⟨s.next + 1, 0, none⟩, 0⟩) w' := hR3.adopt ⟨by omega, hc.2⟩ (fun q y hq => by have := hlow3 q y hq; omega) (by
    rw [hZ]
    refine BlkRep_cells ?_
    have := hC ((K.grow a 0 0).grow b 0 0) s.next (s.next + 1) (by simp [Kx.grow, hR.nx]; omega) (by simp [Kx.grow, hR.nx])
    rw [e1, e2] at this
    exact this.mono (fun _ _ h => C1.mono (Kx.le_grow _ c 0 0) h))
  refine ⟨_, _, _, List.mem_singleton.2 rfl, Kx.le_trans (Kx.le_trans (Kx.le_grow K a 0 0) (Kx.le_grow _ b 0 0)) (Kx.le_grow _ c 0 0), ?_, hR4⟩
  rw [RV_ptr]
  exact ⟨rfl, by simp [newBlk, Kx.grow, St.new, hR.nx], by simp [newBlk, Kx.grow, St.new, hR.nx]⟩

theorem rep_all {Q : Value → Prop} (z : List Value) (h : ∀ v, v ∈ z → Q v) : ∀ (n : Nat) (v : Value), v ∈ rep z n → Q v
  | 0, v, hv => by simp [rep] at hv
  | n + 1, v, hv => by
    simp only [rep, List.mem_append] at hv
    rcases hv with hv | hv
    · exact h v hv
    · exact rep_all z h n v hv

theorem C1_slice {K : Kx} {x l k : Nat} (hx : x < K.nx) (hk : k ≠ capU) : C1 K (.slice (some ⟨x, 0, none⟩) l k) (.slice (some ⟨K.bl x, 0, none⟩) l k) :=
  ⟨rfl, hx, .inl ⟨hk, rfl⟩⟩
theorem C1_pl {K : Kx} {v : Value} (h : plain v = true) : C1 K v v := C1_plain h

section
variable {n0 : Base} {w0 : World}
theorem bin_sound : CallSound Tryz.prog n0 w0 (fun h args s => if h = 30 then primBin args s else none) := by
  refine prim_sound Tryz.func30 (of_decide_eq_true (by kernel_rfl)) (by kernel_rfl) ?_
  intro args s L h K w cargs hR ha
  unfold primBin at h
  split at h
  · have := one_eq h
    subst this
    match cargs, ha with
    | [], _ =>
      refine (bin_new w).mono ?_
      intro e w' hm
      refine made2_sound (C' := fun x y => [.int .i64 0, .int .i64 0, .int .i64 0, .int .i64 0, .int .i64 0, .int .i64 0, .int .i64 0, .int .i64 0, .int .i64 0, .int .u8 0, .int .u8 0, .int .u8 0, .int .u8 0, .int .u8 0, .int .u8 0, .int .i64 0, .slice (some x) 96 96, .int .i64 0, .slice (some y) 24 24, .int .i64 0, .slice none 0 0, .slice none 0 0, .slice none 0 0]) hR hm ?_ ?_ ?_
      · exact rep_all _ (by intro v hv; simp at hv; rcases hv with rfl | rfl | rfl <;> rfl) 96
      · exact rep_all _ (by intro v hv; simp at hv; subst hv; rfl) 24
      · intro K x y hx hy
        refine ⟨C1_pl rfl, C1_pl rfl, C1_pl rfl, C1_pl rfl, C1_pl rfl, C1_pl rfl, C1_pl rfl, C1_pl rfl, C1_pl rfl, C1_pl rfl, C1_pl rfl, C1_pl rfl, C1_pl rfl, C1_pl rfl, C1_pl rfl, C1_pl rfl, C1_slice hx (by decide), C1_pl rfl, C1_slice hy (by decide), C1_pl rfl, C1_pl rfl, C1_pl rfl, C1_pl rfl, trivial⟩
  · simp at h
theorem host_sound : CallSound Tryz.prog n0 w0 (fun h args s => if h = 69 then primHost args s else none) := by
  refine prim_sound Tryz.func69 (of_decide_eq_true (by kernel_rfl)) (by kernel_rfl) ?_
  intro args s L h K w cargs hR ha
  unfold primHost at h
  split at h
  · have := one_eq h
    subst this
    match cargs, ha with
    | [], _ =>
      refine (host_new w).mono ?_
      intro e w' hm
      refine made2_sound (C' := fun x y => [.slice (some x) 0 4, .int .u64 0, .int .u64 0, .int .u64 0, .int .u64 0, .int .u64 0, .int .u64 0, .int .i64 0, .int .i64 0, .slice (some y) 0 864, .int .i64 0]) hR hm ?_ ?_ ?_
      · exact rep_all _ (by intro v hv; simp at hv; subst hv; rfl) 4
      · exact rep_all _ (by intro v hv; simp at hv; subst hv; rfl) 864
      · intro K x y hx hy
        refine ⟨C1_slice hx (by decide), C1_pl rfl, C1_pl rfl, C1_pl rfl, C1_pl rfl, C1_pl rfl, C1_pl rfl, C1_pl rfl, C1_pl rfl, C1_slice hy (by decide), C1_pl rfl, trivial⟩
  · simp at h

/- what the named functions mean -/
structure PfOK (n0 : Base) : Prop where
  word : ∀ s i, n0.pf 0 [.string s, .int .i64 i] = some (.int .u64 (wordF s i))
  hex : ∀ v n, n0.pf 1 [.int .u64 v, .int .i64 n] = some (.string ⟨⟨hexL v.toNat n.toNat⟩⟩)
  app : ∀ o x y : Int, (0 ≤ x ∧ x < 18446744073709551616) → (0 ≤ y ∧ y < 18446744073709551616) → ∃ b e : Int, n0.pf 2 [.int .u64 x, .int .u64 y, .int .i64 o] = some (.int .u64 b) ∧ n0.pf 3 [.int .u64 x, .int .u64 y, .int .i64 o] = some (.int .i64 e) ∧
    (0 ≤ b ∧ b < 18446744073709551616) ∧ (0 ≤ e ∧ e ≤ 100) ∧ (o = 69 → b = (if x % 4294967296 == 0 then 1 else 0) ∧ e = 0) ∧ (o = 106 → b = IntKind.u64.wrap (IntKind.u32.wrap (x % 4294967296 + y % 4294967296)) ∧ e = 0) ∧
    ∀ w, Calls Tryz.prog 79 #[.int .i64 o, .int .u64 x, .int .u64 y] w fun e' w' => e' = .returned (.tuple #[.int .u64 b, .int .i64 e]) ∧ sameWorld w w'

theorem pf_there (n : Nat) : ∃ n0 : Base, n0.n = n ∧ PfOK n0 := by
  have h : ∀ q : Int × Int × Int, ∃ p : Int × Int, (0 ≤ q.2.1 ∧ q.2.1 < 18446744073709551616) → (0 ≤ q.2.2 ∧ q.2.2 < 18446744073709551616) → (0 ≤ p.1 ∧ p.1 < 18446744073709551616) ∧ (0 ≤ p.2 ∧ p.2 ≤ 100) ∧
      (q.1 = 69 → p.1 = (if q.2.1 % 4294967296 == 0 then 1 else 0) ∧ p.2 = 0) ∧ (q.1 = 106 → p.1 = IntKind.u64.wrap (IntKind.u32.wrap (q.2.1 % 4294967296 + q.2.2 % 4294967296)) ∧ p.2 = 0) ∧
      ∀ w, Calls Tryz.prog 79 #[.int .i64 q.1, .int .u64 q.2.1, .int .u64 q.2.2] w fun e' w' => e' = .returned (.tuple #[.int .u64 p.1, .int .i64 p.2]) ∧ sameWorld w w' := by
    rintro ⟨o, x, y⟩
    by_cases hx : 0 ≤ x ∧ x < 18446744073709551616
    · by_cases hy : 0 ≤ y ∧ y < 18446744073709551616
      · obtain ⟨b, e, h⟩ := apply_fn o x y hx hy
        exact ⟨(b, e), fun _ _ => h⟩
      · exact ⟨(0, 0), fun _ h => absurd h hy⟩
    · exact ⟨(0, 0), fun h => absurd h hx⟩
  refine ⟨⟨n, fun k args => match k, args with
    | 0, [.string s, .int .i64 i] => some (.int .u64 (wordF s i))
    | 1, [.int .u64 v, .int .i64 n] => some (.string ⟨⟨hexL v.toNat n.toNat⟩⟩)
    | 2, [.int .u64 x, .int .u64 y, .int .i64 o] => some (.int .u64 (Classical.choose (h (o, x, y))).1)
    | 3, [.int .u64 x, .int .u64 y, .int .i64 o] => some (.int .i64 (Classical.choose (h (o, x, y))).2)
    | _, _ => none⟩, rfl, ⟨fun s i => rfl, fun v n => rfl, fun o x y hx hy => ?_⟩⟩
  have := Classical.choose_spec (h (o, x, y)) hx hy
  exact ⟨_, _, rfl, rfl, this⟩

theorem u64_range {n : Int} (h : IntKind.u64.wrap n = n) : 0 ≤ n ∧ n < 18446744073709551616 := by rw [wrap_u64] at h; omega
theorem u64_wrap {n : Int} (h : 0 ≤ n ∧ n < 18446744073709551616) : IntKind.u64.wrap n = n := by rw [wrap_u64]; omega

theorem Den_pf2 {K : Kx} {x : List Value} {cx c : Value} {k : IntKind} {i : Int} {o : Nat} (ho : 200 ≤ o) (hx : Den K x cx) (h : K.pf (o - 200) [cx, .int k i] = some c) : Den K (.int k i :: (x ++ [.slice none o 2])) c := by
  intro st
  simp only [rpn, tok1]
  rw [rpn_append, hx, Option.bind_some]
  have n1 : ¬ o < 100 := by omega
  have n2 : o ≠ 100 := by omega
  have n3 : o ≠ 101 := by omega
  have n4 : o ≠ 102 := by omega
  have n5 : o ≠ 103 := by omega
  have n6 : o ≠ 104 := by omega
  have n7 : o ≠ 105 := by omega
  have n8 : o ≠ 106 := by omega
  simp [rpn, tok1, tokOp, n1, n2, n3, n4, n5, n6, n7, n8, h]
theorem Den_pf3 {K : Kx} {x y : List Value} {cx cy c : Value} {k : IntKind} {i : Int} {o : Nat} (ho : 200 ≤ o) (hx : Den K x cx) (hy : Den K y cy) (h : K.pf (o - 200) [cx, cy, .int k i] = some c) : Den K (.int k i :: (y ++ (x ++ [.slice none o 3]))) c := by
  intro st
  simp only [rpn, tok1]
  rw [rpn_append, hy, Option.bind_some, rpn_append, hx, Option.bind_some]
  have n1 : ¬ o < 100 := by omega
  have n2 : o ≠ 100 := by omega
  have n3 : o ≠ 101 := by omega
  have n4 : o ≠ 102 := by omega
  have n5 : o ≠ 103 := by omega
  have n6 : o ≠ 104 := by omega
  have n7 : o ≠ 105 := by omega
  have n8 : o ≠ 106 := by omega
  simp [rpn, tok1, tokOp, n1, n2, n3, n4, n5, n6, n7, n8, h]

theorem eight_len {K : Kx} {fs : List (List Value × Bool)} (hf : ∀ t b, (t, b) ∈ fs → Den K t (.bool b)) {x : Value} {str : ByteArray} (h : eight fs x = true) (hd : Den K (toks x) (.string str)) : str.data.toList.length = 8 := by
  unfold eight at h
  split at h
  · rename_i hl
    have h1 := hf _ _ (look_mem hl) []
    rw [rpn_append, hd, Option.bind_some] at h1
    simp [rpn, tok1, tokOp, opOf, binV, ibin] at h1
    simp
    omega
  · cases h

theorem word_sound (hp : PfOK n0) : CallSound Tryz.prog n0 w0 (fun h args s => if h = 64 then primWord args s else none) := by
  refine prim_sound Tryz.func64 (of_decide_eq_true (by kernel_rfl)) (by kernel_rfl) ?_
  intro args s L h K w cargs hR ha
  unfold primWord at h
  split at h
  · rename_i s x i
    split at h
    · rename_i m hm
      split at h
      · rename_i hble
        match cargs, ha with
        | [cx, ci], ⟨h1, h2, _⟩ =>
          rw [RV_int] at h2
          subst h2
          obtain ⟨str, rfl, hlen, hden⟩ := mostS_RV hm h1
          have hlen' := Nat.le_trans hlen (Nat.le_of_ble_eq_true hble)
          refine (word_any str i (by simpa using hlen') w).mono ?_
          rintro e w' ⟨rfl, rfl⟩
          split at h
          · rename_i h8
            simp only [Bool.and_eq_true, decide_eq_true_eq] at h8
            have := one_eq h
            subst this
            refine ⟨_, rfl, _, _, K, List.mem_singleton.2 rfl, Kx.le_refl K, ?_, hR⟩
            have h8' := eight_len hR.facts h8.2 hden
            have : wordF str i = 0 := by
              unfold wordF
              have hz : str.size = 8 := by simpa using h8'
              rw [if_pos (.inr (by omega))]
            rw [this, RV_int]
          · have := one_eq h
            subst this
            refine ⟨_, rfl, _, _, K, List.mem_singleton.2 rfl, Kx.le_refl K, ?_, hR⟩
            refine known_sound hR.kok (RV_symInt (u64_wrap (wordF_range str i)) (Den_pf2 (by decide) hden ?_))
            rw [hR.pfq]
            exact hp.word str i
      · simp at h
    · simp at h
  · simp at h

theorem hex_sound (hp : PfOK n0) : CallSound Tryz.prog n0 w0 (fun h args s => if h = 66 then primHex args s else none) := by
  refine prim_sound Tryz.func66 (of_decide_eq_true (by kernel_rfl)) (by kernel_rfl) ?_
  intro args s L h K w cargs hR ha
  unfold primHex at h
  split at h
  · rename_i s v n
    split at h
    · rename_i hb
      simp only [Bool.and_eq_true, decide_eq_true_eq] at hb
      have := one_eq h
      subst this
      match cargs, ha with
      | [cx, ci], ⟨h1, h2, _⟩ =>
        rw [RV_int] at h1 h2
        subst h1; subst h2
        obtain ⟨q, rfl⟩ : ∃ q : Nat, n = q := ⟨n.toNat, by omega⟩
        refine (hex_any v q hb.1 (by omega) w).mono ?_
        rintro e w' ⟨rfl, hbel⟩
        refine ⟨_, rfl, _, _, K, List.mem_singleton.2 rfl, Kx.le_refl K, ?_, hR.wider hbel⟩
        rw [RV_string, Int.toNat_natCast]
    · simp at h
  · rename_i s x n hne
    split at h
    · rename_i hk hb
      simp only [Bool.and_eq_true, decide_eq_true_eq] at hb
      have := one_eq h
      subst this
      match cargs, ha with
      | [cx, ci], ⟨h1, h2, _⟩ =>
        rw [RV_int] at h2
        subst h2
        obtain ⟨v, rfl, hden, hr⟩ := kindI_RV hk h1
        obtain ⟨q, rfl⟩ : ∃ q : Nat, n = q := ⟨n.toNat, by omega⟩
        refine (hex_any v q (u64_range (hr hb.1)) (by omega) w).mono ?_
        rintro e w' ⟨rfl, hbel⟩
        refine ⟨_, rfl, _, _, K, List.mem_singleton.2 rfl, Kx.le_refl K, ?_, hR.wider hbel⟩
        refine known_sound hR.kok (RV_symStr (by simp [hexL_length]) (Den_pf2 (by decide) hden ?_))
        rw [hR.pfq]
        exact hp.hex v q
    · simp at h
  · simp at h
end
end Go.Proofs.Qxb6500274aGreat
