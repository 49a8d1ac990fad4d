import Derived.Test.Qxb6500274aGreatWSxPure
set_option linter.unusedSimpArgs false
namespace Go.Sx
open Go Go.RowKit

/- WHAT THE FACTS OF A STATE SAY OF THE SYMBOLS -/
structure KOK (K : Kx) (s : St) : Prop where
  facts : ∀ t b, (t, b) ∈ s.facts → Den K t (.bool b)
  vals : ∀ t v, (t, v) ∈ s.vals → Den K t v ∧ plain v = true
  syr : ∀ i k n, K.sy i = .int k n → k.wrap n = n

theorem Rep.kok {n0 : Base} {w0 : World} {K : Kx} {s : St} {w : World} (h : Rep n0 w0 K s w) : KOK K s := ⟨h.facts, h.vals, h.syr⟩

/- ranges -/
theorem wrap_i8 (n : Int) : IntKind.i8.wrap n = (n + 128) % 256 - 128 := by
  have h1 : (2 : Int) ^ IntKind.i8.bits = 256 := by decide
  have h2 : (2 : Int) ^ (IntKind.i8.bits - 1) = 128 := by decide
  unfold IntKind.wrap
  simp only [h1, h2, IntKind.signed, Bool.true_and, decide_eq_true_eq]
  split <;> omega
theorem wrap_i16 (n : Int) : IntKind.i16.wrap n = (n + 32768) % 65536 - 32768 := by
  have h1 : (2 : Int) ^ IntKind.i16.bits = 65536 := by decide
  have h2 : (2 : Int) ^ (IntKind.i16.bits - 1) = 32768 := by decide
  unfold IntKind.wrap
  simp only [h1, h2, IntKind.signed, Bool.true_and, decide_eq_true_eq]
  split <;> omega
theorem wrap_i32 (n : Int) : IntKind.i32.wrap n = (n + 2147483648) % 4294967296 - 2147483648 := by
  have h1 : (2 : Int) ^ IntKind.i32.bits = 4294967296 := by decide
  have h2 : (2 : Int) ^ (IntKind.i32.bits - 1) = 2147483648 := by decide
  unfold IntKind.wrap
  simp only [h1, h2, IntKind.signed, Bool.true_and, decide_eq_true_eq]
  split <;> omega
theorem wrap_i64 (n : Int) : IntKind.i64.wrap n = (n + 9223372036854775808) % 18446744073709551616 - 9223372036854775808 := by
  have h1 : (2 : Int) ^ IntKind.i64.bits = 18446744073709551616 := by decide
  have h2 : (2 : Int) ^ (IntKind.i64.bits - 1) = 9223372036854775808 := by decide
  unfold IntKind.wrap
  simp only [h1, h2, IntKind.signed, Bool.true_and, decide_eq_true_eq]
  split <;> omega
theorem wrap_u8 (n : Int) : IntKind.u8.wrap n = n % 256 := by simp [IntKind.wrap, IntKind.bits, IntKind.signed]
theorem wrap_u16 (n : Int) : IntKind.u16.wrap n = n % 65536 := by simp [IntKind.wrap, IntKind.bits, IntKind.signed]
theorem wrap_u32 (n : Int) : IntKind.u32.wrap n = n % 4294967296 := by simp [IntKind.wrap, IntKind.bits, IntKind.signed]
theorem wrap_u64 (n : Int) : IntKind.u64.wrap n = n % 18446744073709551616 := by simp [IntKind.wrap, IntKind.bits, IntKind.signed]

theorem wrap_wrap (k : IntKind) (n : Int) : k.wrap (k.wrap n) = k.wrap n := by
  cases k <;> simp only [wrap_i8, wrap_i16, wrap_i32, wrap_i64, wrap_u8, wrap_u16, wrap_u32, wrap_u64] <;> omega

theorem wrap_sub (k : IntKind) (n a c : Int) : k.wrap (k.wrap (n - a) - c) = k.wrap (n - (a + c)) := by
  cases k <;> simp only [wrap_i8, wrap_i16, wrap_i32, wrap_i64, wrap_u8, wrap_u16, wrap_u32, wrap_u64] <;> omega

theorem wrap_range (k : IntKind) (n : Int) : k.wrap n = n ↔ (k.min ≤ n ∧ n ≤ k.max) := by
  have e : (IntKind.i8.min = -128 ∧ IntKind.i8.max = 127) ∧ (IntKind.i16.min = -32768 ∧ IntKind.i16.max = 32767) ∧ (IntKind.i32.min = -2147483648 ∧ IntKind.i32.max = 2147483647) ∧
    (IntKind.i64.min = -9223372036854775808 ∧ IntKind.i64.max = 9223372036854775807) ∧ (IntKind.u8.min = 0 ∧ IntKind.u8.max = 255) ∧ (IntKind.u16.min = 0 ∧ IntKind.u16.max = 65535) ∧
    (IntKind.u32.min = 0 ∧ IntKind.u32.max = 4294967295) ∧ (IntKind.u64.min = 0 ∧ IntKind.u64.max = 18446744073709551615) := by decide
  cases k <;> simp only [wrap_i8, wrap_i16, wrap_i32, wrap_i64, wrap_u8, wrap_u16, wrap_u32, wrap_u64] <;> omega

theorem wrap_of_sub (k : IntKind) (n a c : Int) (hn : k.wrap n = n) (hc : k.wrap (c + a) = c + a) (h : k.wrap (n - a) = c) : n = c + a := by
  revert hn hc h
  cases k <;> simp only [wrap_i8, wrap_i16, wrap_i32, wrap_i64, wrap_u8, wrap_u16, wrap_u32, wrap_u64] <;> omega

theorem min_le_zero (k : IntKind) : k.min ≤ 0 := by cases k <;> decide
theorem zero_le_max (k : IntKind) : 0 ≤ k.max := by cases k <;> decide
theorem unsigned_min (k : IntKind) (h : k.signed = false) : k.min = 0 := by cases k <;> simp_all [IntKind.signed, IntKind.min]

theorem wrap_tmod (k : IntKind) (a b : Int) (h : k.wrap a = a) : k.wrap (a.tmod b) = a.tmod b := by
  rw [wrap_range] at h ⊢
  have h0 := min_le_zero k
  have h1 := zero_le_max k
  have e : (a.tmod b).natAbs ≤ a.natAbs := by rw [Int.natAbs_tmod]; exact Nat.mod_le _ _
  rcases Int.lt_or_le a 0 with ha | ha
  · have : a.tmod b ≤ 0 := by
      have := Int.tmod_nonneg (a := -a) b (by omega)
      rw [Int.neg_tmod] at this
      omega
    omega
  · have := Int.tmod_nonneg (a := a) b ha
    omega

theorem wrap_fdiv (k : IntKind) (a : Int) (m : Nat) (h : k.wrap a = a) : k.wrap (a.fdiv (2 ^ m)) = a.fdiv (2 ^ m) := by
  rw [wrap_range] at h ⊢
  have h0 := min_le_zero k
  have h1 := zero_le_max k
  have hp : (0 : Int) < 2 ^ m := Int.pow_pos (by decide)
  rw [Int.fdiv_eq_ediv_of_nonneg _ (Int.le_of_lt hp)]
  have hd := Int.mul_ediv_add_emod a (2 ^ m)
  have hm0 := Int.emod_nonneg a (Int.ne_of_gt hp)
  have hm1 := Int.emod_lt_of_pos a hp
  rcases Int.lt_or_le a 0 with ha | ha
  · have h2 : a / 2 ^ m < 0 := Int.ediv_neg_of_neg_of_pos ha hp
    have h3 : a ≤ a / 2 ^ m := by
      have : 2 ^ m * (a / 2 ^ m) ≤ 1 * (a / 2 ^ m) := Int.mul_le_mul_of_nonpos_right (by omega) (by omega)
      rcases Int.lt_or_le (a / 2 ^ m) a with h4 | h4
      · have h5 : 2 ^ m * (a / 2 ^ m) ≤ 2 ^ m * (a - 1) := Int.mul_le_mul_of_nonneg_left (by omega) (by omega)
        have h6 : (2 : Int) ^ m * (a - 1) = 2 ^ m * a - 2 ^ m := by rw [Int.mul_sub, Int.mul_one]
        have h7 : (2 : Int) ^ m * a ≤ 1 * a := Int.mul_le_mul_of_nonpos_right (by omega) (by omega)
        omega
      · exact h4
    omega
  · have h2 : 0 ≤ a / 2 ^ m := Int.ediv_nonneg ha (Int.le_of_lt hp)
    have h3 : a / 2 ^ m ≤ a := Int.ediv_le_self _ ha
    omega

/- tokens -/
theorem eqTok_eq {a b : Value} (h : eqTok a b = true) : a = b := by
  unfold eqTok at h
  split at h
  · rename_i j a k b
    simp at h
    obtain ⟨h1, rfl⟩ := h
    have : j = k := by rw [← kindOf_N j, ← kindOf_N k, h1]
    rw [this]
  · simp at h; rw [h]
  · rename_i a b
    simp at h
    have : a = b := by
      cases a with | mk a => cases b with | mk b =>
        cases a with | mk a => cases b with | mk b => simp at h; rw [h]
    rw [this]
  · simp at h; rw [h.1, h.2]
  · simp at h; rw [h]
  · simp at h

theorem eqToks_eq : ∀ {a b : List Value}, eqToks a b = true → a = b
  | [], [], _ => rfl
  | [], _ :: _, h => by simp [eqToks] at h
  | _ :: _, [], h => by simp [eqToks] at h
  | x :: a, y :: b, h => by
    simp only [eqToks] at h
    split at h
    · rename_i e
      rw [eqTok_eq e, eqToks_eq h]
    · simp at h

theorem look_mem {t : List Value} : ∀ {fs : List (List Value × Bool)} {b : Bool}, look t fs = some b → (t, b) ∈ fs
  | [], _, h => by simp [look] at h
  | (u, c) :: l, b, h => by
    simp only [look] at h
    split at h
    · rename_i e
      simp at h
      have := eqToks_eq e
      simp_all
    · exact List.mem_cons_of_mem _ (look_mem h)

theorem lookV_mem {t : List Value} : ∀ {fs : List (List Value × Value)} {b : Value}, lookV t fs = some b → (t, b) ∈ fs
  | [], _, h => by simp [lookV] at h
  | (u, c) :: l, b, h => by
    simp only [lookV] at h
    split at h
    · rename_i e
      simp at h
      have := eqToks_eq e
      simp_all
    · exact List.mem_cons_of_mem _ (lookV_mem h)

section
variable {K : Kx}

theorem Den_int (k : IntKind) (n : Int) : Den K [.int k n] (.int k n) := fun _ => rfl
theorem Den_string (s : ByteArray) : Den K [.string s] (.string s) := fun _ => rfl
theorem Den_bool (b : Bool) : Den K [.bool b] (.bool b) := fun _ => rfl

theorem kindI_RV {v c : Value} {k : IntKind} (h : kindI v = some k) (hv : RV K v c) : ∃ n, c = .int k n ∧ Den K (toks v) c ∧ (inR v = true → k.wrap n = n) := by
  unfold kindI at h
  split at h
  · simp at h
    subst h
    rw [RV_int] at hv
    subst hv
    exact ⟨_, rfl, Den_int _ _, fun h => by simpa [inR] using h⟩
  · rename_i n t sh
    split at h
    · rename_i hs
      simp at h
      subst h
      rw [RV_sym, hs] at hv
      obtain ⟨m, h1, h2, h3⟩ := hv
      exact ⟨m, h1, h3, fun _ => h2⟩
    · simp at h
  · simp at h

theorem mostS_RV {v c : Value} {m : Nat} (h : mostS v = some m) (hv : RV K v c) : ∃ s, c = .string s ∧ s.data.toList.length ≤ m ∧ Den K (toks v) c := by
  unfold mostS at h
  split at h
  · simp at h
    subst h
    rw [RV_string] at hv
    subst hv
    exact ⟨_, rfl, by simp, Den_string _⟩
  · rename_i n t sh
    split at h
    · rename_i hs
      simp at h
      subst h
      rw [RV_sym, hs] at hv
      obtain ⟨m, h1, h2, h3⟩ := hv
      exact ⟨m, h1, h2, h3⟩
    · simp at h
  · simp at h

theorem boolS_RV {v c : Value} {t : List Value} (h : boolS v = some t) (hv : RV K v c) : ∃ b, c = .bool b ∧ Den K t c := by
  unfold boolS at h
  split at h
  · rename_i n t sh
    split at h
    · rename_i hs
      simp at h
      subst h
      rw [RV_sym, hs] at hv
      obtain ⟨m, h1, h3⟩ := hv
      exact ⟨m, h1, h3⟩
    · simp at h
  · simp at h

theorem Den_bin {op : BinOp} {x y : List Value} {cx cy c : Value} {z : Nat} (hx : Den K x cx) (hy : Den K y cy) (h : binV op cx cy = some c) : Den K (x ++ (y ++ [.slice none (opN op) z])) c := by
  intro st
  rw [rpn_append, hx st, Option.bind_some, rpn_append, hy, Option.bind_some]
  simp [rpn, tok1, tokOp, opN_lt, opOf_N, h]

theorem RV_symInt {k : IntKind} {t : List Value} {n m : Int} (h : k.wrap n = n) (hd : Den K t (.int k n)) : RV K (symv (.int k m) t) (.int k n) := by
  rw [symv, RV_sym]; exact ⟨n, rfl, h, hd⟩
theorem RV_symBool {t : List Value} {b b' : Bool} (hd : Den K t (.bool b)) : RV K (symv (.bool b') t) (.bool b) := by
  rw [symv, RV_sym]; exact ⟨b, rfl, hd⟩
theorem RV_symStr {t : List Value} {s : ByteArray} {m z : Nat} (h : s.data.toList.length ≤ m) (hd : Den K t (.string s)) : RV K (symv (.slice none m z) t) (.string s) := by
  rw [symv, RV_sym]; exact ⟨s, rfl, h, hd⟩

theorem binV_run {P : Program} {op : BinOp} {cx cy c : Value} (h : binV op cx cy = some c) (t : TypeId) (p q : Operand) (w : World) :
    (do Go.eqGuard op t p q cx cy; binOp op t cx cy : Sem Value).run P w = .ok c w := by
  unfold binV at h
  split at h
  · rename_i k a k' b
    have hg : (Go.eqGuard op t p q (.int k a) (.int k' b)).run P w = .ok () w := by unfold Go.eqGuard; cases op <;> simp
    simp only [Sem.run_bind, hg, Result.andThen_ok]
    split at h
    · exact (ishift_run (P := P) w (k' := k') h t).1
    · exact (ishift_run (P := P) w (k' := k') h t).1
    · rename_i h1 h2
      split at h
      · rename_i hk
        subst hk
        exact (ibin_run (P := P) w h (fun e => h1 e) (fun e => h2 e) t).1
      · simp at h
  · rename_i a b
    have hg : (Go.eqGuard op t p q (.string a) (.string b)).run P w = .ok () w := by unfold Go.eqGuard; cases op <;> simp
    simp only [Sem.run_bind, hg, Result.andThen_ok]
    exact (sbin_run (P := P) w h t).1
  · simp at h

/- bounds -/
theorem binV_int {op : BinOp} (h1 : op ≠ .shl) (h2 : op ≠ .shr) (k : IntKind) (a b : Int) : binV op (.int k a) (.int k b) = ibin op k a b := by
  cases op <;> simp_all [binV]

theorem binV_inv {op : BinOp} (h1 : op ≠ .shl) (h2 : op ≠ .shr) {v r : Value} {k : IntKind} {c : Int} (h : binV op v (.int k c) = some r) : ∃ n, v = .int k n ∧ ibin op k n c = some r := by
  cases v with
  | int k' n =>
    by_cases hk : k' = k
    · subst hk
      rw [binV_int h1 h2] at h
      exact ⟨n, rfl, h⟩
    · cases op <;> simp_all [binV]
  | _ => simp [binV] at h

theorem cmp_op {o : Nat} (ho : 11 ≤ o ∧ o ≤ 16) : o < 100 ∧ opOf o ≠ .shl ∧ opOf o ≠ .shr := by
  have : o = 11 ∨ o = 12 ∨ o = 13 ∨ o = 14 ∨ o = 15 ∨ o = 16 := by omega
  rcases this with rfl | rfl | rfl | rfl | rfl | rfl <;> exact ⟨by decide, by simp [opOf], by simp [opOf]⟩

theorem sy_of_bin {i : Nat} {k : IntKind} {c : Int} {o z : Nat} {b : Bool} (ho : 11 ≤ o ∧ o ≤ 16) (h : Den K [.chan (some i), .int k c, .slice none o z] (.bool b)) :
    ∃ n, K.sy i = .int k n ∧ ibin (opOf o) k n c = some (.bool b) := by
  have h := h []
  obtain ⟨hlt, h1, h2⟩ := cmp_op ho
  simp only [rpn, tok1, tokOp, hlt, if_true] at h
  cases hb : binV (opOf o) (K.sy i) (.int k c) with
  | none => simp [hb] at h
  | some v =>
    simp [hb] at h
    subst h
    exact binV_inv h1 h2 hb

theorem sy_of_sub {i : Nat} {k k' : IntKind} {a c : Int} {o z z' : Nat} {b : Bool} (hk : k = k') (ho : 11 ≤ o ∧ o ≤ 16) (h : Den K [.chan (some i), .int k a, .slice none 1 z', .int k' c, .slice none o z] (.bool b)) :
    ∃ n, K.sy i = .int k n ∧ ibin (opOf o) k (k.wrap (n - a)) c = some (.bool b) := by
  subst hk
  have h := h []
  obtain ⟨hlt, h1, h2⟩ := cmp_op ho
  simp only [rpn, tok1, tokOp, hlt, show (1 : Nat) < 100 from by decide, if_true] at h
  cases hb : binV (opOf 1) (K.sy i) (.int k a) with
  | none => simp [hb] at h
  | some v =>
    simp only [hb, Option.map_some] at h
    obtain ⟨n, h3, h4⟩ := binV_inv (by simp [opOf]) (by simp [opOf]) hb
    simp [opOf, ibin] at h4
    subst h4
    refine ⟨n, h3, ?_⟩
    rw [binV_int h1 h2] at h
    cases hi : ibin (opOf o) k (k.wrap (n - a)) c with
    | none => simp [hi] at h
    | some u => simp [hi] at h; rw [h]

theorem narrow_sound {i : Nat} {k : IntKind} {n : Int} {t : List Value} {b : Bool} {p : Int × Int} (hs : K.sy i = .int k n) (hr : k.wrap n = n) (hp : p.1 ≤ n ∧ n ≤ p.2) (h : Den K t (.bool b)) :
    (narrow i k t b p).1 ≤ n ∧ n ≤ (narrow i k t b p).2 := by
  unfold narrow
  split
  · rename_i j k' c o z
    split
    · exact hp
    · rename_i he
      simp only [Bool.and_eq_true, decide_eq_true_eq] at he
      obtain ⟨e1, e2⟩ := he
      have e1 := Nat.eq_of_beq_eq_true e1
      subst e1; subst e2
      split <;> first
        | exact hp
        | (obtain ⟨m, h1, h2⟩ := sy_of_bin (by decide) h
           rw [hs] at h1
           simp at h1
           subst h1
           simp [opOf, ibin] at h2
           simp only
           (try split) <;> omega)
  · rename_i j k' a z k'' c z'
    split
    · exact hp
    · rename_i he
      simp only [Bool.and_eq_true, decide_eq_true_eq] at he
      obtain ⟨⟨e1, e2, e3⟩, e4, e5⟩ := he
      have e1 := Nat.eq_of_beq_eq_true e1
      subst e1; subst e2; subst e3
      obtain ⟨m, h1, h2⟩ := sy_of_sub rfl (by decide) h
      rw [hs] at h1
      simp at h1
      subst h1
      simp [opOf, ibin] at h2
      split
      · simp at h2
        have := wrap_of_sub k n a c hr e4 h2
        simp only
        omega
      · simp at h2
        have hne : n ≠ c + a := by
          intro e
          apply h2
          have : n - a = c := by omega
          rw [this, e5]
        simp only
        split <;> omega
  · exact hp

theorem bounds_sound {i : Nat} {k : IntKind} {n : Int} (hs : K.sy i = .int k n) (hr : k.wrap n = n) : ∀ {fs : List (List Value × Bool)}, (∀ t b, (t, b) ∈ fs → Den K t (.bool b)) →
    (bounds i k fs).1 ≤ n ∧ n ≤ (bounds i k fs).2
  | [], _ => (wrap_range k n).1 hr
  | (t, b) :: _, h => narrow_sound hs hr (bounds_sound hs hr (fun t b hm => h t b (List.mem_cons_of_mem _ hm))) (h t b (List.mem_cons_self ..))

theorem decI_sound {o : Nat} {lo hi c x : Int} {k : IntKind} {b r : Bool} (h : decI o lo hi c = some b) (h1 : lo ≤ x) (h2 : x ≤ hi) (hi' : ibin (opOf o) k x c = some (.bool r)) : r = b := by
  unfold decI at h
  split at h
  all_goals first
    | (simp at h; done)
    | (simp [opOf, ibin] at hi'
       split at h
       · simp at h
         cases r <;> cases b <;> simp_all <;> omega
       · split at h
         · simp at h
           cases r <;> cases b <;> simp_all <;> omega
         · simp at h)

theorem decI_op {o : Nat} {lo hi c : Int} {b : Bool} (h : decI o lo hi c = some b) : 11 ≤ o ∧ o ≤ 16 := by
  unfold decI at h
  split at h
  all_goals first
    | (simp at h; done)
    | decide

theorem dec_sound {s : St} (hk : KOK K s) {t : List Value} {b r : Bool} (h : dec s.facts t = some b) (hd : Den K t (.bool r)) : r = b := by
  have hlook : ∀ {t : List Value}, look t s.facts = some b → Den K t (.bool r) → r = b := by
    intro t h hd
    have := (hk.facts t b (look_mem h)).uniq hd
    simp at this
    exact this.symm
  unfold dec at h
  split at h
  · rename_i i k c o z
    obtain ⟨n, h1, h2⟩ := sy_of_bin (decI_op h) hd
    have hb := bounds_sound h1 (hk.syr i k n h1) hk.facts
    exact decI_sound h hb.1 hb.2 h2
  · rename_i i k a z k' c o z'
    split at h
    · rename_i he
      simp only [Bool.and_eq_true, decide_eq_true_eq] at he
      obtain ⟨⟨e1, e2⟩, e3⟩ := he
      obtain ⟨n, h1, h2⟩ := sy_of_sub e1 (decI_op h) hd
      have hb := bounds_sound h1 (hk.syr i k n h1) hk.facts
      have hw : k.wrap (n - a) = n - a := (wrap_range k _).2 ⟨by omega, by omega⟩
      rw [hw] at h2
      exact decI_sound h (by omega) (by omega) h2
    · exact hlook h hd
  · exact hlook h hd

theorem truth_sound {s : St} (hk : KOK K s) {v c : Value} {b : Bool} (h : truth s.facts v = some b) (hv : RV K v c) : c = .bool b := by
  unfold truth at h
  split at h
  · simp at h
    subst h
    exact RV_bool.1 hv
  · split at h
    · rename_i t ht
      obtain ⟨r, rfl, hd⟩ := boolS_RV ht hv
      rw [dec_sound hk h hd]
    · simp at h

theorem known_sound {s : St} (hk : KOK K s) {v c : Value} (hv : RV K v c) : RV K (known s.vals v) c := by
  unfold known
  split
  · exact hv
  · split
    · rename_i n t sh
      split
      · exact hv
      rename_i hstr
      split
      · rename_i u hu
        obtain ⟨h1, h2⟩ := hk.vals _ _ (lookV_mem hu)
        rw [RV_sym] at hv
        have hd : Den K t.toList c ∨ ∃ p l k, t.toList = [.slice (some p) l k] := by
          unfold SymRel at hv
          split at hv
          · obtain ⟨n, _, _, h⟩ := hv; exact .inl h
          · obtain ⟨n, _, h⟩ := hv; exact .inl h
          · obtain ⟨n, _, _, h⟩ := hv; exact .inl h
          · obtain ⟨p, l, k, _, h, _⟩ := hv; exact .inr ⟨p, l, k, h⟩
          · obtain ⟨i, a, l, k, h, h', _⟩ := hv
            refine .inl (fun st => ?_)
            rw [h, h']
            rfl
          · rename_i q hq
            rw [hq] at hstr
            simp [isStrSh] at hstr
          · exact hv.elim
        rcases hd with hd | ⟨p, l, k, hd⟩
        · rw [h1.uniq hd]
          rw [h1.uniq hd] at h2
          exact RV_plain h2
        · rw [hd] at h1
          have := h1 []
          simp [rpn, tok1] at this
          subst this
          simp [plain] at h2
      · exact hv
    · exact hv

/- binary operators -/
theorem nonNeg_sound {k : IntKind} {y : Value} {b : Int} (h : nonNeg k y = true) (hy : RV K y (.int k b)) (hr : inR y = true → k.wrap b = b) : ¬ b < 0 := by
  unfold nonNeg at h
  split at h
  · rw [RV_int] at hy
    simp at hy h
    omega
  · rename_i hn
    have hi : inR y = true := by
      cases y <;> simp [inR]
      exact absurd rfl (hn _ _)
    have := (wrap_range k b).1 (hr hi)
    simp at h
    have := unsigned_min k h
    omega

theorem nonZero_sound {s : St} (hk : KOK K s) {k : IntKind} {y : Value} {b : Int} (h : nonZero s.facts k y = true) (hy : RV K y (.int k b)) (hd : Den K (toks y) (.int k b)) : b ≠ 0 := by
  unfold nonZero at h
  split at h
  · rw [RV_int] at hy
    simp at hy h
    omega
  · split at h
    · rename_i he
      have hd2 : Den K (toks y ++ [.int k 0, .slice none 11 0]) (.bool (b == 0)) := by
        intro st
        rw [rpn_append, hd, Option.bind_some]
        simp [rpn, tok1, tokOp, opOf, binV, ibin]
      have := dec_sound hk he hd2
      simpa using this
    · simp at h

theorem ibin_form {op : BinOp} (k : IntKind) (a b : Int) (h1 : op ≠ .shl) (h2 : op ≠ .shr) (h3 : op ≠ .quo) (h4 : op ≠ .rem) :
    (compares op = false ∧ ∃ m, ibin op k a b = some (.int k (k.wrap m))) ∨ (compares op = true ∧ ∃ r, ibin op k a b = some (.bool r)) := by
  cases op <;> first
    | exact absurd rfl h1
    | exact absurd rfl h2
    | exact absurd rfl h3
    | exact absurd rfl h4
    | exact .inl ⟨rfl, _, rfl⟩
    | exact .inr ⟨rfl, _, rfl⟩

theorem symBin_sound {s : St} (hk : KOK K s) {op : BinOp} {x y v cx cy : Value} (h : symBin s.facts op x y = some v) (hx : RV K x cx) (hy : RV K y cy) :
    ∃ c, binV op cx cy = some c ∧ RV K v c := by
  unfold symBin at h
  split at h
  · rename_i k k' hkx hky
    obtain ⟨a, rfl, dx, rx⟩ := kindI_RV hkx hx
    obtain ⟨b, rfl, dy, ry⟩ := kindI_RV hky hy
    have hint : ∀ (op : BinOp) (r : Int), binV op (.int k a) (.int k' b) = some (.int k r) → k.wrap r = r →
        ∃ c, binV op (.int k a) (.int k' b) = some c ∧ RV K (symv (.int k 0) (toks x ++ (toks y ++ [.slice none (opN op) 0]))) c :=
      fun op r h1 h2 => ⟨_, h1, RV_symInt h2 (Den_bin dx dy h1)⟩
    have hbool : ∀ (op : BinOp) (r : Bool), binV op (.int k a) (.int k' b) = some (.bool r) →
        ∃ c, binV op (.int k a) (.int k' b) = some c ∧ RV K (symv (.bool false) (toks x ++ (toks y ++ [.slice none (opN op) 0]))) c :=
      fun op r h1 => ⟨_, h1, RV_symBool (Den_bin dx dy h1)⟩
    split at h
    · split at h
      · rename_i he
        simp at h; subst h
        have hb := nonNeg_sound he hy ry
        exact hint .shl (k.wrap (a * 2 ^ min b.toNat k.bits)) (by simp only [binV, ishift, if_neg hb]) (wrap_wrap _ _)
      · simp at h
    · split at h
      · rename_i he
        simp only [Bool.and_eq_true] at he
        simp at h; subst h
        have hb := nonNeg_sound he.1 hy ry
        exact hint .shr (a.fdiv (2 ^ min b.toNat k.bits)) (by simp only [binV, ishift, if_neg hb]) (wrap_fdiv _ _ _ (rx he.2))
      · simp at h
    · split at h
      · rename_i he
        simp only [Bool.and_eq_true, decide_eq_true_eq] at he
        simp at h; subst h
        obtain ⟨rfl, he⟩ := he
        have hb := nonZero_sound hk he hy dy
        exact hint .quo (k.wrap (a.tdiv b)) (by simp only [binV, ibin, if_true, if_neg hb]) (wrap_wrap _ _)
      · simp at h
    · split at h
      · rename_i he
        simp only [Bool.and_eq_true, decide_eq_true_eq] at he
        simp at h; subst h
        obtain ⟨⟨rfl, he⟩, he2⟩ := he
        have hb := nonZero_sound hk he hy dy
        exact hint .rem (a.tmod b) (by simp only [binV, ibin, if_true, if_neg hb]) (wrap_tmod _ _ _ (rx he2))
      · simp at h
    · split at h
      · rename_i he
        simp only [decide_eq_true_eq] at he
        subst he
        have hsub := hint .sub (k.wrap (a - b)) (by simp only [binV, ibin, if_true]) (wrap_wrap k (a - b))
        split at h
        · rename_i i k1 a1 z k2 c htx
          split at h
          · rename_i he
            simp only [decide_eq_true_eq] at he
            subst he
            simp at h; subst h
            refine ⟨.int k (k.wrap (a - b)), by simp only [binV, ibin, if_true], ?_⟩
            rw [RV_int] at hy
            simp at hy
            obtain ⟨_, rfl⟩ := hy
            rw [htx] at dx
            have hd := dx []
            simp only [rpn, tok1, tokOp, show (1 : Nat) < 100 from by decide, if_true] at hd
            cases hb : binV (opOf 1) (K.sy i) (.int k a1) with
            | none => simp [hb] at hd
            | some u =>
              simp [hb] at hd
              subst hd
              obtain ⟨m, h3, h4⟩ := binV_inv (by simp [opOf]) (by simp [opOf]) hb
              simp [opOf, ibin] at h4
              subst h4
              refine RV_symInt (wrap_wrap _ _) (fun st => ?_)
              rw [wrap_sub]
              simp [rpn, tok1, tokOp, opOf, h3, binV, ibin]
          · simp at h; subst h; exact hsub
        · simp at h; subst h; exact hsub
      · simp at h
    · rename_i h1 h2 h3 h4 h5
      split at h
      · rename_i he
        simp only [decide_eq_true_eq] at he
        subst he
        simp at h; subst h
        rcases ibin_form k a b (fun e => h1 e) (fun e => h2 e) (fun e => h3 e) (fun e => h4 e) with ⟨e, m, hm⟩ | ⟨e, m, hm⟩
        · rw [e]
          exact hint op _ ((binV_int (fun e => h1 e) (fun e => h2 e) k a b).trans hm) (wrap_wrap _ _)
        · rw [e]
          exact hbool op _ ((binV_int (fun e => h1 e) (fun e => h2 e) k a b).trans hm)
      · simp at h
  · split at h
    · rename_i m m' hmx hmy
      obtain ⟨a, rfl, la, dx⟩ := mostS_RV hmx hx
      obtain ⟨b, rfl, lb, dy⟩ := mostS_RV hmy hy
      split at h
      · split at h
        · rename_i he
          have he := Nat.le_of_ble_eq_true he
          simp at h; subst h
          have hb : binV .add (.string a) (.string b) = some (.string ⟨⟨a.data.toList ++ b.data.toList⟩⟩) := by
            simp only [binV, sbin]
            rw [if_pos (by omega)]
          refine ⟨_, hb, RV_symStr ?_ (Den_bin dx dy hb)⟩
          simp
          simp at la lb
          omega
        · simp at h
      · simp at h; subst h
        have hb : binV .eql (.string a) (.string b) = some (.bool (a.data.toList == b.data.toList)) := rfl
        exact ⟨_, hb, RV_symBool (Den_bin dx dy hb)⟩
      · simp at h; subst h
        have hb : binV .neq (.string a) (.string b) = some (.bool (!(a.data.toList == b.data.toList))) := rfl
        exact ⟨_, hb, RV_symBool (Den_bin dx dy hb)⟩
      · simp at h
    · simp at h

/- rows of cells -/
theorem Den_snoc1 {t : List Value} {c d : Value} {o a : Nat} (hd : Den K t c) (h : ∀ st, tokOp K o a (c :: st) = some (d :: st)) : Den K (t ++ [.slice none o a]) d := by
  intro st
  rw [rpn_append, hd, Option.bind_some]
  simp [rpn, tok1, h]

theorem pairS_sound {a b ca cb : Value} {t : List Value} (h : pairS a b = some t) (ha : C1 K a ca) (hb : C1 K b cb) :
    ∃ r, eqCell ca cb = some r ∧ Den K t (.bool r) ∧ Den K (toks a) ca ∧ Den K (toks b) cb := by
  unfold pairS at h
  split at h
  · rename_i k k' h1 h2
    obtain ⟨n, rfl, d1, _⟩ := kindI_RV h1 ha.rv
    obtain ⟨m, rfl, d2, _⟩ := kindI_RV h2 hb.rv
    split at h
    · rename_i he
      simp only [decide_eq_true_eq] at he
      subst he
      simp at h; subst h
      have e : binV .eql (.int k n) (.int k m) = some (.bool (n == m)) := by simp [binV, ibin]
      exact ⟨n == m, by simp [eqCell], Den_bin d1 d2 e, d1, d2⟩
    · simp at h
  · split at h
    · rename_i h1 h2
      obtain ⟨n, rfl, _, d1⟩ := mostS_RV h1 ha.rv
      obtain ⟨m, rfl, _, d2⟩ := mostS_RV h2 hb.rv
      simp at h; subst h
      have e : binV .eql (.string n) (.string m) = some (.bool (n.data.toList == m.data.toList)) := rfl
      exact ⟨_, by simp [eqCell], Den_bin d1 d2 e, d1, d2⟩
    · simp at h

theorem eqCell_self {c : Value} {r : Bool} (h : eqCell c c = some r) : r = true := by
  cases c <;> simp [eqCell] at h <;> exact h

def EqP (K : Kx) (r0 r : Bool) : Sum Bool (List Value) → Prop
  | .inl b => (r0 && r) = b ∨ (b = false ∧ r = false)
  | .inr p => Den K p (.bool (r0 && r))

theorem eqS_sound {s : St} (hk : KOK K s) : ∀ {x y x' y' acc : List Value} {q : Sum Bool (List Value)} {r0 : Bool}, eqS s.facts x y acc = some q → All2 (C1 K) x x' → All2 (C1 K) y y' →
    (acc = [] ∧ r0 = true ∨ Den K acc (.bool r0)) →
    ∃ r, eqCells x' y' = some r ∧ EqP K r0 r q
  | [], [], [], [], acc, q, r0, h, _, _, ha => by
    simp only [eqS] at h
    split at h
    · simp at h; subst h
      refine ⟨true, rfl, ?_⟩
      rcases ha with ⟨_, rfl⟩ | ha
      · exact .inl rfl
      · exact absurd (ha []) (by simp [rpn])
    · rename_i hne
      simp at h; subst h
      refine ⟨true, rfl, ?_⟩
      rcases ha with ⟨rfl, _⟩ | ha
      · exact absurd rfl hne
      · simpa [EqP] using ha
  | [], [], _ :: _, _, _, _, _, _, h, _, _ => h.elim
  | [], [], [], _ :: _, _, _, _, _, _, h, _ => h.elim
  | [], _ :: _, _, _, _, _, _, h, _, _, _ => by simp [eqS] at h
  | _ :: _, [], _, _, _, _, _, h, _, _, _ => by simp [eqS] at h
  | _ :: _, _ :: _, [], _, _, _, _, _, h, _, _ => h.elim
  | _ :: _, _ :: _, _ :: _, [], _, _, _, _, _, h, _ => h.elim
  | a :: x, b :: y, a' :: x', b' :: y', acc, q, r0, h, h1, h2, ha => by
    simp only [eqS] at h
    simp only [eqCells]
    have htrue : ∀ (_ : eqCell a' b' = some true) (_ : eqS s.facts x y acc = some q), ∃ r, (match eqCell a' b' with | some true => eqCells x' y' | some false => some false | none => none) = some r ∧ EqP K r0 r q := by
      intro e h
      rw [e]
      exact eqS_sound hk h h1.2 h2.2 ha
    have hfalse : ∀ (_ : eqCell a' b' = some false) (_ : q = .inl false), ∃ r, (match eqCell a' b' with | some true => eqCells x' y' | some false => some false | none => none) = some r ∧ EqP K r0 r q := by
      intro e h
      rw [e, h]
      exact ⟨false, rfl, .inr ⟨rfl, rfl⟩⟩
    split at h
    · rename_i he
      exact htrue (eqCell_conc he h1.1 h2.1) h
    · rename_i he
      simp at h
      exact hfalse (eqCell_conc he h1.1 h2.1) h.symm
    · split at h
      · simp at h
      · rename_i t ht
        obtain ⟨r1, e1, e2, e3, e4⟩ := pairS_sound ht h1.1 h2.1
        split at h
        · rename_i he
          have := eqToks_eq he
          rw [this] at e3
          have := e3.uniq e4
          subst this
          have := eqCell_self e1
          subst this
          exact htrue e1 h
        · split at h
          · rename_i hd
            have := dec_sound hk hd e2
            subst this
            exact htrue e1 h
          · rename_i hd
            have := dec_sound hk hd e2
            subst this
            simp at h
            exact hfalse e1 h.symm
          · have hacc : Den K (both acc t) (.bool (r0 && r1)) := by
              unfold both
              split
              · rcases ha with ⟨_, rfl⟩ | ha
                · simpa using e2
                · exact absurd (ha []) (by simp [rpn])
              · rename_i hne
                rcases ha with ⟨rfl, _⟩ | ha
                · exact absurd rfl hne
                · intro st
                  rw [rpn_append, ha, Option.bind_some, rpn_append, e2, Option.bind_some]
                  simp [rpn, tok1, tokOp]
            obtain ⟨r, h3, h4⟩ := eqS_sound hk h h1.2 h2.2 (.inr hacc)
            rw [e1]
            cases r1 with
            | true =>
              refine ⟨r, h3, ?_⟩
              simpa using h4
            | false =>
              refine ⟨false, rfl, ?_⟩
              cases q with
              | inl b => simp only [EqP] at h4 ⊢; rcases h4 with h4 | h4 <;> simp_all
              | inr p => simpa [EqP] using h4

theorem likeS_conc {z a c : Value} (h : likeS z a = true) (hc : C1 K a c) : likeC z c = true := by
  unfold likeS at h
  split at h
  · split at h
    · rename_i hk
      obtain ⟨n, rfl, _⟩ := kindI_RV hk hc.rv
      simpa [likeC] using h
    · simp at h
  · cases hm : mostS a with
    | none => rw [hm] at h; simp at h
    | some m =>
      obtain ⟨s, rfl, _⟩ := mostS_RV hm hc.rv
      rfl
  · exact likeC_conc h hc

theorem symAgg_run {P : Program} {E : Env} (hE : EnvOK P E) {s : St} (hk : KOK K s) {t : TypeId} {op : BinOp} {x y cx cy v : Value} (h : symAgg E s.facts t op x y = some v) (hx : RV K x cx) (hy : RV K y cy) :
    ∃ c, RV K v c ∧ ∀ (p q : Operand) (w : World), (do Go.eqGuard op t p q cx cy; binOp op t cx cy : Sem Value).run P w = .ok c w := by
  unfold symAgg at h
  split at h
  · rename_i a b
    obtain ⟨a', rfl, ha⟩ := RV_agg.1 hx
    obtain ⟨b', rfl, hb⟩ := RV_agg.1 hy
    split at h
    · simp at h
    rename_i hf
    obtain ⟨i, f1, f2, f3, f4⟩ := fitsT_some hf
    have hz1 := likeL_conc (fun _ _ _ => likeS_conc) f3 ha
    have hz2 := likeL_conc (fun _ _ _ => likeS_conc) f4 hb
    have main : ∀ q, eqS s.facts a.toList b.toList [] = some q → ∃ r, eqCells a'.toList b'.toList = some r ∧ (match q with | .inl b => r = b | .inr p => Den K p (.bool r)) := by
      intro q hq
      obtain ⟨r, h1, h2⟩ := eqS_sound hk (r0 := true) hq ha hb (.inl ⟨rfl, rfl⟩)
      refine ⟨r, h1, ?_⟩
      cases q with
      | inl b => simp only [EqP, Bool.true_and] at h2 ⊢; rcases h2 with h2 | h2 <;> simp_all
      | inr p => simpa [EqP] using h2
    have run1 : ∀ r, eqCells a'.toList b'.toList = some r → ∀ (p q : Operand) (w : World), (do Go.eqGuard .eql t p q (.agg a') (.agg b'); binOp .eql t (.agg a') (.agg b') : Sem Value).run P w = .ok (.bool r) w := by
      intro r hr p q w
      obtain ⟨g1, g2, g3⟩ := hE.flat t i f1 f2 a' b' r hz1 hz2 hr p q w
      have e : binOp .eql t (.agg a') (.agg b') = (do pure (.bool (← Op.equal t (.agg a') (.agg b')))) := rfl
      simp only [Sem.run_bind, g1, Result.andThen_ok, e, g3, Sem.run_pure]
    have run2 : ∀ r, eqCells a'.toList b'.toList = some r → ∀ (p q : Operand) (w : World), (do Go.eqGuard .neq t p q (.agg a') (.agg b'); binOp .neq t (.agg a') (.agg b') : Sem Value).run P w = .ok (.bool (!r)) w := by
      intro r hr p q w
      obtain ⟨g1, g2, g3⟩ := hE.flat t i f1 f2 a' b' r hz1 hz2 hr p q w
      have e : binOp .neq t (.agg a') (.agg b') = (do pure (.bool (!(← Op.equal t (.agg a') (.agg b'))))) := rfl
      simp only [Sem.run_bind, g2, Result.andThen_ok, e, g3, Sem.run_pure]
    split at h
    · rename_i hq
      obtain ⟨r, h1, h2⟩ := main _ hq
      simp at h h2; subst h; subst h2
      exact ⟨_, RV_plain rfl, run1 _ h1⟩
    · rename_i hq
      obtain ⟨r, h1, h2⟩ := main _ hq
      simp at h; subst h
      exact ⟨_, RV_symBool h2, run1 _ h1⟩
    · rename_i hq
      obtain ⟨r, h1, h2⟩ := main _ hq
      simp at h h2; subst h; subst h2
      exact ⟨_, RV_plain rfl, run2 _ h1⟩
    · rename_i hq
      obtain ⟨r, h1, h2⟩ := main _ hq
      simp at h; subst h
      exact ⟨_, RV_symBool (Den_snoc1 h2 (fun st => by simp [tokOp])), run2 _ h1⟩
    · simp at h
  · simp at h

end
end Go.Sx
