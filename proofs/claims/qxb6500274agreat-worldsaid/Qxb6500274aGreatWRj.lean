import Derived.Test.Qxb6500274aGreatWGl
import Derived.Test.Qxb6500274aGreatWKj
set_option linter.unusedVariables false
set_option linter.unusedSimpArgs false
set_option maxRecDepth 20000
namespace Go.Proofs.Qxb6500274aGreat
open Go Go.RowKit Go.Sx
/- what the kernel has run -/
structure AllW (E : Env) : Prop where
  shows : ∀ l h t, ok3 l h t = true → ShowOK E l h t
  still : ∀ l h t, ok3 l h t = true → StillOK E l h t
  move : ∀ l h, l + h ≤ 6 → MoveOK E l h
  load : ∀ l h, l + h ≤ 6 → LoadOK E l h
  tape : ∀ t n, t = 0 ∨ t = 4 ∨ t = 38 → n ≤ 6 → TapeOK E t n

/- eight bytes as one word -/
def w8N : List UInt8 → Nat
  | [] => 0
  | b :: l => b.toNat + 256 * w8N l
theorem w8N_lt : ∀ (n : Nat) (l : List UInt8), l.length ≤ n → w8N l < 256 ^ n
  | n, [], _ => Nat.pow_pos (by decide)
  | 0, b :: l, h => by simp at h
  | n + 1, b :: l, h => by
    have h1 := w8N_lt n l (by simp at h; omega)
    have h2 := b.toNat_lt
    rw [Nat.pow_succ]
    simp only [w8N]
    omega
def wordAt (S : ByteArray) (j : Nat) : Nat := w8N ((S.data.toList.drop (8 * j)).take 8)
theorem wordAt_lt (S : ByteArray) (j : Nat) : wordAt S j < 18446744073709551616 := w8N_lt 8 _ (by simp; omega)

structure Syms (K : Kx) (S : ByteArray) (A i kn : Int) : Prop where
  s0 : K.sy 0 = .string S
  s1 : K.sy 1 = .int .i64 A
  s8 : K.sy 8 = .int .i64 i
  s50 : K.sy 50 = .int .i64 kn
  sw : ∀ j, j < 6 → K.sy (110 + j) = .int .u64 (wordAt S j : Nat)

section
variable {K : Kx}
theorem Den_sy {j : Nat} {v : Value} (h : K.sy j = v) : Den K [.chan (some j)] v := fun st => by simp [rpn, tok1, h]
theorem Den_lint {k : IntKind} {n : Int} : Den K [.int k n] (.int k n) := fun _ => rfl
theorem byte_int {n k b : Nat} (h : n / 256 ^ k % 256 = b) : (n : Int) / 256 ^ k % 256 = (b : Int) := by
  have h2 : ((n / 256 ^ k % 256 : Nat) : Int) = (b : Int) := by rw [h]
  rw [Int.natCast_emod, Int.natCast_ediv, Int.natCast_pow] at h2
  exact h2
def In64 (n : Int) : Prop := 0 ≤ n ∧ n < 18446744073709551616
theorem byte_tok {n : Int} {k : Nat} {m : Int} (hn : In64 n) (e : n / 256 ^ k % 256 = m) (st : List Value) : tokOp K 108 k (.int .u64 n :: st) = some (.int .u8 m :: st) := by
  unfold In64 at hn
  unfold tokOp
  rw [if_neg (by decide), if_neg (by decide), if_neg (by decide), if_neg (by decide), if_neg (by decide), if_neg (by decide), if_neg (by decide), if_neg (by decide), if_neg (by decide), if_pos rfl]
  dsimp only
  rw [if_pos hn, e]
theorem byte_of {v k : Nat} {n : Nat} {b : UInt8} (h : K.sy v = .int .u64 (n : Nat)) (hn : In64 (n : Int)) (hb : n / 256 ^ k % 256 = b.toNat) : ByteRel K (wordB v k) b := by
  refine ⟨⟨0, rfl⟩, fun st => ?_⟩
  have e := byte_tok (K := K) hn (byte_int hb) st
  have h1 : tok1 K (.chan (some v)) st = some (.int .u64 (n : Nat) :: st) := by rw [← h]; rfl
  have h2 : tok1 K (.slice none 108 k) (.int .u64 (n : Nat) :: st) = some (.int .u8 (b.toNat : Int) :: st) := e
  show rpn K [.chan (some v), .slice none 108 k] st = _
  rw [rpn, h1]
  dsimp only
  rw [rpn, h2]
  rfl
theorem int_lt {n : Nat} (h : n < 18446744073709551616) : In64 (n : Int) := by unfold In64; omega
theorem word_all {v : Nat} {bs : List UInt8} (hl : bs.length = 8) (h : K.sy v = .int .u64 (w8N bs : Nat)) : All2 (ByteRel K) (wordBs v) bs := by
  have hn := int_lt (w8N_lt 8 bs (by omega))
  match bs, hl with
  | [b0, b1, b2, b3, b4, b5, b6, b7], _ =>
    have l0 := b0.toNat_lt
    have l1 := b1.toNat_lt
    have l2 := b2.toNat_lt
    have l3 := b3.toNat_lt
    have l4 := b4.toNat_lt
    have l5 := b5.toNat_lt
    have l6 := b6.toNat_lt
    have l7 := b7.toNat_lt
    refine ⟨byte_of h hn ?_, byte_of h hn ?_, byte_of h hn ?_, byte_of h hn ?_, byte_of h hn ?_, byte_of h hn ?_, byte_of h hn ?_, byte_of h hn ?_, trivial⟩ <;> simp only [w8N] <;> omega
theorem tape_all : ∀ (n v : Nat) (bs : List UInt8), bs.length = 8 * n → (∀ j, j < n → K.sy (v + j) = .int .u64 (w8N ((bs.drop (8 * j)).take 8) : Nat)) → All2 (ByteRel K) (tapeB v n) bs
  | 0, v, bs, hl, _ => by
    have : bs = [] := List.eq_nil_of_length_eq_zero (by omega)
    subst this
    trivial
  | n + 1, v, bs, hl, h => by
    have e : bs = bs.take 8 ++ bs.drop 8 := (List.take_append_drop 8 bs).symm
    rw [e]
    refine All2.append (word_all (by simp; omega) ?_) (tape_all n (v + 1) (bs.drop 8) (by simp; omega) ?_)
    · have := h 0 (by omega)
      simpa using this
    · intro j hj
      have := h (j + 1) (by omega)
      rw [show v + 1 + j = v + (j + 1) by omega, this, List.drop_drop, show 8 + 8 * j = 8 * (j + 1) by omega]
theorem mkS_C1 {cs : List Value} {bs : List UInt8} (h : All2 (ByteRel K) cs bs) : C1 K (mkS cs) (.string ⟨⟨bs⟩⟩) := by
  unfold mkS
  split
  · rename_i bs' hb
    rw [constB_sound h hb]
    exact C1_plain rfl
  · exact ⟨_, rfl, h⟩
theorem tape_C1 {S : ByteArray} {A i kn : Int} (hK : Syms K S A i kn) {n : Nat} (hn : n ≤ 6) (hl : S.data.toList.length = 8 * n) : C1 K (tapeS 110 n) (.string S) := by
  have h := mkS_C1 (tape_all (K := K) n 110 S.data.toList hl (fun j hj => hK.sw j (by omega)))
  exact h
end

section
variable {n0 : Base} {w0 w : World}
/- the symbols of a round -/
def symOf (K0 : Kx) (script : Value) (i : Int) (S : ByteArray) (A kn : Int) (j : Nat) : Value :=
  if j = 0 then .string S else if j = 1 then .int .i64 A else if j = 8 then .int .i64 i else if j = 50 then .int .i64 kn else if j = 40 then script else
    if 110 ≤ j ∧ j < 120 then .int .u64 (wordAt S (j - 110) : Nat) else K0.sy j
theorem symOf_old {K0 : Kx} {script : Value} {i : Int} {S : ByteArray} {A kn : Int} {j : Nat} (h : (100 ≤ j ∧ j < 110) ∨ 200 ≤ j) : symOf K0 script i S A kn j = K0.sy j := by
  unfold symOf
  rw [if_neg (by omega), if_neg (by omega), if_neg (by omega), if_neg (by omega), if_neg (by omega), if_neg (by omega)]
theorem row_id : ∀ (n v i : Nat) (t : List Value) (rest : List (Nat × List Value)), row i (idV v n ++ rest) = some t → (v ≤ i ∧ i < v + n ∧ t = [.chan (some i)]) ∨ row i rest = some t
  | 0, v, i, t, rest, h => .inr h
  | n + 1, v, i, t, rest, h => by
    simp only [idV, List.cons_append, row] at h
    split at h
    · rename_i e
      have e := Nat.eq_of_beq_eq_true e
      simp at h
      subst h; subst e
      exact .inl ⟨by omega, by omega, rfl⟩
    · rcases row_id n (v + 1) i t rest h with ⟨h1, h2, h3⟩ | h1
      · exact .inl ⟨by omega, by omega, h3⟩
      · exact .inr h1
theorem row_bd {l t i : Nat} {p : List Value} (h : row i (bdId l t) = some p) : ((100 ≤ i ∧ i < 100 + l) ∨ 200 ≤ i) ∧ p = [.chan (some i)] := by
  unfold bdId at h
  rcases row_id l 100 i p _ h with ⟨h1, h2, h3⟩ | h
  · exact ⟨.inl ⟨h1, h2⟩, h3⟩
  · have h' : row i (idV 200 t ++ []) = some p := by rw [List.append_nil]; exact h
    rcases row_id t 200 i p _ h' with ⟨h1, h2, h3⟩ | h
    · exact ⟨.inr h1, h3⟩
    · simp [row] at h
theorem ok3_le {l h t : Nat} (hk : ok3 l h t = true) : l + h ≤ 6 ∧ (t = 0 ∨ t = 4 ∨ t = 38) := by
  unfold ok3 at hk
  simp only [Bool.and_eq_true, Bool.or_eq_true] at hk
  refine ⟨Nat.le_of_ble_eq_true hk.1, ?_⟩
  rcases hk.2 with h2 | h2 | h2
  · exact .inl (Nat.eq_of_beq_eq_true h2)
  · exact .inr (.inl (Nat.eq_of_beq_eq_true h2))
  · exact .inr (.inr (Nat.eq_of_beq_eq_true h2))

theorem start {Z : St} {sa : Option Addr} {sl sc : Nat} {l h t : Nat} {i : Int} {a : Act} (hH : Head n0 w0 (.slice sa sl sc) l h t i a w) (hn : Z.next = 31) (hc : covers Z ⟨(zL l h t).heap, (zL l h t).next, [], []⟩ [] (bdId l t) = true)
    (S : ByteArray) (A kn : Int) (hA : IntKind.i64.wrap A = A) (hk : IntKind.i64.wrap kn = kn) (hi : IntKind.i64.wrap i = i) :
    ∃ K, Syms K S A i kn ∧ K.sy 40 = .slice sa sl sc ∧ K.nx = 31 ∧ (∀ F, (∀ t b, (t, b) ∈ F → Den K t (.bool b)) → Rep n0 w0 K ⟨Z.heap, Z.next, F, []⟩ w) ∧
      a.tmps.getD 3 undef = .pointer (some ⟨K.bl 0, 0, none⟩) ∧ a.tmps.getD 5 undef = .pointer (some ⟨K.bl 1, 0, none⟩) := by
  obtain ⟨hok, K0, hR, hsz, hd, h0, h3, h5, h6⟩ := hH
  have hle := ok3_le hok
  have hr : ∀ j k n, symOf K0 (.slice sa sl sc) i S A kn j = .int k n → k.wrap n = n := by
    intro j k n h
    unfold symOf at h
    split at h
    · cases h
    split at h
    · cases h; exact hA
    split at h
    · cases h; exact hi
    split at h
    · cases h; exact hk
    split at h
    · cases h
    split at h
    · cases h
      rw [wrap_u64]
      have := wordAt_lt S (j - 110)
      omega
    exact hR.syr j k n h
  refine ⟨K0.weak Z [] w (symOf K0 (.slice sa sl sc) i S A kn), ⟨rfl, rfl, rfl, rfl, fun j hj => ?_⟩, rfl, hn, fun F hF => covers_sound hR hc _ (fun j p hp => ?_) F [] hF (fun t v h => by simp at h) hr, h3, h5⟩
  · show symOf K0 _ i S A kn (110 + j) = _
    unfold symOf
    rw [if_neg (by omega), if_neg (by omega), if_neg (by omega), if_neg (by omega), if_neg (by omega), if_pos (by omega), show 110 + j - 110 = j by omega]
  · obtain ⟨h1, h2⟩ := row_bd hp
    rw [h2, symOf_old (by omega)]
    exact Den_sy rfl

theorem regs_head {K : Kx} {nv : Nat} {long : List Nat} {sa : Option Addr} {sl sc : Nat} {i : Int} {a : Act} (h8' : K.sy 8 = .int .i64 i) (hi : IntKind.i64.wrap i = i) (hsl : sl ≤ 9223372036854775807)
    (h40 : K.sy 40 = .slice sa sl sc) (hnx : K.nx = 31) (hsz : a.tmps.size = 79) (hd : a.defers = []) (t0 : a.tmps.getD 0 undef = .slice sa sl sc) (t3 : a.tmps.getD 3 undef = .pointer (some ⟨K.bl 0, 0, none⟩))
    (t5 : a.tmps.getD 5 undef = .pointer (some ⟨K.bl 1, 0, none⟩)) (t6 : a.tmps.getD 6 undef = .int .i64 i) : RegRel K 79 (rHead nv long) a := by
  have hptr : ∀ b, b < 31 → RV K (ptr0 b) (.pointer (some ⟨K.bl b, 0, none⟩)) := by
    intro b hb
    unfold ptr0
    rw [RV_ptr]
    exact ⟨rfl, by rw [hnx]; exact hb, rfl⟩
  unfold rHead
  refine RegRel.know (RegRel.know (RegRel.know (RegRel.know (RegRel.none hsz hd) ?_) ?_) ?_) ?_
  · rw [t0]; exact (C1_var_slice h40 hsl).rv
  · rw [t3]; exact hptr 0 (by decide)
  · rw [t5]; exact hptr 1 (by decide)
  · rw [t6]; exact (C1_var_int h8' hi).rv

/- the registers behind 'script[i]' -/
theorem regs_at {K : Kx} {nv : Nat} {long : List Nat} {sa : Option Addr} {sl sc : Nat} {i kn A B C : Int} {S T : ByteArray} {k st : Value} {a : Act} (hK : Syms K S A i kn) (hA : IntKind.i64.wrap A = A) (hi : IntKind.i64.wrap i = i) (hsl : sl ≤ 9223372036854775807)
    (h40 : K.sy 40 = .slice sa sl sc) (hnx : K.nx = 31) (hsz : a.tmps.size = 79) (hd : a.defers = []) (t0 : a.tmps.getD 0 undef = .slice sa sl sc) (t3 : a.tmps.getD 3 undef = .pointer (some ⟨K.bl 0, 0, none⟩))
    (t5 : a.tmps.getD 5 undef = .pointer (some ⟨K.bl 1, 0, none⟩)) (t6 : a.tmps.getD 6 undef = .int .i64 i)
    (t51 : a.tmps.getD 51 undef = .agg #[.int .i64 kn, .int .i64 A, .int .i64 B, .int .i64 C, .string S, .string T]) (hk : C1 K k (.int .i64 kn)) (hst : C1 K st (.string S)) : RegRel K 79 (rAt nv long k st) a := by
  unfold rAt
  refine RegRel.know (regs_head hK.s8 hi hsl h40 hnx hsz hd t0 t3 t5 t6) ?_
  rw [t51, RV_agg]
  exact ⟨_, rfl, hk, C1_var_int hK.s1 hA, rfl, rfl, hst, rfl, trivial⟩
end
end Go.Proofs.Qxb6500274aGreat
