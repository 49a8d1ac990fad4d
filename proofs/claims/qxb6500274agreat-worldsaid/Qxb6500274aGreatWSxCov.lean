import Derived.Test.Qxb6500274aGreatWSxCall
set_option linter.unusedSimpArgs false
namespace Go.Sx
open Go Go.RowKit

/- WEAKENING: state Z says no more than state s does, block b of Z being block 'rho m b' of s, variable i of Z being what row i of bd answers in s. -/
def rho (m : List Nat) (b : Nat) : Nat :=
  match m with
  | [] => b
  | c :: l => match nthN b (c :: l) with
    | some x => x
    | none => b
where
  nthN : Nat → List Nat → Option Nat
    | _, [] => none
    | 0, x :: _ => some x
    | n + 1, _ :: l => nthN n l

def covA (Z : St) (m : List Nat) (p' p : Addr) : Bool :=
  match p'.spot, p.spot with
  | none, none => Nat.beq (rho m p'.block) p.block && (Nat.beq p'.off p.off && Nat.ble (p'.block + 1) Z.next)
  | _, _ => false

def capOK (Z s : St) (b' b : Nat) : Bool :=
  match find b' Z.heap, find b s.heap with
  | some x', some x => Nat.beq x'.kind x.kind && Nat.ble 3 x.kind
  | _, _ => false

def eqPlain : Value → Value → Bool
  | .bool a, .bool b => a == b
  | .int j a, .int k b => Nat.beq (kindN j) (kindN k) && (a == b)
  | .string a, .string b => a.data.toList == b.data.toList
  | .pointer none, .pointer none => true
  | .slice none a b, .slice none c d => Nat.beq a c && Nat.beq b d
  | .map none, .map none => true
  | .nilFunc, .nilFunc => true
  | .nilIface, .nilIface => true
  | _, _ => false

def covL (f : Value → Value → Bool) : List Value → List Value → Bool
  | [], [] => true
  | a :: x, b :: y => match f a b with
    | true => covL f x y
    | false => false
  | _, _ => false

/- a program of Z in the terms of s -/
def subT (bd : List (Nat × List Value)) : List Value → Option (List Value)
  | [] => some []
  | .chan (some i) :: l => match row i bd, subT bd l with
    | some u, some r => some (u ++ r)
    | _, _ => none
  | x :: l => match subT bd l with
    | some r => some (x :: r)
    | none => none

def covByte (bd : List (Nat × List Value)) (z c : Value) : Bool :=
  match z with
  | .func (.yield _) t sh => match sh.toList, subT bd t.toList with
    | [.int .u8 _], some u => eqToks u (toks c)
    | _, _ => false
  | z => eqPlain z c

def covS (Z : St) (m : List Nat) (bd : List (Nat × List Value)) (t sh : List Value) (c : Value) : Bool :=
  match sh with
  | [.int k _] => match subT bd t, kindI c with
    | some u, some k' => eqToks u (toks c) && (decide (k = k') && inR c)
    | _, _ => false
  | [.string _] => match bytesS c with
    | some cs => covL (covByte bd) t cs
    | none => false
  | [.pointer none] => match t with
    | [.slice (some p') _ k'] => match c with
      | .slice (some p) l k => covA Z m p' p && (Nat.beq k' k && (Nat.ble l k && !Nat.beq k capU))
      | .func (.yield _) t' sh' => match t'.toList, sh'.toList with
        | [.slice (some p) _ k], [.pointer none] => covA Z m p' p && (Nat.beq k' k && !Nat.beq k capU)
        | _, _ => false
      | _ => false
    | _ => false
  | _ => false

def cov0 (Z s : St) (m : List Nat) (bd : List (Nat × List Value)) : Value → Value → Bool
  | .chan none, _ => true
  | .pointer (some p'), .pointer (some p) => covA Z m p' p
  | .slice (some p') l' k', .slice (some p) l k => covA Z m p' p && (Nat.beq l' l && (Nat.beq k' k && (!Nat.beq k capU || capOK Z s p'.block p.block)))
  | .map (some b'), .map (some b) => Nat.beq (rho m b') b && Nat.ble (b' + 1) Z.next
  | .func (.yield _) t sh, c => covS Z m bd t.toList sh.toList c
  | a, b => eqPlain a b

def covI (Z : St) (m : List Nat) : Value → Value → Bool
  | .agg a, .agg b => a.toList.isEmpty && b.toList.isEmpty
  | .func (.func g) a b, .func (.func h) c d => Nat.beq g h && (a.toList.isEmpty && (b.toList.isEmpty && (c.toList.isEmpty && d.toList.isEmpty)))
  | .pointer (some p'), .pointer (some p) => covA Z m p' p
  | a, b => eqPlain a b

def covP (f : Value → Value → Bool) : List Value → List Value → Bool
  | [], _ => true
  | a :: x, b :: y => match f a b with
    | true => covP f x y
    | false => false
  | _ :: _, [] => false

def cov1 (Z s : St) (m : List Nat) (bd : List (Nat × List Value)) : Value → Value → Bool
  | .chan none, _ => true
  | .iface t' v', .iface t v => Nat.beq t' t && covI Z m v' v
  | .func (.func g) a b, .func (.func h) c d => Nat.beq g h && (covL (cov0 Z s m bd) a.toList c.toList && covL (cov0 Z s m bd) b.toList d.toList)
  | a, b => cov0 Z s m bd a b

def covB (Z s : St) (m : List Nat) (bd : List (Nat × List Value)) (x' x : Blk) : Bool :=
  match Nat.ble 3 x'.kind with
  | true => (Nat.ble x.kind 1 || Nat.beq x.kind x'.kind) && covP (cov1 Z s m bd) x'.cells x.cells
  | false => Nat.ble x.kind 1 && (Nat.beq x'.kind x.kind && covL (cov1 Z s m bd) x'.cells x.cells)

def nodup : List Nat → Bool
  | [] => true
  | a :: l => !l.contains a && nodup l

def injOK (Z : St) (m : List Nat) : Bool :=
  match m with
  | [] => true
  | m => nodup m && Nat.beq m.length Z.next

def covers (Z s : St) (m : List Nat) (bd : List (Nat × List Value)) : Bool :=
  injOK Z m && Z.heap.all (fun l => l.all (fun l' => l'.all (fun p => Nat.ble (p.1 + 1) Z.next && (match find (rho m p.1) s.heap with
    | some x => covB Z s m bd p.2 x
    | none => false))))

theorem findL_mem {b : Nat} {x : Blk} : ∀ {l : List (Nat × Blk)}, findL b l = some x → (b, x) ∈ l
  | [], h => by simp [findL] at h
  | (k, y) :: l, h => by
    rw [findL_cons] at h
    split at h
    · rename_i e
      simp at h
      subst h; subst e
      simp
    · exact List.mem_cons_of_mem _ (findL_mem h)

theorem nthL_mem {α : Type} : ∀ (i : Nat) (l : List (List α)), nthL i l = [] ∨ nthL i l ∈ l
  | _, [] => .inl (by simp [nthL])
  | 0, x :: l => .inr (by simp [nthL])
  | i + 1, x :: l => by
    rcases nthL_mem i l with h | h
    · exact .inl (by simpa [nthL] using h)
    · exact .inr (by simp only [nthL]; exact List.mem_cons_of_mem _ h)

theorem find_mem {b : Nat} {x : Blk} {h : Heap} (hf : find b h = some x) : ∃ l, l ∈ h ∧ ∃ l', l' ∈ l ∧ (b, x) ∈ l' := by
  unfold find at hf
  have h1 := findL_mem hf
  rcases nthL_mem (b / 8 % 8) (nthL (b % 8) h) with e | e
  · rw [e] at h1; simp at h1
  · rcases nthL_mem (b % 8) h with e2 | e2
    · rw [e2] at e; simp at e
    · exact ⟨_, e2, _, e, h1⟩

theorem eqPlain_eq {a b : Value} (h : eqPlain a b = true) : a = b ∧ plain a = true := by
  unfold eqPlain at h
  split at h
  · simp at h; subst h; exact ⟨rfl, rfl⟩
  · rename_i j a k b
    simp at h
    obtain ⟨h1, rfl⟩ := h
    have : j = k := by rw [← kindOf_N j, ← kindOf_N k, h1]
    subst this
    exact ⟨rfl, rfl⟩
  · rename_i a b
    simp at h
    have : a = b := by
      cases a with | mk a => cases b with | mk b =>
        cases a with | mk a => cases b with | mk b => simp at h; rw [h]
    subst this
    exact ⟨rfl, rfl⟩
  · exact ⟨rfl, rfl⟩
  · simp at h; obtain ⟨rfl, rfl⟩ := h; exact ⟨rfl, rfl⟩
  · exact ⟨rfl, rfl⟩
  · exact ⟨rfl, rfl⟩
  · exact ⟨rfl, rfl⟩
  · simp at h

section
variable {K K2 : Kx} {Z s : St} {m : List Nat} {bd : List (Nat × List Value)}

structure CovK (K K2 : Kx) (Z s : St) (m : List Nat) (bd : List (Nat × List Value)) : Prop where
  bl : ∀ b, K2.bl b = K.bl (rho m b)
  nx : K2.nx = Z.next
  cap : ∀ b, capOK Z s b (rho m b) = true → K2.es b = K.es (rho m b) ∧ K2.tot b = K.tot (rho m b)
  sy : ∀ i t, row i bd = some t → Den K t (K2.sy i)
  pf : K2.pf = K.pf

theorem covA_sound {p' p : Addr} (h : covA Z m p' p = true) : p'.spot = none ∧ p.spot = none ∧ rho m p'.block = p.block ∧ p'.off = p.off ∧ p'.block < Z.next := by
  unfold covA at h
  split at h
  · rename_i h1 h2
    simp only [Bool.and_eq_true] at h
    exact ⟨h1, h2, Nat.eq_of_beq_eq_true h.1, Nat.eq_of_beq_eq_true h.2.1, Nat.le_of_ble_eq_true h.2.2⟩
  · simp at h

theorem kindI_C0 {a c : Value} {k : IntKind} (h : kindI a = some k) (hc : C0 K a c) : RV K a c := by
  cases a <;> simp [kindI] at h
  case int => simpa [RV, R0, C1] using hc
  case func f x y =>
    cases f <;> simp [kindI] at h
    simpa [RV, R0, C1] using hc

theorem subT_rpn (hk : CovK K K2 Z s m bd) : ∀ {t u : List Value} (st : List Value), subT bd t = some u → rpn K2 t st = rpn K u st
  | [], u, st, h => by simp [subT] at h; subst h; rfl
  | x :: l, u, st, h => by
    unfold subT at h
    split at h
    · rename_i e; simp at e
    · rename_i i l' e
      injection e with e1 e2
      subst e1; subst e2
      split at h
      · rename_i q r hq hr
        simp at h
        subst h
        rw [rpn_append, hk.sy i q hq, Option.bind_some]
        simp only [rpn, tok1]
        exact subT_rpn hk _ hr
      · simp at h
    · rename_i y l' hne e
      injection e with e1 e2
      subst e1; subst e2
      split at h
      · rename_i r hr
        simp at h
        subst h
        have e : tok1 K2 x st = tok1 K x st := by
          unfold tok1
          split
          · rename_i i; exact absurd rfl (hne i)
          · unfold tokOp; rw [hk.pf]
          · rfl
        simp only [rpn, e]
        cases tok1 K x st with
        | none => rfl
        | some st' => exact subT_rpn hk _ hr
      · simp at h
theorem subT_den (hk : CovK K K2 Z s m bd) {t u : List Value} {c : Value} (h : subT bd t = some u) (hd : Den K u c) : Den K2 t c :=
  fun st => (subT_rpn hk st h).trans (hd st)
theorem covByte_sound (hk : CovK K K2 Z s m bd) {z a : Value} {b : UInt8} (h : covByte bd z a = true) (ha : ByteRel K a b) : ByteRel K2 z b := by
  unfold covByte at h
  split at h
  · rename_i n t sh
    split at h
    · rename_i y u hsh hu
      refine ⟨⟨y, hsh⟩, subT_den hk hu ?_⟩
      rw [eqToks_eq h]
      exact ha.den
    · simp at h
  · rename_i hz
    obtain ⟨rfl, hp⟩ := eqPlain_eq h
    unfold ByteRel at ha ⊢
    split at ha
    · simp [plain] at hp
    · exact ha
theorem covBytes_sound (hk : CovK K K2 Z s m bd) : ∀ {z a : List Value} {b : List UInt8}, covL (covByte bd) z a = true → All2 (ByteRel K) a b → All2 (ByteRel K2) z b
  | [], [], [], _, _ => trivial
  | [], [], _ :: _, _, h => h.elim
  | [], _ :: _, _, h, _ => by simp [covL] at h
  | _ :: _, [], _, h, _ => by simp [covL] at h
  | _ :: _, _ :: _, [], _, h => h.elim
  | z :: zs, a :: as, b :: bs, h, hr => by
    simp only [covL] at h
    split at h
    · rename_i e
      exact ⟨covByte_sound hk e hr.1, covBytes_sound hk h hr.2⟩
    · simp at h
theorem bytesS_C0 {a c : Value} {cs : List Value} (h : bytesS a = some cs) (hc : C0 K a c) : RV K a c := by
  cases a <;> simp [bytesS] at h
  case string => simpa [RV, R0, C1] using hc
  case func f x y =>
    cases f <;> simp at h
    simpa [RV, R0, C1] using hc

theorem covS_sound (hk : CovK K K2 Z s m bd) {t sh : List Value} {a c : Value} (h : covS Z m bd t sh a = true) (hc : C0 K a c) : SymRel K2 t sh c := by
  unfold covS at h
  split at h
  · rename_i k n
    split at h
    · rename_i u k' hu hki
      simp only [Bool.and_eq_true, decide_eq_true_eq] at h
      obtain ⟨h1, rfl, h3⟩ := h
      obtain ⟨x, rfl, hd, hr⟩ := kindI_RV hki (kindI_C0 hki hc)
      refine ⟨x, rfl, hr h3, subT_den hk hu ?_⟩
      rw [eqToks_eq h1]
      exact hd
    · simp at h
  · split at h
    · rename_i cs hcs
      obtain ⟨s0, rfl, hb⟩ := bytesS_RV hcs (bytesS_C0 hcs hc)
      exact ⟨s0, rfl, covBytes_sound hk h hb⟩
    · simp at h
  · split at h
    · rename_i p' l0 k'
      split at h
      · rename_i p l k
        simp only [Bool.and_eq_true] at h
        obtain ⟨h1, h2, h3, h4⟩ := h
        obtain ⟨e1, e2, e3, e4, e5⟩ := covA_sound h1
        have h2 := Nat.eq_of_beq_eq_true h2
        have h3 := Nat.le_of_ble_eq_true h3
        have hne : k ≠ capU := by
          intro e
          rw [e] at h4
          simp at h4
        simp only [C0] at hc
        obtain ⟨c1, c2, c3⟩ := hc
        rcases c3 with ⟨_, c3⟩ | ⟨c3, _⟩
        · refine ⟨p', l0, k', l, rfl, e1, by rw [hk.nx]; exact e5, by rw [h2]; exact hne, by omega, ?_⟩
          rw [c3, hk.bl, e3, e4, h2]
        · exact absurd c3 hne
      · rename_i n t' sh'
        split at h
        · rename_i p l k ht' hsh'
          simp only [Bool.and_eq_true] at h
          obtain ⟨h1, h2, h4⟩ := h
          obtain ⟨e1, e2, e3, e4, e5⟩ := covA_sound h1
          have h2 := Nat.eq_of_beq_eq_true h2
          have hne : k ≠ capU := by
            intro e
            rw [e] at h4
            simp at h4
          simp only [C0] at hc
          rw [ht', hsh'] at hc
          obtain ⟨q, l1, k1, l', g1, g2, g3, g4, g5, g6⟩ := hc
          simp at g1
          obtain ⟨rfl, rfl, rfl⟩ := g1
          refine ⟨p', l0, k', l', rfl, e1, by rw [hk.nx]; exact e5, by rw [h2]; exact hne, by omega, ?_⟩
          rw [g6, hk.bl, e3, e4, h2]
        · simp at h
      · simp at h
    · simp at h
  · simp at h

theorem cov0_sound (hk : CovK K K2 Z s m bd) {a' a c : Value} (h : cov0 Z s m bd a' a = true) (hc : C0 K a c) : C0 K2 a' c := by
  unfold cov0 at h
  split at h
  · exact C0.one hc
  · obtain ⟨e1, e2, e3, e4, e5⟩ := covA_sound h
    simp only [C0] at hc ⊢
    exact ⟨e1, by rw [hk.nx]; exact e5, by rw [hc.2.2, hk.bl, e3, e4]⟩
  · rename_i p' l' k' p l k
    simp only [Bool.and_eq_true] at h
    obtain ⟨h1, h2, h3, h4⟩ := h
    obtain ⟨e1, e2, e3, e4, e5⟩ := covA_sound h1
    have h2 := Nat.eq_of_beq_eq_true h2
    have h3 := Nat.eq_of_beq_eq_true h3
    subst h2; subst h3
    simp only [C0] at hc ⊢
    obtain ⟨c1, c2, c3⟩ := hc
    refine ⟨e1, by rw [hk.nx]; exact e5, ?_⟩
    rcases c3 with ⟨c3, c4⟩ | ⟨c3, c4, k0, c5, c6, c7⟩
    · exact .inl ⟨c3, by rw [c4, hk.bl, e3, e4]⟩
    · refine .inr ⟨c3, by rw [e4]; exact c4, k0, c5, ?_, by rw [c7, hk.bl, e3]⟩
      rw [c3] at h4
      simp at h4
      rw [← e3] at h4
      obtain ⟨q1, q2⟩ := hk.cap _ h4
      rw [q1, q2, e3]
      exact c6
  · simp only [Bool.and_eq_true] at h
    have h1 := Nat.eq_of_beq_eq_true h.1
    have h2 := Nat.le_of_ble_eq_true h.2
    simp only [C0] at hc ⊢
    exact ⟨by rw [hk.nx]; exact h2, by rw [hc.2, hk.bl, h1]⟩
  · simp only [C0]
    exact covS_sound hk h hc
  · obtain ⟨rfl, hp⟩ := eqPlain_eq h
    cases a' <;> simp [plain] at hp <;> simp_all [C0, plain]
    all_goals (rename_i o; cases o <;> simp_all [plain])

end
end Go.Sx
