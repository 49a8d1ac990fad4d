import Derived.Test.Qxb6500274aGreatWSxRegs
import Derived.Orders
set_option linter.unusedSimpArgs false
namespace Go.Sx
open Go Go.RowKit

/- REGIONS THAT DRAW THEIR ORDER: every order comes to the text's own. -/

/- 'j runs ahead of i, whatever the order' -/
def Fb (ops : List Oper) (j i : Nat) : Prop :=
  ∀ S : Nat → Prop, (∀ k o, S k → ops[k]? = some o → ∀ e, e ∈ o.after.toList → Region.binds .any e = true → S e.on) →
    (∀ o, ops[i]? = some o → ∀ e, e ∈ o.after.toList → Region.binds .any e = true → S e.on) → S j

def maskStep (ms : List Nat) : List Edge → Nat
  | [] => 0
  | e :: es => match Region.binds .any e with
    | true => (Nat.lor (Nat.lor (Nat.shiftLeft 1 e.on) (ms.getD e.on 0)) (maskStep ms es))
    | false => maskStep ms es

def masks : List Oper → List Nat → List Nat
  | [], ms => ms
  | o :: l, ms => masks l (ms ++ [maskStep ms o.after.toList])

theorem maskStep_bit {ms : List Nat} {j : Nat} : ∀ {es : List Edge}, (maskStep ms es).testBit j = true →
    ∃ e, e ∈ es ∧ Region.binds .any e = true ∧ (e.on = j ∨ (ms.getD e.on 0).testBit j = true)
  | [], h => by simp [maskStep] at h
  | e :: es, h => by
    simp only [maskStep] at h
    split at h
    · rename_i hb
      have h' : ((1 <<< e.on ||| ms.getD e.on 0) ||| maskStep ms es).testBit j = true := h
      rw [Nat.testBit_or, Nat.testBit_or] at h'
      simp only [Bool.or_eq_true] at h'
      rcases h' with (h' | h') | h'
      · refine ⟨e, by simp, hb, .inl ?_⟩
        rw [Nat.one_shiftLeft, Nat.testBit_two_pow] at h'
        simpa using h'
      · exact ⟨e, by simp, hb, .inr h'⟩
      · obtain ⟨e', h1, h2⟩ := maskStep_bit h'
        exact ⟨e', by simp [h1], h2⟩
    · obtain ⟨e', h1, h2⟩ := maskStep_bit h
      exact ⟨e', by simp [h1], h2⟩

theorem masks_spec (ops : List Oper) : ∀ (l done : List Oper) (ms : List Nat), ops = done ++ l → ms.length = done.length →
    (∀ i j, (ms.getD i 0).testBit j = true → Fb ops j i) → ∀ i j, ((masks l ms).getD i 0).testBit j = true → Fb ops j i
  | [], _, ms, _, _, h => h
  | o :: l, done, ms, he, hl, h => by
    refine masks_spec ops l (done ++ [o]) _ (by simp [he]) (by simp [hl]) ?_
    intro i j hb
    by_cases hi : i < ms.length
    · refine h i j ?_
      rwa [List.getD_eq_getElem?_getD, List.getElem?_append_left hi, ← List.getD_eq_getElem?_getD] at hb
    · by_cases hi2 : i = ms.length
      · subst hi2
        have hb' : (maskStep ms o.after.toList).testBit j = true := by
          rw [List.getD_eq_getElem?_getD, List.getElem?_append_right (Nat.le_refl _)] at hb
          simpa using hb
        obtain ⟨e, h1, h2, h3⟩ := maskStep_bit hb'
        intro S hS hp
        have ho : ops[ms.length]? = some o := by rw [he, hl, List.getElem?_append_right (Nat.le_refl _)]; simp
        have hSe := hp o ho e h1 h2
        rcases h3 with h3 | h3
        · rw [← h3]; exact hSe
        · exact h e.on j h3 S hS (fun o' ho' e' he' hb' => hS e.on o' hSe ho' e' he' hb')
      · rw [List.getD_eq_getElem?_getD, List.getElem?_eq_none (by simp; omega)] at hb
        simp at hb

/- classes of operations -/
def isLoad : Op → Bool
  | .load _ _ => true
  | _ => false
def isBuild : Op → Bool
  | .buildSlice _ _ _ => true
  | _ => false
/- a call of a function that leaves the world alone -/
def isQuiet (E : Env) : Op → Bool
  | .call c => match c.callee with
    | .value (.func g) => E.quiet g
    | _ => false
  | _ => false
/- none of the three -/
def isEA (E : Env) (o : Oper) : Bool := !(isPure E o.op || isLoad o.op || isQuiet E o.op)

def touches (all : List Oper) (x y : Oper) : Bool :=
  match x.dst with
  | some d => (y.looksAt all.toArray).contains d
  | none => false

def sameDst (x y : Oper) : Bool :=
  match x.dst, y.dst with
  | some a, some b => Nat.beq a b
  | _, _ => false

/- x stands ahead of y in the text: must it run ahead of y? -/
def conflict (E : Env) (all : List Oper) (x y : Oper) : Bool :=
  touches all x y || touches all y x || sameDst x y ||
  (isEA E x && (isEA E y || isLoad y.op)) || (isLoad x.op && isEA E y && !isBuild y.op)

def okPairs (E : Env) (all : List Oper) (m : Nat) (y : Oper) : Nat → List Oper → Bool
  | _, [] => true
  | k, x :: l => (!conflict E all x y || Nat.testBit m k) && okPairs E all m y (k + 1) l

def okFrom (E : Env) (all : List Oper) (ms : List Nat) : Nat → List Oper → Bool
  | _, [] => true
  | i, y :: l => okPairs E all (ms.getD i 0) y 0 (all.take i) && y.after.toList.all (fun e => !Region.binds .any e || Nat.blt e.on i) &&
      (match y.op with | .select _ _ => false | .defer _ => false | _ => true) && okFrom E all ms (i + 1) l

def okDraw (E : Env) (all : List Oper) : Bool := okFrom E all (masks all []) 0 all

structure DrawOK (E : Env) (all : List Oper) : Prop where
  order : ∀ (i j : Nat) (x y : Oper), j < i → all[j]? = some x → all[i]? = some y → conflict E all x y = true → Fb all j i
  down : ∀ (i : Nat) (y : Oper), all[i]? = some y → ∀ e, e ∈ y.after.toList → Region.binds .any e = true → e.on < i
  plain : ∀ (i : Nat) (y : Oper), all[i]? = some y → (∀ cs b, y.op ≠ .select cs b) ∧ (∀ c, y.op ≠ .defer c)

theorem okPairs_spec {E : Env} {all : List Oper} {m : Nat} {y : Oper} : ∀ {l : List Oper} {k : Nat}, okPairs E all m y k l = true → ∀ j x, l[j]? = some x → conflict E all x y = true → m.testBit (k + j) = true
  | [], _, _, j, x, hx, _ => by simp at hx
  | z :: l, k, h, j, x, hx, hc => by
    simp only [okPairs, Bool.and_eq_true, Bool.or_eq_true, Bool.not_eq_true'] at h
    cases j with
    | zero =>
      simp at hx
      subst hx
      rcases h.1 with h1 | h1
      · rw [hc] at h1; simp at h1
      · simpa using h1
    | succ j =>
      have := okPairs_spec h.2 j x (by simpa using hx) hc
      rwa [show k + 1 + j = k + (j + 1) by omega] at this

theorem okFrom_spec {E : Env} {all : List Oper} {ms : List Nat} : ∀ {l : List Oper} {k : Nat}, okFrom E all ms k l = true → ∀ j y, l[j]? = some y →
    okPairs E all (ms.getD (k + j) 0) y 0 (all.take (k + j)) = true ∧ (∀ e, e ∈ y.after.toList → Region.binds .any e = true → e.on < k + j) ∧ (∀ cs b, y.op ≠ .select cs b) ∧ (∀ c, y.op ≠ .defer c)
  | [], _, _, j, y, hy => by simp at hy
  | z :: l, k, h, j, y, hy => by
    simp only [okFrom, Bool.and_eq_true] at h
    obtain ⟨⟨⟨h1, h2⟩, h3⟩, h4⟩ := h
    cases j with
    | zero =>
      simp at hy
      subst hy
      refine ⟨by simpa using h1, fun e he hb => ?_, ?_, ?_⟩
      · have := List.all_eq_true.1 h2 e he
        rw [hb] at this
        have h5 : Nat.blt e.on k = true := by simpa using this
        have h6 := Nat.le_of_ble_eq_true h5
        omega
      · intro cs b e; rw [e] at h3; simp at h3
      · intro c e; rw [e] at h3; simp at h3
    | succ j =>
      have := okFrom_spec h4 j y (by simpa using hy)
      rwa [show k + 1 + j = k + (j + 1) by omega] at this

theorem okDraw_spec {E : Env} {all : List Oper} (h : okDraw E all = true) : DrawOK E all := by
  refine ⟨fun i j x y hji hx hy hc => ?_, fun i y hy => ?_, fun i y hy => ?_⟩
  · have := (okFrom_spec h i y hy).1
    rw [Nat.zero_add] at this
    have hb := okPairs_spec this j x (by rw [List.getElem?_take, if_pos hji]; exact hx) hc
    rw [Nat.zero_add] at hb
    exact masks_spec all all [] [] rfl rfl (fun i j hh => by simp at hh) i j hb
  · have := (okFrom_spec h i y hy).2.1
    rwa [Nat.zero_add] at this
  · exact (okFrom_spec h i y hy).2.2
end Go.Sx
