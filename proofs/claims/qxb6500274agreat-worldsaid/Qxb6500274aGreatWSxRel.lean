import Derived.Test.Qxb6500274aGreatWSx
import Derived.Below
import Derived.Laws.Cells
import Derived.Laws.CopyRow
namespace Go.Sx
open Go Go.RowKit

/- WHAT AN ABSTRACT STATE SAYS OF A WORLD. -/

/- where the worlds part from the first, and what the names of functions mean -/
structure Base where
  n : Nat
  pf : Nat → List Value → Option Value

structure Kx where
  bl : Nat → Nat
  tot : Nat → Nat
  es : Nat → Nat
  nx : Nat
  sy : Nat → Value
  pf : Nat → List Value → Option Value

structure Kx.le (K K' : Kx) : Prop where
  nx : K.nx ≤ K'.nx
  bl : ∀ b, b < K.nx → K'.bl b = K.bl b
  tot : ∀ b, b < K.nx → K'.tot b = K.tot b
  es : ∀ b, b < K.nx → K'.es b = K.es b
  sy : K'.sy = K.sy
  pf : K'.pf = K.pf

theorem Kx.le_refl (K : Kx) : K.le K := ⟨Nat.le_refl _, fun _ _ => rfl, fun _ _ => rfl, fun _ _ => rfl, rfl, rfl⟩
theorem Kx.le_trans {A B C : Kx} (h : A.le B) (k : B.le C) : A.le C :=
  ⟨Nat.le_trans h.nx k.nx, fun b hb => (k.bl b (Nat.lt_of_lt_of_le hb h.nx)).trans (h.bl b hb),
   fun b hb => (k.tot b (Nat.lt_of_lt_of_le hb h.nx)).trans (h.tot b hb), fun b hb => (k.es b (Nat.lt_of_lt_of_le hb h.nx)).trans (h.es b hb),
   k.sy.trans h.sy, k.pf.trans h.pf⟩

def All2 {α β : Type} (R : α → β → Prop) : List α → List β → Prop
  | [], [] => True
  | a :: x, b :: y => R a b ∧ All2 R x y
  | _, _ => False

theorem All2.length {α β : Type} {R : α → β → Prop} : ∀ {x : List α} {y : List β}, All2 R x y → x.length = y.length
  | [], [], _ => rfl
  | [], _ :: _, h => h.elim
  | _ :: _, [], h => h.elim
  | _ :: _, _ :: _, h => by simp [All2.length h.2]

theorem All2.mono {α β : Type} {R S : α → β → Prop} (hm : ∀ a b, R a b → S a b) : ∀ {x : List α} {y : List β}, All2 R x y → All2 S x y
  | [], [], _ => trivial
  | [], _ :: _, h => h.elim
  | _ :: _, [], h => h.elim
  | _ :: _, _ :: _, h => ⟨hm _ _ h.1, All2.mono hm h.2⟩

theorem All2.append {α β : Type} {R : α → β → Prop} : ∀ {x x' : List α} {y y' : List β}, All2 R x y → All2 R x' y' → All2 R (x ++ x') (y ++ y')
  | [], _, [], _, _, h => h
  | [], _, _ :: _, _, h, _ => h.elim
  | _ :: _, _, [], _, h, _ => h.elim
  | _ :: _, _, _ :: _, _, h, k => ⟨h.1, All2.append h.2 k⟩

theorem All2.drop {α β : Type} {R : α → β → Prop} : ∀ (n : Nat) {x : List α} {y : List β}, All2 R x y → All2 R (x.drop n) (y.drop n)
  | 0, _, _, h => h
  | _ + 1, [], [], _ => trivial
  | _ + 1, [], _ :: _, h => h.elim
  | _ + 1, _ :: _, [], h => h.elim
  | n + 1, _ :: _, _ :: _, h => All2.drop n h.2

theorem All2.take {α β : Type} {R : α → β → Prop} : ∀ (n : Nat) {x : List α} {y : List β}, All2 R x y → All2 R (x.take n) (y.take n)
  | 0, x, y, h => by cases x <;> cases y <;> trivial
  | _ + 1, [], [], _ => trivial
  | _ + 1, [], _ :: _, h => h.elim
  | _ + 1, _ :: _, [], h => h.elim
  | n + 1, _ :: _, _ :: _, h => ⟨h.1, All2.take n h.2⟩

theorem All2.get {α β : Type} {R : α → β → Prop} : ∀ (n : Nat) {x : List α} {y : List β} {a : α}, All2 R x y → x[n]? = some a → ∃ b, y[n]? = some b ∧ R a b
  | _, [], _, _, _, h => by simp at h
  | _, _ :: _, [], _, h, _ => h.elim
  | 0, _ :: _, b :: _, _, h, e => by simp at e; exact ⟨b, by simp, e ▸ h.1⟩
  | n + 1, _ :: _, _ :: _, _, h, e => by simp at e; simpa using All2.get n h.2 e

theorem All2.map {α β γ : Type} {R : β → γ → Prop} (f : α → β) (g : α → γ) : ∀ (l : List α), (∀ a, a ∈ l → R (f a) (g a)) → All2 R (l.map f) (l.map g)
  | [], _ => trivial
  | a :: l, h => ⟨h a (by simp), All2.map f g l (fun b hb => h b (by simp [hb]))⟩

theorem All2.refl {α : Type} {R : α → α → Prop} : ∀ (l : List α), (∀ a, a ∈ l → R a a) → All2 R l l
  | [], _ => trivial
  | a :: l, h => ⟨h a (by simp), All2.refl l (fun b hb => h b (by simp [hb]))⟩

/- WHAT A SYMBOLIC VALUE MEANS: its program, run on a stack. -/
def kindOf : Nat → IntKind
  | 0 => .i8 | 1 => .i16 | 2 => .i32 | 3 => .i64 | 4 => .u8 | 5 => .u16 | 6 => .u32 | _ => .u64

def opOf : Nat → BinOp
  | 0 => .add | 1 => .sub | 2 => .mul | 3 => .quo | 4 => .rem | 5 => .and | 6 => .or | 7 => .xor | 8 => .shl | 9 => .shr | 10 => .andNot
  | 11 => .eql | 12 => .neq | 13 => .lss | 14 => .leq | 15 => .gtr | _ => .geq

theorem kindOf_N (k : IntKind) : kindOf (kindN k) = k := by cases k <;> rfl
theorem opOf_N (o : BinOp) : opOf (opN o) = o := by cases o <;> rfl
theorem opN_lt (o : BinOp) : opN o < 100 := by cases o <;> decide

def binV (op : BinOp) (x y : Value) : Option Value :=
  match x, y with
  | .int k a, .int k' b => match op with
    | .shl => ishift .shl k a b
    | .shr => ishift .shr k a b
    | op => if k = k' then ibin op k a b else none
  | .string a, .string b => sbin op a b
  | _, _ => none

def tokOp (K : Kx) (o a : Nat) (st : List Value) : Option (List Value) :=
  if o < 100 then match st with
    | y :: x :: st => (binV (opOf o) x y).map (fun v => v :: st)
    | _ => none
  else if o = 100 then match st with
    | .int _ n :: st => some (.int (kindOf a) ((kindOf a).wrap n) :: st)
    | _ => none
  else if o = 101 then match st with
    | .string s :: st => some (.int .i64 s.data.toList.length :: st)
    | _ => none
  else if o = 102 then match st with
    | .bool b :: st => some (.bool (!b) :: st)
    | _ => none
  else if o = 103 then match st with
    | .bool b :: .bool c :: st => some (.bool (c && b) :: st)
    | _ => none
  else if o = 104 then match st with
    | .int _ b :: .int k c :: st => some (.int k (if b > c then b else c) :: st)
    | _ => none
  else if o = 105 then match st with
    | .int _ b :: .int k c :: st => some (.int k (if b < c then b else c) :: st)
    | _ => none
  else if o = 106 then match st with
    | .slice _ l _ :: st => some (.int .i64 l :: st)
    | _ => none
  else if o = 107 then match st with
    | .int _ n :: st => match hexTab[n.toNat]? with
      | some b => some (.int .u8 b.toNat :: st)
      | none => none
    | _ => none
  else if o = 108 then match st with
    | .int .u64 n :: st => if 0 ≤ n ∧ n < 18446744073709551616 then some (.int .u8 (n / 256 ^ a % 256) :: st) else none
    | _ => none
  else (K.pf (o - 200) (st.take a)).map (fun v => v :: st.drop a)

def tok1 (K : Kx) (t : Value) (st : List Value) : Option (List Value) :=
  match t with
  | .chan (some i) => some (K.sy i :: st)
  | .slice none o a => tokOp K o a st
  | v => some (v :: st)

def rpn (K : Kx) : List Value → List Value → Option (List Value)
  | [], st => some st
  | t :: l, st => match tok1 K t st with
    | some st' => rpn K l st'
    | none => none

theorem rpn_append (K : Kx) : ∀ (x y st : List Value), rpn K (x ++ y) st = (rpn K x st).bind (rpn K y)
  | [], y, st => rfl
  | t :: x, y, st => by
    simp only [List.cons_append, rpn]
    cases tok1 K t st with
    | none => rfl
    | some st' => exact rpn_append K x y st'

/- the program t answers c, on every stack -/
def Den (K : Kx) (t : List Value) (c : Value) : Prop := ∀ st, rpn K t st = some (c :: st)

theorem Den.uniq {K : Kx} {t : List Value} {c d : Value} (h : Den K t c) (k : Den K t d) : c = d := by
  have := (h []).symm.trans (k [])
  simpa using this

theorem rpn_congr {K K' : Kx} (h1 : K'.sy = K.sy) (h2 : K'.pf = K.pf) : ∀ (t st : List Value), rpn K' t st = rpn K t st
  | [], _ => rfl
  | t :: l, st => by
    have e : tok1 K' t st = tok1 K t st := by
      unfold tok1
      split
      · rw [h1]
      · unfold tokOp; rw [h2]
      · rfl
    simp only [rpn, e]
    cases tok1 K t st with
    | none => rfl
    | some st' => exact rpn_congr h1 h2 l st'

theorem Den.mono {K K' : Kx} (h1 : K'.sy = K.sy) (h2 : K'.pf = K.pf) {t : List Value} {c : Value} (h : Den K t c) : Den K' t c :=
  fun st => (rpn_congr h1 h2 t st).trans (h st)

/- a byte of a string of known length -/
def ByteRel (K : Kx) (a : Value) (b : UInt8) : Prop :=
  match a with
  | .func (.yield _) t sh => (∃ z, sh.toList = [.int .u8 z]) ∧ Den K t.toList (.int .u8 b.toNat)
  | a => a = .int .u8 b.toNat

theorem ByteRel.mono {K K' : Kx} (hle : K.le K') {a : Value} {b : UInt8} (h : ByteRel K a b) : ByteRel K' a b := by
  unfold ByteRel at *
  split at h
  · exact ⟨h.1, h.2.mono hle.sy hle.pf⟩
  · exact h

def SymRel (K : Kx) (t sh : List Value) (c : Value) : Prop :=
  match sh with
  | [.int k _] => ∃ n, c = .int k n ∧ k.wrap n = n ∧ Den K t c
  | [.bool _] => ∃ b, c = .bool b ∧ Den K t c
  | [.slice _ m _] => ∃ s, c = .string s ∧ s.data.toList.length ≤ m ∧ Den K t c
  | [.pointer none] => ∃ p l k l', t = [.slice (some p) l k] ∧ p.spot = none ∧ p.block < K.nx ∧ k ≠ capU ∧ l' ≤ k ∧ c = .slice (some ⟨K.bl p.block, p.off, none⟩) l' k
  | [.nilIface] => ∃ i a l k, t = [.chan (some i)] ∧ c = K.sy i ∧ c = .slice a l k ∧ l ≤ 9223372036854775807
  | [.string _] => ∃ s, c = .string s ∧ All2 (ByteRel K) t s.data.toList
  | _ => False

theorem SymRel.mono {K K' : Kx} (hle : K.le K') {t sh : List Value} {c : Value} (h : SymRel K t sh c) : SymRel K' t sh c := by
  unfold SymRel at *
  split at h
  · obtain ⟨n, h1, h2, h3⟩ := h; exact ⟨n, h1, h2, h3.mono hle.sy hle.pf⟩
  · obtain ⟨b, h1, h3⟩ := h; exact ⟨b, h1, h3.mono hle.sy hle.pf⟩
  · obtain ⟨s, h1, h2, h3⟩ := h; exact ⟨s, h1, h2, h3.mono hle.sy hle.pf⟩
  · obtain ⟨p, l, k, l', h1, h2, h3, h4, h5, h6⟩ := h
    exact ⟨p, l, k, l', h1, h2, Nat.lt_of_lt_of_le h3 hle.nx, h4, h5, by rw [hle.bl _ h3]; exact h6⟩
  · obtain ⟨i, a, l, k, h1, h2, h3, h4⟩ := h
    exact ⟨i, a, l, k, h1, by rw [hle.sy]; exact h2, h3, h4⟩
  · obtain ⟨s, h1, h2⟩ := h; exact ⟨s, h1, h2.mono (fun _ _ => ByteRel.mono hle)⟩
  · exact h

theorem SymRel.one {K : Kx} {t sh : List Value} {c : Value} (h : SymRel K t sh c) : c.oneCell' = true := by
  unfold SymRel at h
  split at h
  · obtain ⟨n, h1, h2, h3⟩ := h; rw [h1]; rfl
  · obtain ⟨b, h1, h3⟩ := h; rw [h1]; rfl
  · obtain ⟨s, h1, h2, h3⟩ := h; rw [h1]; rfl
  · obtain ⟨p, l, k, l', h1, h2, h3, h4, h5, h6⟩ := h; rw [h6]; rfl
  · obtain ⟨i, a, l, k, h1, h2, h3, h4⟩ := h; rw [h3]; rfl
  · obtain ⟨s, h1, h2⟩ := h; rw [h1]; rfl
  · exact h.elim

/- a value without inner values -/
def C0 (K : Kx) (a c : Value) : Prop :=
  match a with
  | .chan none => c.oneCell' = true
  | .pointer (some p) => p.spot = none ∧ p.block < K.nx ∧ c = .pointer (some ⟨K.bl p.block, p.off, none⟩)
  | .slice (some p) l k => p.spot = none ∧ p.block < K.nx ∧
      ((k ≠ capU ∧ c = .slice (some ⟨K.bl p.block, p.off, none⟩) l k) ∨
       (k = capU ∧ p.off = 0 ∧ ∃ k', l ≤ k' ∧ k' * K.es p.block = K.tot p.block ∧ c = .slice (some ⟨K.bl p.block, 0, none⟩) l k'))
  | .map (some b) => b < K.nx ∧ c = .map (some (K.bl b))
  | .func (.yield _) t sh => SymRel K t.toList sh.toList c
  | a => plain a = true ∧ c = a

/- inside an interface value -/
def CI (K : Kx) (a c : Value) : Prop :=
  match a with
  | .agg l => l = #[] ∧ c = .agg #[]
  | .func (.func f) x y => x = #[] ∧ y = #[] ∧ c = .func (.func f) #[] #[]
  | a => C0 K a c

/- a cell -/
def C1 (K : Kx) (a c : Value) : Prop :=
  match a with
  | .iface t v => ∃ v', c = .iface t v' ∧ CI K v v'
  | .func (.func f) x y => ∃ x' y', c = .func (.func f) x' y' ∧ All2 (C0 K) x.toList x'.toList ∧ All2 (C0 K) y.toList y'.toList
  | a => C0 K a c

/- a component of a tuple -/
def R0 (K : Kx) (a c : Value) : Prop :=
  match a with
  | .complex _ _ _ => True
  | .agg l => ∃ l', c = .agg l' ∧ All2 (C1 K) l.toList l'.toList
  | a => C1 K a c

/- a slot -/
def RV (K : Kx) (a c : Value) : Prop :=
  match a with
  | .tuple l => ∃ l', c = .tuple l' ∧ All2 (R0 K) l.toList l'.toList
  | a => R0 K a c

theorem C0.mono {K K' : Kx} (hle : K.le K') {a c : Value} (h : C0 K a c) : C0 K' a c := by
  unfold C0 at *
  split at h
  · exact h
  · obtain ⟨h1, h2, h3⟩ := h
    exact ⟨h1, Nat.lt_of_lt_of_le h2 hle.nx, by rw [hle.bl _ h2]; exact h3⟩
  · obtain ⟨h1, h2, h3⟩ := h
    exact ⟨h1, Nat.lt_of_lt_of_le h2 hle.nx, by rw [hle.bl _ h2, hle.es _ h2, hle.tot _ h2]; exact h3⟩
  · obtain ⟨h1, h2⟩ := h
    exact ⟨Nat.lt_of_lt_of_le h1 hle.nx, by rw [hle.bl _ h1]; exact h2⟩
  · exact SymRel.mono hle h
  · exact h
theorem CI.mono {K K' : Kx} (hle : K.le K') {a c : Value} (h : CI K a c) : CI K' a c := by
  unfold CI at *
  split at h
  · exact h
  · exact h
  · exact C0.mono hle h
theorem C1.mono {K K' : Kx} (hle : K.le K') {a c : Value} (h : C1 K a c) : C1 K' a c := by
  unfold C1 at *
  split at h
  · obtain ⟨v', h1, h2⟩ := h
    exact ⟨v', h1, CI.mono hle h2⟩
  · obtain ⟨x', y', h1, h2, h3⟩ := h
    exact ⟨x', y', h1, h2.mono (fun _ _ => C0.mono hle), h3.mono (fun _ _ => C0.mono hle)⟩
  · exact C0.mono hle h
theorem R0.mono {K K' : Kx} (hle : K.le K') {a c : Value} (h : R0 K a c) : R0 K' a c := by
  unfold R0 at *
  split at h
  · trivial
  · obtain ⟨l', h1, h2⟩ := h
    exact ⟨l', h1, h2.mono (fun _ _ => C1.mono hle)⟩
  · exact C1.mono hle h
theorem RV.mono {K K' : Kx} (hle : K.le K') {a c : Value} (h : RV K a c) : RV K' a c := by
  unfold RV at *
  split at h
  · obtain ⟨l', h1, h2⟩ := h
    exact ⟨l', h1, h2.mono (fun _ _ => R0.mono hle)⟩
  · exact R0.mono hle h
theorem C0.one {K : Kx} {a c : Value} (h : C0 K a c) : c.oneCell' = true := by
  unfold C0 at h
  split at h
  · exact h
  · rw [h.2.2]; rfl
  · obtain ⟨_, _, h3⟩ := h
    rcases h3 with ⟨_, h3⟩ | ⟨_, _, k', _, _, h3⟩ <;> rw [h3] <;> rfl
  · rw [h.2]; rfl
  · exact SymRel.one h
  · obtain ⟨h1, h2⟩ := h
    subst h2
    cases c <;> simp_all [plain, Value.oneCell']

theorem C1.one {K : Kx} {a c : Value} (h : C1 K a c) : c.oneCell' = true := by
  unfold C1 at h
  split at h
  · obtain ⟨v', h1, _⟩ := h; rw [h1]; rfl
  · obtain ⟨x', y', h1, _⟩ := h; rw [h1]; rfl
  · exact C0.one h

end Go.Sx
