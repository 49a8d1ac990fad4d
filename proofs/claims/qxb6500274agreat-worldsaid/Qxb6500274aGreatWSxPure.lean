import Derived.Test.Qxb6500274aGreatWSxMem
import Derived.Orders
import Derived.Laws.StructEq
import Derived.Laws.Strings
namespace Go.Sx
open Go Go.RowKit

/- what a slot's value is, by its abstract value -/
section
variable {K : Kx} {c : Value}
theorem RV_int {k : IntKind} {n : Int} : RV K (.int k n) c ↔ c = .int k n := by simp [RV, R0, C1, C0, plain]
theorem RV_bool {b : Bool} : RV K (.bool b) c ↔ c = .bool b := by simp [RV, R0, C1, C0, plain]
theorem RV_string {s : ByteArray} : RV K (.string s) c ↔ c = .string s := by simp [RV, R0, C1, C0, plain]
theorem RV_ptr {p : Addr} : RV K (.pointer (some p)) c ↔ (p.spot = none ∧ p.block < K.nx ∧ c = .pointer (some ⟨K.bl p.block, p.off, none⟩)) := by simp [RV, R0, C1, C0]
theorem RV_nilptr : RV K (.pointer none) c ↔ c = .pointer none := by simp [RV, R0, C1, C0, plain]
theorem RV_nilslice {l k : Nat} : RV K (.slice none l k) c ↔ c = .slice none l k := by simp [RV, R0, C1, C0, plain]
theorem RV_slice {p : Addr} {l k : Nat} (hk : k ≠ capU) : RV K (.slice (some p) l k) c ↔ (p.spot = none ∧ p.block < K.nx ∧ c = .slice (some ⟨K.bl p.block, p.off, none⟩) l k) := by simp [RV, R0, C1, C0, hk]
theorem RV_sliceAny {p : Addr} {l k : Nat} (h : RV K (.slice (some p) l k) c) : p.spot = none ∧ p.block < K.nx ∧ ∃ k', c = .slice (some ⟨K.bl p.block, p.off, none⟩) l k' := by
  simp only [RV, R0, C1, C0] at h
  obtain ⟨h1, h2, h3⟩ := h
  rcases h3 with ⟨_, h3⟩ | ⟨_, h4, k', _, _, h3⟩
  · exact ⟨h1, h2, k, h3⟩
  · exact ⟨h1, h2, k', by rw [h3, h4]⟩
theorem RV_map {b : Nat} : RV K (.map (some b)) c ↔ (b < K.nx ∧ c = .map (some (K.bl b))) := by simp [RV, R0, C1, C0]
theorem RV_nilFunc : RV K .nilFunc c ↔ c = .nilFunc := by simp [RV, R0, C1, C0, plain]
theorem RV_nilIface : RV K .nilIface c ↔ c = .nilIface := by simp [RV, R0, C1, C0, plain]
theorem RV_iface {t : TypeId} {v : Value} : RV K (.iface t v) c ↔ ∃ v', c = .iface t v' ∧ CI K v v' := by simp [RV, R0, C1]
theorem RV_sym {n : Nat} {t sh : Array Value} : RV K (.func (.yield n) t sh) c ↔ SymRel K t.toList sh.toList c := by simp [RV, R0, C1, C0]
theorem RV_func {f : FuncId} {x y : Array Value} : RV K (.func (.func f) x y) c ↔ ∃ x' y', c = .func (.func f) x' y' ∧ All2 (C0 K) x.toList x'.toList ∧ All2 (C0 K) y.toList y'.toList := by simp [RV, R0, C1]
theorem RV_agg {l : Array Value} : RV K (.agg l) c ↔ ∃ l', c = .agg l' ∧ All2 (C1 K) l.toList l'.toList := by simp [RV, R0]
theorem RV_tuple {l : Array Value} : RV K (.tuple l) c ↔ ∃ l', c = .tuple l' ∧ All2 (R0 K) l.toList l'.toList := by simp [RV]
theorem C0_plain {a : Value} (h : plain a = true) : C0 K a a := by
  unfold C0
  split <;> simp_all [plain]
theorem C1_plain {a : Value} (h : plain a = true) : C1 K a a := by
  unfold C1
  split
  · simp [plain] at h
  · simp [plain] at h
  · exact C0_plain h
theorem R0_plain {a : Value} (h : plain a = true) : R0 K a a := by
  unfold R0
  split
  · trivial
  · simp [plain] at h
  · exact C1_plain h
theorem RV_plain {a : Value} (h : plain a = true) : RV K a a := by
  unfold RV
  split
  · simp [plain] at h
  · exact R0_plain h
theorem R0.rv {a c : Value} (h : R0 K a c) (hn : ∀ l, a ≠ .tuple l) : RV K a c := by
  unfold RV
  split
  · rename_i l; exact absurd rfl (hn l)
  · exact h
theorem C1.rv {a c : Value} (h : C1 K a c) : RV K a c := by
  have h1 := h.one
  unfold RV
  split
  · rename_i l
    simp [C1, C0, plain] at h
  · unfold R0
    split
    · trivial
    · simp [C1, C0, plain] at h
    · exact h
theorem RV_plainR {a : Value} (h : plainR a = true) : RV K a a := by
  unfold plainR at h
  split at h
  · rename_i l
    rw [RV_agg]
    exact ⟨l, rfl, All2.refl _ (fun v hv => C1_plain (by simpa using List.all_eq_true.1 h v hv))⟩
  · exact RV_plain h
theorem RV_C1 {a : Value} (h : RV K a c) (hok : okC1 a = true) : C1 K a c := by
  cases a <;> simp [okC1] at hok <;> simpa [RV, R0] using h
theorem cells_one (h : c.oneCell' = true) : c.cells = #[c] := by
  cases c <;> simp [Value.oneCell'] at h <;> rfl
/- the cells of a value that is fit for a variable -/
theorem RV_cells {a : Value} (h : RV K a c) (hok : okR0 a = true) : All2 (C1 K) (cellsOf a) c.cells.toList := by
  by_cases ha : ∃ l, a = .agg l
  · obtain ⟨l, rfl⟩ := ha
    obtain ⟨l', h1, h2⟩ := RV_agg.1 h
    subst h1
    exact h2
  · have hok' : okC1 a = true := by cases a <;> simp_all [okR0, okC1]
    have h' := RV_C1 h hok'
    rw [cells_one h'.one]
    have : cellsOf a = [a] := by cases a <;> simp_all [cellsOf]
    rw [this]
    exact ⟨h', trivial⟩
theorem RV_C0 {a : Value} (h : RV K a c) (hok : okC0 a = true) : C0 K a c := by
  cases a
  case func f x y => cases f <;> simp [okC0] at hok; simpa [RV, R0, C1] using h
  all_goals first
    | (simp [okC0] at hok; done)
    | simpa [RV, R0, C1] using h
theorem RV_CI {a : Value} (h : RV K a c) (hok : okCI a = true) : CI K a c := by
  cases a <;> simp [okCI] at hok
  case agg l =>
    obtain ⟨l', h1, h2⟩ := RV_agg.1 h
    subst hok
    have : l' = #[] := by
      cases l' with | mk l' => cases l' with
        | nil => rfl
        | cons _ _ => exact h2.elim
    subst this
    exact ⟨rfl, h1⟩
  case func f x y =>
    have hok' : x = #[] ∧ y = #[] := by cases f <;> simp_all
    have hf : ∃ g, f = .func g := by cases f <;> simp_all
    obtain ⟨g, rfl⟩ := hf
    obtain ⟨x', y', h1, h2, h3⟩ := RV_func.1 h
    obtain ⟨rfl, rfl⟩ := hok'
    have e1 : x' = #[] := by
      cases x' with | mk l' => cases l' with
        | nil => rfl
        | cons _ _ => exact h2.elim
    have e2 : y' = #[] := by
      cases y' with | mk l' => cases l' with
        | nil => rfl
        | cons _ _ => exact h3.elim
    subst e1
    subst e2
    exact ⟨rfl, rfl, h1⟩
  all_goals simpa [RV, R0, C1, CI] using h
theorem C1.r0 {a : Value} (h : C1 K a c) : R0 K a c := by
  unfold R0
  split
  · trivial
  · simp [C1, C0, plain] at h
  · exact h
end

structure TIOK (P : Program) (t : TypeId) (i : TI) : Prop where
  und : P.underlying t = some i.desc
  info : ∃ inf, P.info? t = some inf ∧ inf.size = i.size ∧ inf.zero = some (zeroVal i) ∧ inf.bytes ≤ 1000000
  agg : i.agg = (match i.desc with | .struct _ => true | .array _ _ => true | _ => false)
  zl : i.zero.length = i.size
  sc : i.agg = false → ∃ z, i.zero = [z]
  zp : ∀ v, v ∈ i.zero → plain v = true

section
variable {P : Program} {t : TypeId} {i : TI} (w : World)
theorem TIOK.run_und (h : TIOK P t i) : (Go.underlying t).run P w = .ok i.desc w := by simp [Go.underlying, h.und]
theorem TIOK.run_info (h : TIOK P t i) : ∃ inf, (Go.typeInfo t).run P w = .ok inf w ∧ inf.size = i.size ∧ inf.zero = some (zeroVal i) ∧ inf.bytes ≤ 1000000 := by
  obtain ⟨inf, h1, h2⟩ := h.info
  exact ⟨inf, by simp [Go.typeInfo, h1], h2⟩
theorem TIOK.run_size (h : TIOK P t i) : (Go.sizeOf t).run P w = .ok i.size w := by
  obtain ⟨inf, h1, h2, _⟩ := h.run_info w
  simp [Go.sizeOf, h1, h2]
theorem TIOK.run_zero (h : TIOK P t i) : (Go.zeroValue t).run P w = .ok (zeroVal i) w := by
  obtain ⟨inf, h1, _, h2, _⟩ := h.run_info w
  simp [Go.zeroValue, h1, h2]
theorem TIOK.run_isAgg (h : TIOK P t i) : (Go.isAgg t).run P w = .ok i.agg w := by
  simp only [Go.isAgg, Sem.run_bind, h.run_und w, Result.andThen_ok, h.agg]
  cases i.desc <;> rfl
theorem TIOK.zero_cells (h : TIOK P t i) : (zeroVal i).cells.toList = i.zero := by
  have hsc := h.sc
  unfold zeroVal
  split
  · rfl
  · rename_i z hz1 hz2
    have hp := h.zp z (by rw [hz2]; simp)
    rw [hz2]
    cases z <;> simp [plain] at hp <;> rfl
  · rename_i hx1 hx2 hx3
    obtain ⟨z, hz⟩ := hsc hx2
    exact (hx3 z hz).elim
end

theorem TIOK.r0 {P : Program} {t : TypeId} {i : TI} (h : TIOK P t i) (K : Kx) : R0 K (zeroVal i) (zeroVal i) := by
  unfold zeroVal
  split
  · rename_i z hz _
    exact ⟨_, rfl, All2.refl _ (fun v hv => C1_plain (h.zp v hv))⟩
  · rename_i z hz1 hz2
    exact R0_plain (h.zp z (by rw [hz2]; simp))
  · rename_i hx1 hx2 hx3
    obtain ⟨z, hz⟩ := h.sc hx2
    exact (hx3 z hz).elim

/- '==' on flat structs and arrays -/
def FlatOK (P : Program) (t : TypeId) (z : List Value) : Prop :=
  ∀ (xs ys : Array Value) (b : Bool), likeL likeC z xs.toList = true → likeL likeC z ys.toList = true → eqCells xs.toList ys.toList = some b → ∀ (x y : Operand) (w : World),
    (Go.eqGuard .eql t x y (.agg xs) (.agg ys)).run P w = .ok () w ∧ (Go.eqGuard .neq t x y (.agg xs) (.agg ys)).run P w = .ok () w ∧
    (Op.equal t (.agg xs) (.agg ys)).run P w = .ok b w

structure EnvOK (P : Program) (E : Env) : Prop where
  ti : ∀ t i, E.ti t = some i → TIOK P t i
  fn : ∀ g f, E.fn g = some f → P.funcs[g]? = some f ∧ f.name ≠ "runtime.NumGoroutine"
  flat : ∀ t i, E.flat t = true → E.ti t = some i → FlatOK P t i.zero
  fld : ∀ (t : TypeId) (i : TI) (fs : Array Field) (j : Nat) (fd : Field), E.ti t = some i → i.desc = .struct fs → fs.toList[j]? = some fd → ∃ inf, P.info? fd.type = some inf ∧ inf.size ≠ 0
  impl : ∀ t u b, E.impl t u = some b → ∀ want, P.underlying t = some (.interface want) → ∃ inf, P.info? u = some inf ∧ (Instr.missingMethod want inf.methods).isNone = b
  meth : ∀ t n g, E.meth t n = some g → ∀ (v : Value) (args : Array Value) (w : World), (callMethod (.iface t v) n args).run P w = (callFunc g (#[v] ++ args)).run P w

section ints
variable {P : Program} (w : World)
theorem ibin_run {op : BinOp} {k : IntKind} {a b : Int} {v : Value} (h : ibin op k a b = some v) (h1 : op ≠ .shl) (h2 : op ≠ .shr) (t : TypeId) :
    (binOp op t (.int k a) (.int k b)).run P w = .ok v w ∧ plain v = true := by
  cases op <;> simp only [ibin, Option.some.injEq] at h <;> simp only [binOp, ne_eq, not_true_eq_false, if_false, Op.intArith, Op.intDiv, Op.intBits, Op.intCmp]
  case quo =>
    split at h
    · simp at h
    · rename_i hb
      simp at h
      subst h
      simp [hb, plain]
  case rem =>
    split at h
    · simp at h
    · rename_i hb
      simp at h
      subst h
      simp [hb, plain]
  case shl => exact absurd rfl h1
  case shr => exact absurd rfl h2
  all_goals (subst h; simp [plain])
theorem ishift_run {op : BinOp} {k k' : IntKind} {a b : Int} {v : Value} (h : ishift op k a b = some v) (t : TypeId) :
    (binOp op t (.int k a) (.int k' b)).run P w = .ok v w ∧ plain v = true := by
  unfold ishift at h
  split at h
  · simp at h
  · rename_i hb
    cases op <;> simp at h <;> subst h <;> simp [binOp, Op.shift, hb, plain]
theorem sbin_run {op : BinOp} {a b : ByteArray} {v : Value} (h : sbin op a b = some v) (t : TypeId) :
    (binOp op t (.string a) (.string b)).run P w = .ok v w ∧ plain v = true := by
  have e : ∀ x : ByteArray, x.toList = x.data.toList := fun x => ByteArray.toList_eq x
  cases op <;> simp only [sbin] at h
  case add =>
    split at h
    · rename_i hl
      simp at h
      subst h
      have h1 : a.size = a.data.toList.length := by simp
      have h2 : b.size = b.data.toList.length := by simp
      have hs : ¬ (((a.size + b.size : Nat) : Int) > IntKind.i64.max) := by
        have : IntKind.i64.max = 9223372036854775807 := by decide
        omega
      simp only [binOp, Op.stringOp, if_neg hs, Sem.run_pure, plain, and_true]
      congr 2
    · simp at h
  case eql => simp at h; subst h; simp [binOp, Op.stringOp, e, plain]
  case neq => simp at h; subst h; simp [binOp, Op.stringOp, e, plain]
  all_goals simp at h
end ints

section eqs
variable {P : Program} {E : Env} {K : Kx} (w : World)
theorem eqCell_conc {a b a' b' : Value} {r : Bool} (h : eqCell a b = some r) (ha : C1 K a a') (hb : C1 K b b') : eqCell a' b' = some r := by
  unfold eqCell at h
  split at h
  · have e1 := RV_bool.1 ha.rv
    have e2 := RV_bool.1 hb.rv
    subst e1; subst e2; exact h
  · have e1 := RV_int.1 ha.rv
    have e2 := RV_int.1 hb.rv
    subst e1; subst e2; exact h
  · have e1 := RV_string.1 ha.rv
    have e2 := RV_string.1 hb.rv
    subst e1; subst e2; exact h
  · simp at h
theorem eqCells_conc : ∀ {l m l' m' : List Value} {r : Bool}, eqCells l m = some r → All2 (C1 K) l l' → All2 (C1 K) m m' → eqCells l' m' = some r
  | [], [], [], [], _, h, _, _ => h
  | [], [], _ :: _, _, _, _, h, _ => h.elim
  | [], [], [], _ :: _, _, _, _, h => h.elim
  | [], _ :: _, _, _, _, h, _, _ => by simp [eqCells] at h
  | _ :: _, [], _, _, _, h, _, _ => by simp [eqCells] at h
  | _ :: _, _ :: _, [], _, _, _, h, _ => h.elim
  | _ :: _, _ :: _, _ :: _, [], _, _, _, h => h.elim
  | a :: l, b :: m, a' :: l', b' :: m', r, h, h1, h2 => by
    simp only [eqCells] at h ⊢
    split at h
    · rename_i he
      rw [eqCell_conc he h1.1 h2.1]
      exact eqCells_conc h h1.2 h2.2
    · rename_i he
      rw [eqCell_conc he h1.1 h2.1]
      exact h
    · simp at h
theorem eqNil_run {t : TypeId} {d : TypeDesc} (hu : P.underlying t = some d) {x y cx cy : Value} {b : Bool} (h : eqNil d x y = some b) (hx : RV K x cx) (hy : RV K y cy) (n : Nat) :
    (Op.equalIn (n + 1) t cx cy).run P w = .ok b w := by
  unfold eqNil at h
  split at h
  · rw [RV_bool] at hx hy; subst hx; subst hy; simp at h; subst h
    simp only [Op.equalIn, Sem.run_bind, run_underlying hu, Result.andThen_ok, Sem.run_pure]
  · rw [RV_nilptr] at hx hy; subst hx; subst hy; simp at h; subst h
    simp only [Op.equalIn, Sem.run_bind, run_underlying hu, Result.andThen_ok, Sem.run_pure, Option.isNone_none]
  · rw [RV_nilptr] at hx; rw [RV_ptr] at hy; obtain ⟨_, _, hy⟩ := hy; subst hx; subst hy; simp at h; subst h
    simp only [Op.equalIn, Sem.run_bind, run_underlying hu, Result.andThen_ok, Sem.run_pure, Option.isNone_some]
  · rw [RV_nilptr] at hy; rw [RV_ptr] at hx; obtain ⟨_, _, hx⟩ := hx; subst hx; subst hy; simp at h; subst h
    simp only [Op.equalIn, Sem.run_bind, run_underlying hu, Result.andThen_ok, Sem.run_pure]
  · rw [RV_nilFunc] at hx hy; subst hx; subst hy; simp at h; subst h
    simp only [Op.equalIn, Sem.run_bind, run_underlying hu, Result.andThen_ok, Sem.run_pure]
  · rw [RV_nilFunc] at hy; rw [RV_func] at hx; obtain ⟨_, _, hx, _⟩ := hx; subst hx; subst hy; simp at h; subst h
    simp only [Op.equalIn, Sem.run_bind, run_underlying hu, Result.andThen_ok, Sem.run_pure]
  · rw [RV_nilFunc] at hx; rw [RV_func] at hy; obtain ⟨_, _, hy, _⟩ := hy; subst hx; subst hy; simp at h; subst h
    simp only [Op.equalIn, Sem.run_bind, run_underlying hu, Result.andThen_ok, Sem.run_pure]
  · simp at h
theorem eqNil_guard {t : TypeId} {d : TypeDesc} {x y cx cy : Value} {b : Bool} (h : eqNil d x y = some b) (hx : RV K x cx) (hy : RV K y cy) (p q : Operand) :
    (Go.eqGuard .eql t p q cx cy).run P w = .ok () w ∧ (Go.eqGuard .neq t p q cx cy).run P w = .ok () w := by
  unfold eqNil at h
  split at h
  · rw [RV_bool] at hx hy; subst hx; subst hy; simp [Go.eqGuard]
  · rw [RV_nilptr] at hx hy; subst hx; subst hy; simp [Go.eqGuard]
  · rw [RV_nilptr] at hx; rw [RV_ptr] at hy; obtain ⟨_, _, hy⟩ := hy; subst hx; subst hy; simp [Go.eqGuard]
  · rw [RV_nilptr] at hy; rw [RV_ptr] at hx; obtain ⟨_, _, hx⟩ := hx; subst hx; subst hy; simp [Go.eqGuard]
  · rw [RV_nilFunc] at hx hy; subst hx; subst hy; simp [Go.eqGuard]
  · rw [RV_nilFunc] at hy; rw [RV_func] at hx; obtain ⟨_, _, hx, _⟩ := hx; subst hx; subst hy; simp [Go.eqGuard]
  · rw [RV_nilFunc] at hx; rw [RV_func] at hy; obtain ⟨_, _, hy, _⟩ := hy; subst hx; subst hy; simp [Go.eqGuard]
  · simp at h
theorem likeC_conc {z a c : Value} (h : likeC z a = true) (hc : C1 K a c) : likeC z c = true := by
  unfold likeC at h
  split at h
  · rw [RV_int.1 hc.rv]; simpa [likeC] using h
  · rw [RV_string.1 hc.rv]; rfl
  · rw [RV_bool.1 hc.rv]; rfl
  · simp at h

theorem likeL_conc {f : Value → Value → Bool} (hf : ∀ z a c, f z a = true → C1 K a c → likeC z c = true) : ∀ {z x y : List Value}, likeL f z x = true → All2 (C1 K) x y → likeL likeC z y = true
  | [], [], [], _, _ => rfl
  | [], [], _ :: _, _, h => h.elim
  | [], _ :: _, _, h, _ => by simp [likeL] at h
  | _ :: _, [], _, h, _ => by simp [likeL] at h
  | _ :: _, _ :: _, [], _, h => h.elim
  | z :: l, a :: x, c :: y, h, hr => by
    simp only [likeL] at h ⊢
    split at h
    · rename_i e
      rw [hf _ _ _ e hr.1]
      exact likeL_conc hf h hr.2
    · simp at h

theorem fitsT_some {f : Value → Value → Bool} {E : Env} {t : Nat} {a b : List Value} (h : fitsT f E t a b = true) : ∃ i, E.flat t = true ∧ E.ti t = some i ∧ likeL f i.zero a = true ∧ likeL f i.zero b = true := by
  unfold fitsT at h
  split at h
  · rename_i i h1 h2
    simp only [Bool.and_eq_true] at h
    exact ⟨i, h1, h2, h.1, h.2⟩
  · simp at h

theorem eqVals_run (hE : EnvOK P E) {t : TypeId} {x y cx cy : Value} {b : Bool} (h : eqVals E t x y = some b) (hx : RV K x cx) (hy : RV K y cy) :
    (Op.equal t cx cy).run P w = .ok b w ∧
    (∀ p q, (Go.eqGuard .eql t p q cx cy).run P w = .ok () w ∧ (Go.eqGuard .neq t p q cx cy).run P w = .ok () w) := by
  unfold eqVals at h
  split at h
  · rename_i l m
    split at h
    · rename_i hf
      obtain ⟨l', rfl, h1⟩ := RV_agg.1 hx
      obtain ⟨m', rfl, h2⟩ := RV_agg.1 hy
      obtain ⟨i, f1, f2, f3, f4⟩ := fitsT_some hf
      have hfl := hE.flat t i f1 f2 l' m' b (likeL_conc (fun _ _ _ => likeC_conc) f3 h1) (likeL_conc (fun _ _ _ => likeC_conc) f4 h2) (eqCells_conc h h1 h2)
      exact ⟨(hfl (.tmp 0) (.tmp 0) w).2.2, fun p q => ⟨(hfl p q w).1, (hfl p q w).2.1⟩⟩
    · simp at h
  · split at h
    · rename_i i hi
      have hu := (hE.ti t i hi).und
      exact ⟨eqNil_run w hu h hx hy 9999, fun p q => eqNil_guard w h hx hy p q⟩
    · simp at h
end eqs

end Go.Sx
