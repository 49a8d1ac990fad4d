import Derived.Test.Qxb6500274aGreatWSxSym
set_option linter.unusedSimpArgs false
namespace Go.Sx
open Go Go.RowKit

def PureAt (P : Program) (o : Oper) (f : Operand → Value) (s : St) (v : Value) : Prop :=
  ∀ (K : Kx) (ρ : Operand → Value), KOK K s → (∀ x, x ∈ o.op.operands → RV K (f x) (ρ x)) → ∃ c, RV K v c ∧ ∀ w, (execOp ρ o).run P w = .ok (.value c) w

theorem one_eq {v : Value} {s : St} {L : List (Value × St)} (h : one v s = some L) : L = [(v, s)] := by
  simp [one] at h; exact h.symm

section
variable {P : Program} {E : Env} {cf : CallF} {f : Operand → Value} {s : St} {L : List (Value × St)}
  {dst : Option Tmp} {type : TypeId} {pos : String} {after : Array Edge} {guard : Option (Nat × Bool)}

theorem pure_move {x : Operand} (h : aop0 E cf (.move x) f s = some L) : ∃ v, L = [(v, s)] ∧ PureAt P ⟨dst, .move x, type, pos, after, guard⟩ f s v := by
  refine ⟨f x, one_eq h, fun K ρ hk hf => ⟨ρ x, hf x (by simp [Op.operands]), fun w => ?_⟩⟩
  simp [execOp]

theorem pure_assign {x : Operand} (h : aop0 E cf (.assign x) f s = some L) : ∃ v, L = [(v, s)] ∧ PureAt P ⟨dst, .assign x, type, pos, after, guard⟩ f s v := by
  refine ⟨f x, one_eq h, fun K ρ hk hf => ⟨ρ x, hf x (by simp [Op.operands]), fun w => ?_⟩⟩
  simp [execOp]

theorem pure_pick {c a b : Operand} (h : aop0 E cf (.pick c a b) f s = some L) : ∃ v, L = [(v, s)] ∧ PureAt P ⟨dst, .pick c a b, type, pos, after, guard⟩ f s v := by
  simp only [aop_T, aopT] at h
  split at h
  · rename_i hc
    refine ⟨f a, one_eq h, fun K ρ hk hf => ⟨ρ a, hf a (by simp [Op.operands]), fun w => ?_⟩⟩
    have h1 := truth_sound hk hc (hf c (by simp [Op.operands]))
    simp [execOp, h1, asBool]
  · rename_i hc
    refine ⟨f b, one_eq h, fun K ρ hk hf => ⟨ρ b, hf b (by simp [Op.operands]), fun w => ?_⟩⟩
    have h1 := truth_sound hk hc (hf c (by simp [Op.operands]))
    simp [execOp, h1, asBool]
  · simp at h

theorem pure_nilCheck {x : Operand} (h : aop0 E cf (.nilCheck x) f s = some L) : ∃ v, L = [(v, s)] ∧ PureAt P ⟨dst, .nilCheck x, type, pos, after, guard⟩ f s v := by
  simp only [aop_T, aopT] at h
  split at h
  · rename_i a hx
    refine ⟨_, one_eq h, fun K ρ hk hf => ⟨ρ x, by rw [← hx]; exact hf x (by simp [Op.operands]), fun w => ?_⟩⟩
    have h1 := hf x (by simp [Op.operands])
    rw [hx, RV_ptr] at h1
    simp [execOp, h1.2.2]
  · rename_i g a b hx
    refine ⟨_, one_eq h, fun K ρ hk hf => ⟨ρ x, by rw [← hx]; exact hf x (by simp [Op.operands]), fun w => ?_⟩⟩
    have h1 := hf x (by simp [Op.operands])
    rw [hx, RV_func] at h1
    obtain ⟨x', y', h1, _⟩ := h1
    simp [execOp, h1]
  · rename_i t v hx
    refine ⟨_, one_eq h, fun K ρ hk hf => ⟨ρ x, by rw [← hx]; exact hf x (by simp [Op.operands]), fun w => ?_⟩⟩
    have h1 := hf x (by simp [Op.operands])
    rw [hx, RV_iface] at h1
    obtain ⟨x', h1, _⟩ := h1
    simp [execOp, h1]
  · simp at h

theorem eqVals_bin {t : TypeId} {x y cx cy : Value} {b : Bool} {K : Kx} (h : eqVals E t x y = some b) (hx : RV K x cx) (hy : RV K y cy) :
    binOp .eql t cx cy = (do pure (.bool (← Op.equal t cx cy))) ∧ binOp .neq t cx cy = (do pure (.bool (!(← Op.equal t cx cy)))) := by
  unfold eqVals at h
  split at h
  · obtain ⟨l', rfl, _⟩ := RV_agg.1 hx
    obtain ⟨m', rfl, _⟩ := RV_agg.1 hy
    exact ⟨rfl, rfl⟩
  · split at h
    · unfold eqNil at h
      split at h
      · rw [RV_bool] at hx hy; subst hx; subst hy; exact ⟨rfl, rfl⟩
      · rw [RV_nilptr] at hx hy; subst hx; subst hy; exact ⟨rfl, rfl⟩
      · rw [RV_nilptr] at hx; rw [RV_ptr] at hy; obtain ⟨_, _, hy⟩ := hy; subst hx; subst hy; exact ⟨rfl, rfl⟩
      · rw [RV_nilptr] at hy; rw [RV_ptr] at hx; obtain ⟨_, _, hx⟩ := hx; subst hx; subst hy; exact ⟨rfl, rfl⟩
      · rw [RV_nilFunc] at hx hy; subst hx; subst hy; exact ⟨rfl, rfl⟩
      · rw [RV_nilFunc] at hy; rw [RV_func] at hx; obtain ⟨_, _, hx, _⟩ := hx; subst hx; subst hy; exact ⟨rfl, rfl⟩
      · rw [RV_nilFunc] at hx; rw [RV_func] at hy; obtain ⟨_, _, hy, _⟩ := hy; subst hx; subst hy; exact ⟨rfl, rfl⟩
      · simp at h
    · simp at h

theorem guard_int (op : BinOp) (t : TypeId) (p q : Operand) (k k' : IntKind) (a b : Int) (w : World) : (Go.eqGuard op t p q (.int k a) (.int k' b)).run P w = .ok () w := by
  unfold Go.eqGuard; cases op <;> simp
theorem guard_string (op : BinOp) (t : TypeId) (p q : Operand) (a b : ByteArray) (w : World) : (Go.eqGuard op t p q (.string a) (.string b)).run P w = .ok () w := by
  unfold Go.eqGuard; cases op <;> simp

theorem abin_run (hE : EnvOK P E) {t : TypeId} {op : BinOp} {x y cx cy v : Value} {K : Kx} (h : abin E t op x y = some v) (hx : RV K x cx) (hy : RV K y cy) (p q : Operand) (w : World) :
    (do Go.eqGuard op t p q cx cy; binOp op t cx cy : Sem Value).run P w = .ok v w ∧ plain v = true := by
  unfold abin at h
  split at h
  · rw [RV_int] at hx hy; subst hx; subst hy
    have := ishift_run (P := P) w (k' := by assumption) h t
    simpa [Go.eqGuard] using this
  · rw [RV_int] at hx hy; subst hx; subst hy
    have := ishift_run (P := P) w (k' := by assumption) h t
    simpa [Go.eqGuard] using this
  · rename_i h1 h2
    rw [RV_int] at hx hy; subst hx; subst hy
    split at h
    · rename_i hk
      subst hk
      have hs1 : op ≠ .shl := fun e => h1 e
      have hs2 : op ≠ .shr := fun e => h2 e
      obtain ⟨h3, h4⟩ := ibin_run (P := P) w h hs1 hs2 t
      refine ⟨?_, h4⟩
      simp only [Sem.run_bind, guard_int, Result.andThen_ok, h3]
    · simp at h
  · rw [RV_string] at hx hy; subst hx; subst hy
    obtain ⟨h3, h4⟩ := sbin_run (P := P) w h t
    refine ⟨?_, h4⟩
    simp only [Sem.run_bind, guard_string, Result.andThen_ok, h3]
  · split at h
    · rename_i b hb
      simp at h
      subst h
      obtain ⟨h3, h4⟩ := eqVals_run w hE hb hx hy
      simp only [Sem.run_bind, (h4 p q).1, (eqVals_bin hb hx hy).1, Result.andThen_ok, h3, Sem.run_pure, plain, and_self]
    · simp at h
  · split at h
    · rename_i b hb
      simp at h
      subst h
      obtain ⟨h3, h4⟩ := eqVals_run w hE hb hx hy
      simp only [Sem.run_bind, (h4 p q).2, (eqVals_bin hb hx hy).2, Result.andThen_ok, h3, Sem.run_pure, plain, and_self]
    · simp at h
  · simp at h

theorem pure_binOp (hE : EnvOK P E) {op : BinOp} {t t' : TypeId} {x y : Operand} (h : aop0 E cf (.binOp op t x y t') f s = some L) :
    ∃ v, L = [(v, s)] ∧ PureAt P ⟨dst, .binOp op t x y t', type, pos, after, guard⟩ f s v := by
  simp only [aop_T, aopT] at h
  split at h
  · rename_i v hv
    refine ⟨v, one_eq h, fun K ρ hk hf => ⟨v, ?_, fun w => ?_⟩⟩
    · exact RV_plain (abin_run hE hv (hf x (by simp [Op.operands])) (hf y (by simp [Op.operands])) x y default).2
    · have h1 := (abin_run hE hv (hf x (by simp [Op.operands])) (hf y (by simp [Op.operands])) x y w).1
      simp only [execOp, Sem.run_bind] at h1 ⊢
      rw [h1]
      rfl
  · split at h
    · rename_i v hv
      refine ⟨_, one_eq h, fun K ρ hk hf => ?_⟩
      obtain ⟨c, h1, h2⟩ := symBin_sound hk hv (hf x (by simp [Op.operands])) (hf y (by simp [Op.operands]))
      refine ⟨c, known_sound hk h2, fun w => ?_⟩
      have h1 := binV_run (P := P) h1 t x y w
      simp only [execOp, Sem.run_bind] at h1 ⊢
      rw [h1]
      rfl
    · split at h
      · rename_i v hv
        refine ⟨_, one_eq h, fun K ρ hk hf => ?_⟩
        obtain ⟨c, h1, h2⟩ := symAgg_run hE hk hv (hf x (by simp [Op.operands])) (hf y (by simp [Op.operands]))
        refine ⟨c, h1, fun w => ?_⟩
        have h1 := h2 x y w
        simp only [execOp, Sem.run_bind] at h1 ⊢
        rw [h1]
        rfl
      · simp at h

theorem pure_unOp {op : UnOp} {t : TypeId} {x : Operand} (h : aop0 E cf (.unOp op t x) f s = some L) :
    ∃ v, L = [(v, s)] ∧ PureAt P ⟨dst, .unOp op t x, type, pos, after, guard⟩ f s v := by
  simp only [aop_T, aopT] at h
  split at h
  · rename_i v hv
    refine ⟨v, one_eq h, fun K ρ hk hf => ?_⟩
    have h1 := hf x (by simp [Op.operands])
    unfold aun at hv
    split at hv
    · rename_i hx
      rw [hx, RV_int] at h1
      simp only [ibin, Option.some.injEq] at hv
      subst hv
      exact ⟨_, RV_plain rfl, fun w => by simp [execOp, h1, Op.unary, Op.intArith]⟩
    · rename_i hx
      rw [hx, RV_int] at h1
      simp only [ibin, Option.some.injEq] at hv
      subst hv
      exact ⟨_, RV_plain rfl, fun w => by simp only [execOp, h1, Op.unary, Op.intBits, Sem.run_bind, Sem.run_pure, Result.andThen_ok]⟩
    · rename_i hx
      rw [hx, RV_bool] at h1
      simp at hv
      subst hv
      exact ⟨_, RV_plain rfl, fun w => by simp [execOp, h1, Op.unary]⟩
    · simp at hv
  · split at h
    · rename_i v hv
      refine ⟨_, one_eq h, fun K ρ hk hf => ?_⟩
      have h1 := hf x (by simp [Op.operands])
      unfold symUn at hv
      split at hv
      · split at hv
        · rename_i tt ht
          obtain ⟨b, h2, h3⟩ := boolS_RV ht h1
          rw [h2] at h3
          simp at hv; subst hv
          exact ⟨_, known_sound hk (RV_symBool (Den_snoc1 (d := .bool (!b)) h3 (fun st => by simp [tokOp]))), fun w => by simp [execOp, h2, Op.unary]⟩
        · simp at hv
      · split at hv
        · rename_i k hki
          obtain ⟨n, h2, h3, _⟩ := kindI_RV hki h1
          rw [h2] at h3
          simp at hv; subst hv
          have hb : binV .xor (.int k (if k.signed then -1 else k.max)) (.int k n) = some (.int k (k.wrap (BitVec.ofInt k.bits (if k.signed then -1 else k.max) ^^^ BitVec.ofInt k.bits n).toNat)) := by simp only [binV, ibin, if_true]
          exact ⟨_, known_sound hk (RV_symInt (wrap_wrap _ _) (Den_bin (x := [.int k (if k.signed then -1 else k.max)]) (Den_int _ _) h3 hb)), fun w => by simp only [execOp, h2, Op.unary, Op.intBits, Sem.run_bind, Sem.run_pure, Result.andThen_ok]⟩
        · simp at hv
      · split at hv
        · rename_i k hki
          obtain ⟨n, h2, h3, _⟩ := kindI_RV hki h1
          rw [h2] at h3
          simp at hv; subst hv
          have hb : binV .sub (.int k 0) (.int k n) = some (.int k (k.wrap (0 - n))) := by simp only [binV, ibin, if_true]
          exact ⟨_, known_sound hk (RV_symInt (wrap_wrap _ _) (Den_bin (x := [.int k 0]) (Den_int _ _) h3 hb)), fun w => by simp [execOp, h2, Op.unary, Op.intArith]⟩
        · simp at hv
      · simp at hv
    · simp at h

theorem pure_makeInterface (hE : EnvOK P E) {t : TypeId} {x : Operand} (h : aop0 E cf (.makeInterface t x) f s = some L) :
    ∃ v, L = [(v, s)] ∧ PureAt P ⟨dst, .makeInterface t x, type, pos, after, guard⟩ f s v := by
  simp only [aop_T, aopT] at h
  split at h
  · rename_i i hok hi
    split at h
    · simp at h
    · rename_i hd
      refine ⟨_, one_eq h, fun K ρ hk hf => ⟨.iface t (ρ x), ?_, fun w => ?_⟩⟩
      · rw [RV_iface]
        exact ⟨_, rfl, RV_CI (hf x (by simp [Op.operands])) hok⟩
      · simp only [execOp, Instr.makeInterface, Sem.run_bind, (hE.ti t i hi).run_und w, Result.andThen_ok]
        cases hdd : i.desc
        case interface m => exact absurd hdd (hd m)
        all_goals rfl
  · simp at h

theorem pure_makeFunc {g : Fn} {a b : Array Operand} (h : aop0 E cf (.makeFunc g a b) f s = some L) :
    ∃ v, L = [(v, s)] ∧ PureAt P ⟨dst, .makeFunc g a b, type, pos, after, guard⟩ f s v := by
  simp only [aop_T, aopT] at h
  split at h
  · rename_i g hok
    simp only [Bool.and_eq_true, List.all_eq_true] at hok
    refine ⟨_, one_eq h, fun K ρ hk hf => ⟨.func (.func g) (a.map ρ) (b.map ρ), ?_, fun w => ?_⟩⟩
    · rw [RV_func]
      refine ⟨_, _, rfl, ?_, ?_⟩
      · rw [Array.toList_map]
        exact All2.map _ _ _ (fun x hx => RV_C0 (hf x (by simp [Op.operands]; exact Or.inl (by simpa using hx))) (hok.1 _ (List.mem_map.2 ⟨x, hx, rfl⟩)))
      · rw [Array.toList_map]
        exact All2.map _ _ _ (fun x hx => RV_C0 (hf x (by simp [Op.operands]; exact Or.inr (by simpa using hx))) (hok.2 _ (List.mem_map.2 ⟨x, hx, rfl⟩)))
    · simp [execOp, Instr.makeFunc]
  · simp at h

theorem add_addr (b o n : Nat) : (⟨b, o, none⟩ : Addr).add n = ⟨b, o + n, none⟩ := by unfold Addr.add; split <;> simp_all

theorem pure_fieldAddr (hE : EnvOK P E) {t : TypeId} {x : Operand} {fd : Nat} (h : aop0 E cf (.fieldAddr t x fd) f s = some L) :
    ∃ v, L = [(v, s)] ∧ PureAt P ⟨dst, .fieldAddr t x fd, type, pos, after, guard⟩ f s v := by
  simp only [aop_T, aopT] at h
  split at h
  · rename_i i a hi hx
    split at h
    · rename_i fs hd
      split at h
      · rename_i g hg
        refine ⟨_, one_eq h, fun K ρ hk hf => ?_⟩
        have h1 := hf x (by simp [Op.operands])
        rw [hx, RV_ptr] at h1
        obtain ⟨h2, h3, h4⟩ := h1
        refine ⟨.pointer (some ⟨K.bl a.block, a.off + g.offset, none⟩), ?_, fun w => ?_⟩
        · rw [RV_ptr]; exact ⟨rfl, h3, rfl⟩
        · obtain ⟨inf, hinf, hsz⟩ := hE.fld t i fs fd g hi hd hg
          have hg' : fs[fd]? = some g := by rw [← Array.getElem?_toList]; exact hg
          have hrs : (Go.sizeOf g.type).run P w = .ok inf.size w := by simp [Go.sizeOf, Go.typeInfo, hinf]
          have hu := (hE.ti t i hi).run_und w
          rw [hd] at hu
          simp only [execOp, Instr.fieldAt, Sem.run_bind, hu, Result.andThen_ok, hg', h4, Instr.sureAddr, Sem.run_pure, fieldPlace, hrs, Sem.run_ite, if_neg hsz, add_addr]
      · simp at h
    · simp at h
  · simp at h

theorem natOf_some {x : Value} {n : Nat} (h : natOf x = some n) : ∃ k, x = .int k n := by
  unfold natOf at h
  split at h
  · split at h
    · rename_i k m hm
      simp at h
      exact ⟨k, by rw [← h, Int.toNat_of_nonneg hm]⟩
    · simp at h
  · simp at h

theorem sizeOfT_some (hE : EnvOK P E) {t : TypeId} {n : Nat} (h : sizeOfT E t = some n) (w : World) : (Go.sizeOf t).run P w = .ok n w := by
  unfold sizeOfT at h
  simp only [Option.map_eq_some_iff] at h
  obtain ⟨i, h1, h2⟩ := h
  rw [← h2]
  exact (hE.ti t i h1).run_size w

theorem pure_indexAddr (hE : EnvOK P E) {t : TypeId} {x j : Operand} (h : aop0 E cf (.indexAddr t x j) f s = some L) :
    ∃ v, L = [(v, s)] ∧ PureAt P ⟨dst, .indexAddr t x j, type, pos, after, guard⟩ f s v := by
  simp only [aop_T, aopT] at h
  split at h
  · rename_i i a n hi hx hj
    obtain ⟨k, hj⟩ := natOf_some hj
    split at h
    · rename_i len e hd
      split at h
      · rename_i z hz hle
        refine ⟨_, one_eq h, fun K ρ hk hf => ?_⟩
        have h1 := hf x (by simp [Op.operands])
        have h2 := hf j (by simp [Op.operands])
        rw [hx, RV_ptr] at h1
        rw [hj, RV_int] at h2
        obtain ⟨_, h3, h4⟩ := h1
        refine ⟨.pointer (some ⟨K.bl a.block, a.off + n * z, none⟩), by rw [RV_ptr]; exact ⟨rfl, h3, rfl⟩, fun w => ?_⟩
        have hu := (hE.ti t i hi).run_und w
        rw [hd] at hu
        have hlt : (0 : Int) ≤ (n : Int) ∧ (n : Int) < (len : Int) := by
          have := Nat.le_of_ble_eq_true hle
          omega
        simp only [execOp, Instr.indexAt, Sem.run_bind, h2, h4, asIntOf, Sem.run_pure, Result.andThen_ok, hu, Instr.sureAddr, Sem.run_ite, if_pos hlt, sizeOfT_some hE hz w, Int.toNat_natCast, add_addr]
      · simp at h
    · simp at h
  · rename_i i a len cp n hi hx hj
    obtain ⟨k, hj⟩ := natOf_some hj
    split at h
    · rename_i e hd
      split at h
      · rename_i z hz hle
        refine ⟨_, one_eq h, fun K ρ hk hf => ?_⟩
        have h1 := hf x (by simp [Op.operands])
        have h2 := hf j (by simp [Op.operands])
        rw [hx] at h1
        rw [hj, RV_int] at h2
        obtain ⟨_, h3, k', h4⟩ := RV_sliceAny h1
        refine ⟨.pointer (some ⟨K.bl a.block, a.off + n * z, none⟩), by rw [RV_ptr]; exact ⟨rfl, h3, rfl⟩, fun w => ?_⟩
        have hu := (hE.ti t i hi).run_und w
        rw [hd] at hu
        have hlt : (0 : Int) ≤ (n : Int) ∧ (n : Int) < (len : Int) := by
          have := Nat.le_of_ble_eq_true hle
          omega
        simp only [execOp, Instr.indexAt, Sem.run_bind, h2, h4, asIntOf, Sem.run_pure, Result.andThen_ok, hu, Sem.run_ite, if_pos hlt, sizeOfT_some hE hz w, Int.toNat_natCast, add_addr]
      · simp at h
    · simp at h
  · simp at h

theorem pure_extract {x : Operand} {n : Nat} (h : aop0 E cf (.extract x n) f s = some L) :
    ∃ v, L = [(v, s)] ∧ PureAt P ⟨dst, .extract x n, type, pos, after, guard⟩ f s v := by
  simp only [aop_T, aopT] at h
  split at h
  · rename_i vs hx
    split at h
    · rename_i v hv
      refine ⟨_, one_eq h, fun K ρ hk hf => ?_⟩
      have h1 := hf x (by simp [Op.operands])
      rw [hx, RV_tuple] at h1
      obtain ⟨l', h2, h3⟩ := h1
      rw [getAt_eq] at hv
      obtain ⟨c, h4, h5⟩ := h3.get n hv
      have h4' : l'[n]? = some c := by rw [← Array.getElem?_toList]; exact h4
      refine ⟨c, ?_, fun w => by simp [execOp, Instr.extract, h2, h4']⟩
      exact h5.rv (fun l e => by subst e; simp [R0, C1, C0, plain] at h5)
    · simp at h
  · simp at h

theorem pure_sliceToArrayPointer (hE : EnvOK P E) {t : TypeId} {x : Operand} (h : aop0 E cf (.sliceToArrayPointer t x) f s = some L) :
    ∃ v, L = [(v, s)] ∧ PureAt P ⟨dst, .sliceToArrayPointer t x, type, pos, after, guard⟩ f s v := by
  simp only [aop_T, aopT] at h
  split at h
  · rename_i i a len cp hi hx
    split at h
    · rename_i n e hd
      split at h
      · rename_i hle
        refine ⟨_, one_eq h, fun K ρ hk hf => ?_⟩
        have h1 := hf x (by simp [Op.operands])
        rw [hx] at h1
        cases a with
        | none =>
          rw [RV_nilslice] at h1
          refine ⟨.pointer none, by rw [RV_nilptr], fun w => ?_⟩
          have hu := (hE.ti t i hi).run_und w
          rw [hd] at hu
          simp only [execOp, Instr.arrayAt, Sem.run_bind, hu, Result.andThen_ok, h1, Sem.run_ite, if_neg (Nat.not_lt.2 hle), Sem.run_pure]
        | some a =>
          obtain ⟨_, h3, k', h4⟩ := RV_sliceAny h1
          refine ⟨.pointer (some ⟨K.bl a.block, a.off, none⟩), by rw [RV_ptr]; exact ⟨by assumption, h3, rfl⟩, fun w => ?_⟩
          have hu := (hE.ti t i hi).run_und w
          rw [hd] at hu
          simp only [execOp, Instr.arrayAt, Sem.run_bind, hu, Result.andThen_ok, h4, Sem.run_ite, if_neg (Nat.not_lt.2 hle), Sem.run_pure]
      · simp at h
    · simp at h
  · simp at h

theorem pure_index (hE : EnvOK P E) {t : TypeId} {x j : Operand} (h : aop0 E cf (.index t x j) f s = some L) :
    ∃ v, L = [(v, s)] ∧ PureAt P ⟨dst, .index t x j, type, pos, after, guard⟩ f s v := by
  simp only [aop_T, aopT] at h
  split at h
  · rename_i b n i hx hj hi
    obtain ⟨k, hj⟩ := natOf_some hj
    split at h
    · rename_i hd
      split at h
      · rename_i c hc
        refine ⟨_, one_eq h, fun K ρ hk hf => ?_⟩
        have h1 := hf x (by simp [Op.operands])
        have h2 := hf j (by simp [Op.operands])
        rw [hx, RV_string] at h1
        rw [hj, RV_int] at h2
        refine ⟨byteVal c, RV_plain rfl, fun w => ?_⟩
        have hu := (hE.ti t i hi).run_und w
        rw [hd] at hu
        have hb : b[n]? = some c := by
          have hlt : n < b.data.toList.length := (List.getElem?_eq_some_iff.1 hc).1
          have hlt' : n < b.size := by simpa using hlt
          rw [getElem?_pos b n hlt']
          have : b.data.toList[n] = c := (List.getElem?_eq_some_iff.1 hc).2
          rw [← this]
          rfl
        simp only [execOp, Instr.index, Sem.run_bind, h1, h2, asIntOf, Sem.run_pure, Result.andThen_ok, hu, Int.toNat_natCast, Int.natCast_nonneg, if_true, hb, byteVal]
      · simp at h
    · simp at h
  · simp at h

theorem CI.r0 {K : Kx} {a c : Value} (h : CI K a c) : R0 K a c := by
  unfold CI at h
  split at h
  · obtain ⟨rfl, rfl⟩ := h
    exact ⟨_, rfl, trivial⟩
  · obtain ⟨rfl, rfl, rfl⟩ := h
    exact C1.r0 (show C1 K (.func (.func _) #[] #[]) (.func (.func _) #[] #[]) from ⟨_, _, rfl, trivial, trivial⟩)
  · rename_i h1 h2
    apply C1.r0
    unfold C1
    split
    · simp [C0, plain] at h
    · rename_i g x y; exact absurd rfl (h2 g x y)
    · exact h

theorem CI.rv {K : Kx} {a c : Value} (h : CI K a c) : RV K a c :=
  h.r0.rv (fun l e => by subst e; simp [CI, C0, plain] at h)

theorem pure_typeAssert (hE : EnvOK P E) {t u : TypeId} {x : Operand} {ok : Bool} (h : aop0 E cf (.typeAssert x u t ok) f s = some L) :
    ∃ v, L = [(v, s)] ∧ PureAt P ⟨dst, .typeAssert x u t ok, type, pos, after, guard⟩ f s v := by
  simp only [aop_T, aopT] at h
  split at h
  · rename_i d v hx
    split at h
    · rename_i i hi
      split at h
      · rename_i want hd
        have hu0 := (hE.ti t i hi).und
        rw [hd] at hu0
        split at h
        · rename_i _ hm
          refine ⟨_, one_eq h, fun K ρ hk hf => ?_⟩
          have h1 := hf x (by simp [Op.operands])
          rw [hx, RV_iface] at h1
          obtain ⟨v', h1, h2⟩ := h1
          refine ⟨.tuple #[.iface d v', .bool true], ?_, fun w => ?_⟩
          · rw [RV_tuple]
            exact ⟨_, rfl, C1.r0 (show C1 K (.iface d v) (.iface d v') from ⟨v', rfl, h2⟩), R0_plain rfl, trivial⟩
          · obtain ⟨inf, h3, h4⟩ := hE.impl t d true hm want hu0
            have h5 : Instr.missingMethod want inf.methods = none := by simpa using h4
            have hu := (hE.ti t i hi).run_und w
            rw [hd] at hu
            simp [execOp, Instr.typeAssert, h1, hu, Go.typeInfo, h3, h5]
        · rename_i _ hm
          refine ⟨_, one_eq h, fun K ρ hk hf => ?_⟩
          have h1 := hf x (by simp [Op.operands])
          rw [hx, RV_iface] at h1
          obtain ⟨v', h1, h2⟩ := h1
          refine ⟨.iface d v', by rw [RV_iface]; exact ⟨v', rfl, h2⟩, fun w => ?_⟩
          obtain ⟨inf, h3, h4⟩ := hE.impl t d true hm want hu0
          have h5 : Instr.missingMethod want inf.methods = none := by simpa using h4
          have hu := (hE.ti t i hi).run_und w
          rw [hd] at hu
          simp [execOp, Instr.typeAssert, h1, hu, Go.typeInfo, h3, h5]
        · rename_i _ hm
          refine ⟨_, one_eq h, fun K ρ hk hf => ?_⟩
          have h1 := hf x (by simp [Op.operands])
          rw [hx, RV_iface] at h1
          obtain ⟨v', h1, h2⟩ := h1
          refine ⟨.tuple #[zeroVal i, .bool false], ?_, fun w => ?_⟩
          · rw [RV_tuple]
            exact ⟨_, rfl, (hE.ti t i hi).r0 K, R0_plain rfl, trivial⟩
          · obtain ⟨inf, h3, h4⟩ := hE.impl t d false hm want hu0
            have hu := (hE.ti t i hi).run_und w
            rw [hd] at hu
            cases h6 : Instr.missingMethod want inf.methods with
            | none => rw [h6] at h4; simp at h4
            | some m => simp [execOp, Instr.typeAssert, h1, hu, Go.typeInfo, h3, h6, (hE.ti t i hi).run_zero w]
        · simp at h
      · rename_i hd
        have key : ∀ (c : Value) (w : World), (Instr.typeAssert (.iface d c) u t ok).run P w =
            if d = t then .ok (if ok then .tuple #[c, .bool true] else c) w else (if ok then .ok (.tuple #[zeroVal i, .bool false]) w else (Instr.typeAssert (.iface d c) u t false).run P w) := by
          intro c w
          have hu := (hE.ti t i hi).run_und w
          simp only [Instr.typeAssert, Sem.run_bind, hu, Result.andThen_ok]
          cases hdd : i.desc
          case interface m => exact absurd hdd (hd m)
          all_goals
            by_cases hdt : d = t
            · simp [hdt]
            · cases ok <;> simp [hdt, (hE.ti t i hi).run_zero w]
        split at h
        · rename_i _ hdt
          refine ⟨_, one_eq h, fun K ρ hk hf => ?_⟩
          have h1 := hf x (by simp [Op.operands])
          rw [hx, RV_iface] at h1
          obtain ⟨v', h1, h2⟩ := h1
          refine ⟨.tuple #[v', .bool true], ?_, fun w => ?_⟩
          · rw [RV_tuple]
            exact ⟨_, rfl, h2.r0, R0_plain rfl, trivial⟩
          · have hk := key v' w
            rw [if_pos (Nat.eq_of_beq_eq_true hdt)] at hk
            simp only [execOp, h1, Sem.run_bind, hk, Result.andThen_ok, if_true, Sem.run_pure]
        · rename_i _ hdt
          refine ⟨_, one_eq h, fun K ρ hk hf => ?_⟩
          have h1 := hf x (by simp [Op.operands])
          rw [hx, RV_iface] at h1
          obtain ⟨v', h1, h2⟩ := h1
          refine ⟨v', ?_, fun w => ?_⟩
          · exact h2.rv
          · have hk := key v' w
            rw [if_pos (Nat.eq_of_beq_eq_true hdt)] at hk
            simp only [execOp, h1, Sem.run_bind, hk, Result.andThen_ok, Bool.false_eq_true, if_false, Sem.run_pure]
        · rename_i _ hdt
          refine ⟨_, one_eq h, fun K ρ hk hf => ?_⟩
          have h1 := hf x (by simp [Op.operands])
          rw [hx, RV_iface] at h1
          obtain ⟨v', h1, h2⟩ := h1
          refine ⟨.tuple #[zeroVal i, .bool false], ?_, fun w => ?_⟩
          · rw [RV_tuple]
            exact ⟨_, rfl, (hE.ti t i hi).r0 K, R0_plain rfl, trivial⟩
          · have hk := key v' w
            have hne : ¬ d = t := fun e => by rw [e, Nat.beq_refl] at hdt; simp at hdt
            rw [if_neg hne] at hk
            simp only [execOp, h1, Sem.run_bind, hk, Result.andThen_ok, if_true, Sem.run_pure]
        · simp at h
    · simp at h
  · simp at h

end
end Go.Sx
