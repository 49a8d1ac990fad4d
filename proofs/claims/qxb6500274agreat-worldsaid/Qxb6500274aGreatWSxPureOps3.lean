import Derived.Test.Qxb6500274aGreatWSxPureOps2
set_option linter.unusedSimpArgs false
namespace Go.Sx
open Go Go.RowKit

def isPureB : Builtin → Bool
  | .len => true
  | .cap => true
  | .max => true
  | .min => true
  | _ => false

def isPure (E : Env) : Op → Bool
  | .move _ => true
  | .assign _ => true
  | .pick _ _ _ => true
  | .nilCheck _ => true
  | .binOp _ _ _ _ _ => true
  | .unOp _ _ _ => true
  | .makeInterface _ _ => true
  | .makeFunc _ _ _ => true
  | .fieldAddr _ _ _ => true
  | .indexAddr _ _ _ => true
  | .index _ _ _ => true
  | .extract _ _ => true
  | .sliceToArrayPointer _ _ => true
  | .typeAssert _ _ _ _ => true
  | .build _ _ => true
  | .slice _ _ _ _ _ => true
  | .convert a _ _ => match E.ti a with
    | some i => match i.desc with
      | .slice _ => false
      | _ => true
    | none => false
  | .call c => match c.callee with
    | .builtin b => isPureB b
    | _ => false
  | _ => false

section
variable {P : Program} {E : Env} {cf : CallF} {f : Operand → Value} {s : St} {L : List (Value × St)}
  {dst : Option Tmp} {type : TypeId} {pos : String} {after : Array Edge} {guard : Option (Nat × Bool)}

theorem pure_convert (hE : EnvOK P E) {a b : TypeId} {x : Operand} (hp : isPure E (.convert a b x) = true) (h : aop0 E cf (.convert a b x) f s = some L) :
    ∃ v, L = [(v, s)] ∧ PureAt P ⟨dst, .convert a b x, type, pos, after, guard⟩ f s v := by
  simp only [aop_T, aopT, aconv] at h
  split at h
  · rename_i i j hi hj
    split at h
    · rename_i k k' n hd hx
      refine ⟨_, one_eq h, fun K ρ hk hf => ⟨_, RV_plain rfl, fun w => ?_⟩⟩
      have h1 := hf x (by simp [Op.operands])
      rw [hx, RV_int] at h1
      have hu := (hE.ti b j hj).run_und w
      rw [hd] at hu
      simp [execOp, convert, (hE.ti a i hi).run_und w, hu, h1, Conv.intToInt]
    · rename_i k n t sh hd hx
      split at h
      · rename_i v hv
        refine ⟨_, one_eq h, fun K ρ hk hf => ?_⟩
        have h1 := hf x (by simp [Op.operands])
        rw [hx] at h1
        unfold symConv at hv
        split at hv
        · rename_i k1 k2 e1 hk2
          injection e1 with e1
          subst e1
          obtain ⟨m, h2, h3, _⟩ := kindI_RV hk2 h1
          rw [h2] at h3
          simp at hv; subst hv
          refine ⟨.int k (k.wrap m), known_sound hk (RV_symInt (wrap_wrap _ _) (Den_snoc1 h3 (fun st => by simp [tokOp, kindOf_N]))), fun w => ?_⟩
          have hu := (hE.ti b j hj).run_und w
          rw [hd] at hu
          simp [execOp, convert, (hE.ti a i hi).run_und w, hu, h2, Conv.intToInt]
        · simp at hv
      · simp at h
    · rename_i st hd hx
      refine ⟨_, one_eq h, fun K ρ hk hf => ⟨_, RV_plain rfl, fun w => ?_⟩⟩
      have h1 := hf x (by simp [Op.operands])
      rw [hx, RV_string] at h1
      have hu := (hE.ti b j hj).run_und w
      rw [hd] at hu
      simp [execOp, convert, (hE.ti a i hi).run_und w, hu, h1]
    · rename_i n t sh hd hx
      split at h
      · rename_i m hd0 hm
        refine ⟨_, one_eq h, fun K ρ hk hf => ?_⟩
        have h1 := hf x (by simp [Op.operands])
        rw [hx] at h1
        obtain ⟨ss, h2, _, _⟩ := mostS_RV hm h1
        refine ⟨_, h1, fun w => ?_⟩
        have hu := (hE.ti b j hj).run_und w
        rw [hd] at hu
        simp [execOp, convert, (hE.ti a i hi).run_und w, hu, h2]
      · simp at h
    · rename_i e a' n cp hd1 hd2 hx
      simp [isPure, hi, hd1] at hp
    · simp at h
  · simp at h

theorem pure_builtin (hE : EnvOK P E) {c : Call} {b : Builtin} (hc : c.callee = .builtin b) (hb : isPureB b = true) (h : aop0 E cf (.call c) f s = some L) :
    ∃ v, L = [(v, s)] ∧ PureAt P ⟨dst, .call c, type, pos, after, guard⟩ f s v := by
  simp only [aop_T, aopT, acall, hc] at h
  have hops : ∀ x, x ∈ c.args.toList → x ∈ (Op.call c).operands := fun x hx => by simp [Op.operands, Call.operands, hc]; simpa using hx
  have hrel : ∀ (K : Kx) (ρ : Operand → Value), (∀ x, x ∈ (Op.call c).operands → RV K (f x) (ρ x)) → All2 (RV K) (c.args.toList.map f) (c.args.map ρ).toList := by
    intro K ρ hf
    rw [Array.toList_map]
    exact All2.map _ _ _ (fun x hx => hf x (hops x hx))
  have hexec : ∀ (ρ : Operand → Value) (w : World), ∃ cst : Array Bool, (execOp ρ ⟨dst, .call c, type, pos, after, guard⟩).run P w =
      (builtin b c.argTypes type cst (c.args.map ρ)).run P w := by
    intro ρ w
    exact ⟨_, by simp only [execOp, resolve, hc, invoke, Sem.run_bind, Sem.run_pure, Result.andThen_ok]; rfl⟩
  have hone : ∀ (K : Kx) (ρ : Operand → Value) (x : Value), All2 (RV K) [x] (c.args.map ρ).toList → ∃ cx, c.args.map ρ = #[cx] ∧ RV K x cx := by
    intro K ρ x hr
    have hl := hr.length
    cases hcs : (c.args.map ρ).toList with
    | nil => rw [hcs] at hl; simp at hl
    | cons y ys =>
      cases ys with
      | nil => rw [hcs] at hr; exact ⟨y, by apply Array.ext'; rw [hcs], hr.1⟩
      | cons _ _ => rw [hcs] at hl; simp at hl
  have htwo : ∀ (K : Kx) (ρ : Operand → Value) (x y : Value), All2 (RV K) [x, y] (c.args.map ρ).toList → ∃ cx cy, c.args.map ρ = #[cx, cy] ∧ RV K x cx ∧ RV K y cy := by
    intro K ρ x y hr
    have hl := hr.length
    cases hcs : (c.args.map ρ).toList with
    | nil => rw [hcs] at hl; simp at hl
    | cons u us =>
      cases us with
      | nil => rw [hcs] at hl; simp at hl
      | cons v vs =>
        cases vs with
        | nil => rw [hcs] at hr; exact ⟨u, v, by apply Array.ext'; rw [hcs], hr.1, hr.2.1⟩
        | cons _ _ => rw [hcs] at hl; simp at hl
  unfold abuiltin at h
  split at h
  · rename_i t x hts hxs
    split at h
    · rename_i v hv
      refine ⟨_, one_eq h, fun K ρ hk hf => ?_⟩
      suffices hh : ∃ c_1, RV K v c_1 ∧ ∀ (w : World), (execOp ρ ⟨dst, .call c, type, pos, after, guard⟩).run P w = .ok (.value c_1) w by
        obtain ⟨d, hd1, hd2⟩ := hh
        exact ⟨d, known_sound hk hd1, hd2⟩
      have hr := hrel K ρ hf
      rw [hxs] at hr
      unfold alen at hv
      split at hv
      · simp at hv
      · rename_i i hi
        have hti := hE.ti t i hi
        have hts' : c.argTypes = #[t] := by apply Array.ext'; rw [hts]
        obtain ⟨cx, hcx, hcr⟩ := hone K ρ x hr
        split at hv
        · rename_i st hd
          rw [RV_string] at hcr
          simp at hv
          subst hv
          refine ⟨_, RV_plain rfl, fun w => ?_⟩
          have hu := hti.run_und w
          rw [hd] at hu
          obtain ⟨cst, hcst⟩ := hexec ρ w
          rw [hcst]
          simp [builtin, Builtin.len_, hts', hcx, hu, hcr, goInt]
        · rename_i n tt sh hd
          split at hv
          · rename_i m hm
            split at hv
            · rename_i hle
              have hle := Nat.le_of_ble_eq_true hle
              simp at hv
              subst hv
              obtain ⟨ss, h2, h3, h4⟩ := mostS_RV hm hcr
              rw [h2] at h4
              refine ⟨.int .i64 ss.data.toList.length, RV_symInt ((wrap_range _ _).2 ?_) (Den_snoc1 h4 (fun st => by simp [tokOp])), fun w => ?_⟩
              · have e1 : IntKind.i64.min = -9223372036854775808 := by decide
                have e2 : IntKind.i64.max = 9223372036854775807 := by decide
                omega
              · have hu := hti.run_und w
                rw [hd] at hu
                obtain ⟨cst, hcst⟩ := hexec ρ w
                rw [hcst]
                simp [builtin, Builtin.len_, hts', hcx, hu, h2, goInt]
            · simp at hv
          · simp at hv
        · rename_i n e hd
          simp at hv
          subst hv
          refine ⟨_, RV_plain rfl, fun w => ?_⟩
          have hu := hti.run_und w
          rw [hd] at hu
          obtain ⟨cst, hcst⟩ := hexec ρ w
          rw [hcst]
          simp only [builtin, Builtin.len_, hts', hcx, List.getElem?_toArray, List.getElem?_cons_zero, Sem.run_bind, hu, Result.andThen_ok, Sem.run_pure, goInt]
        · rename_i e a n cp hd
          simp at hv
          subst hv
          refine ⟨_, RV_plain rfl, fun w => ?_⟩
          have hu := hti.run_und w
          rw [hd] at hu
          obtain ⟨cst, hcst⟩ := hexec ρ w
          rw [hcst]
          cases a with
          | none => rw [RV_nilslice] at hcr; simp [builtin, Builtin.len_, hts', hcx, hu, hcr, goInt]
          | some a =>
            obtain ⟨_, _, k', hcr⟩ := RV_sliceAny hcr
            simp [builtin, Builtin.len_, hts', hcx, hu, hcr, goInt]
        · rename_i n tt sh hd
          split at hv
          · rename_i hs
            simp at hv
            subst hv
            rw [RV_sym, hs] at hcr
            obtain ⟨i', a', l', k', q1, q2, q3, q4⟩ := hcr
            rw [q1]
            refine ⟨.int .i64 l', RV_symInt ((wrap_range _ _).2 ?_) (fun st => ?_), fun w => ?_⟩
            · have e1 : IntKind.i64.min = -9223372036854775808 := by decide
              have e2 : IntKind.i64.max = 9223372036854775807 := by decide
              omega
            · simp [rpn, tok1, tokOp, ← q2, q3]
            · have hu := hti.run_und w
              rw [hd] at hu
              obtain ⟨cst, hcst⟩ := hexec ρ w
              rw [hcst]
              simp [builtin, Builtin.len_, hts', hcx, hu, q3, goInt]
          · simp at hv
        · simp at hv
    · simp at h
  · rename_i t x hts hxs
    split at h
    · rename_i v hv
      refine ⟨v, one_eq h, fun K ρ hk hf => ?_⟩
      have hr := hrel K ρ hf
      rw [hxs] at hr
      obtain ⟨cx, hcx, hcr⟩ := hone K ρ x hr
      have hts' : c.argTypes = #[t] := by apply Array.ext'; rw [hts]
      unfold acap at hv
      split at hv
      · simp at hv
      · rename_i i hi
        split at hv
        · rename_i e a n cp hd
          split at hv
          · simp at hv
          · rename_i hcp
            simp at hv
            subst hv
            have hcpne : cp ≠ capU := fun e => by rw [e, Nat.beq_refl] at hcp; simp at hcp
            refine ⟨_, RV_plain rfl, fun w => ?_⟩
            have hu := (hE.ti t i hi).run_und w
            rw [hd] at hu
            obtain ⟨cst, hcst⟩ := hexec ρ w
            rw [hcst]
            cases a with
            | none => rw [RV_nilslice] at hcr; simp [builtin, Builtin.cap_, hts', hcx, hu, hcr, goInt]
            | some a =>
              rw [RV_slice hcpne] at hcr
              simp [builtin, Builtin.cap_, hts', hcx, hu, hcr.2.2, goInt]
        · simp at hv
    · simp at h
  · simp [isPureB] at hb
  · simp [isPureB] at hb
  · simp [isPureB] at hb
  · split at h
    · rename_i v hv
      refine ⟨v, one_eq h, fun K ρ hk hf => ?_⟩
      have hr := hrel K ρ hf
      unfold amax at hv
      split at hv
      · rename_i k a k' b heq
        rw [heq] at hr
        obtain ⟨cx, cy, hcx, h1, h2⟩ := htwo K ρ _ _ hr
        rw [RV_int] at h1 h2
        simp at hv
        subst hv
        refine ⟨_, RV_plain rfl, fun w => ?_⟩
        obtain ⟨cst, hcst⟩ := hexec ρ w
        rw [hcst]
        simp [builtin, Builtin.max_, hcx, h1, h2, Builtin.max2]
      · simp at hv
    · split at h
      · rename_i v hv
        refine ⟨_, one_eq h, fun K ρ hk hf => ?_⟩
        have hr := hrel K ρ hf
        unfold symMax at hv
        split at hv
        · rename_i x y heq
          rw [heq] at hr
          obtain ⟨cx, cy, hcx, h1, h2⟩ := htwo K ρ _ _ hr
          split at hv
          · rename_i k k' hk1 hk2
            split at hv
            · rename_i he
              simp only [Bool.and_eq_true, decide_eq_true_eq] at he
              obtain ⟨rfl, he1, he2⟩ := he
              obtain ⟨m, g1, g2, g3⟩ := kindI_RV hk1 h1
              obtain ⟨n, g4, g5, g6⟩ := kindI_RV hk2 h2
              rw [g1] at g2
              rw [g4] at g5
              simp at hv; subst hv
              refine ⟨.int k (if n > m then n else m), known_sound hk (RV_symInt (by split; exact g6 he2; exact g3 he1) (fun st => ?_)), fun w => ?_⟩
              · rw [rpn_append, g2, Option.bind_some, rpn_append, g5, Option.bind_some]
                simp [rpn, tok1, tokOp]
              · obtain ⟨cst, hcst⟩ := hexec ρ w
                rw [hcst]
                simp [builtin, Builtin.max_, hcx, g1, g4, Builtin.max2]
            · simp at hv
          · simp at hv
        · simp at hv
      · simp at h
  · split at h
    · rename_i v hv
      refine ⟨v, one_eq h, fun K ρ hk hf => ?_⟩
      have hr := hrel K ρ hf
      unfold amax at hv
      split at hv
      · rename_i k a k' b heq
        rw [heq] at hr
        obtain ⟨cx, cy, hcx, h1, h2⟩ := htwo K ρ _ _ hr
        rw [RV_int] at h1 h2
        simp at hv
        subst hv
        refine ⟨_, RV_plain rfl, fun w => ?_⟩
        obtain ⟨cst, hcst⟩ := hexec ρ w
        rw [hcst]
        simp [builtin, Builtin.min_, hcx, h1, h2, Builtin.min2]
      · simp at hv
    · split at h
      · rename_i v hv
        refine ⟨_, one_eq h, fun K ρ hk hf => ?_⟩
        have hr := hrel K ρ hf
        unfold symMax at hv
        split at hv
        · rename_i x y heq
          rw [heq] at hr
          obtain ⟨cx, cy, hcx, h1, h2⟩ := htwo K ρ _ _ hr
          split at hv
          · rename_i k k' hk1 hk2
            split at hv
            · rename_i he
              simp only [Bool.and_eq_true, decide_eq_true_eq] at he
              obtain ⟨rfl, he1, he2⟩ := he
              obtain ⟨m, g1, g2, g3⟩ := kindI_RV hk1 h1
              obtain ⟨n, g4, g5, g6⟩ := kindI_RV hk2 h2
              rw [g1] at g2
              rw [g4] at g5
              simp at hv; subst hv
              refine ⟨.int k (if n < m then n else m), known_sound hk (RV_symInt (by split; exact g6 he2; exact g3 he1) (fun st => ?_)), fun w => ?_⟩
              · rw [rpn_append, g2, Option.bind_some, rpn_append, g5, Option.bind_some]
                simp [rpn, tok1, tokOp]
              · obtain ⟨cst, hcst⟩ := hexec ρ w
                rw [hcst]
                simp [builtin, Builtin.min_, hcx, g1, g4, Builtin.min2]
            · simp at hv
          · simp at hv
        · simp at hv
      · simp at h
  · simp at h

theorem aop0_pure (hE : EnvOK P E) {o : Oper} (hp : isPure E o.op = true) (h : aop0 E cf o.op f s = some L) :
    ∃ v, L = [(v, s)] ∧ PureAt P o f s v := by
  obtain ⟨dst, op, type, pos, after, guard⟩ := o
  cases op <;> simp only [isPure, Bool.false_eq_true] at hp
  case move => exact pure_move h
  case assign => exact pure_assign h
  case pick => exact pure_pick h
  case nilCheck => exact pure_nilCheck h
  case binOp => exact pure_binOp hE h
  case unOp => exact pure_unOp h
  case makeInterface => exact pure_makeInterface hE h
  case makeFunc => exact pure_makeFunc h
  case fieldAddr => exact pure_fieldAddr hE h
  case indexAddr => exact pure_indexAddr hE h
  case index => exact pure_index hE h
  case extract => exact pure_extract h
  case sliceToArrayPointer => exact pure_sliceToArrayPointer hE h
  case typeAssert => exact pure_typeAssert hE h
  case build => exact pure_build hE h
  case slice => exact pure_slice hE h
  case convert => exact pure_convert hE hp h
  case call c =>
    cases hc : c.callee with
    | builtin b => rw [hc] at hp; exact pure_builtin hE hc hp h
    | value _ => rw [hc] at hp; simp at hp
    | invoke _ _ => rw [hc] at hp; simp at hp
end
end Go.Sx
