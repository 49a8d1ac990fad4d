import Derived.Test.Qxb6500274aGreatWSxOps5
set_option linter.unusedSimpArgs false
namespace Go.Sx
open Go Go.RowKit

section
variable {P : Program} {E : Env} {cf : CallF} {f ρ : Operand → Value} {s : St} {L : List (Value × St)} {n0 : Base} {w0 w : World} {K : Kx}
  {dst : Option Tmp} {type : TypeId} {pos : String} {after : Array Edge} {guard : Option (Nat × Bool)}

theorem C0.ci {a c : Value} (h : C0 K a c) : CI K a c := by
  unfold CI
  split
  · simp [C0, plain] at h
  · simp [C0, plain] at h
  · exact h

theorem C0.rv {a c : Value} (h : C0 K a c) : RV K a c := h.ci.rv

theorem OpPost.of_value {r : Result Next} {c : Value} {w' : World} (hr : r = .ok (.value c) w') (h : LPost n0 w0 K L c w') : OpPost P n0 w0 K L r := by
  subst hr; exact h

theorem eff_builtin (hE : EnvOK P E) {c : Call} {b : Builtin} (hc : c.callee = .builtin b) (hb : isPureB b = false) (hR : Rep n0 w0 K s w) (hf : ∀ y, y ∈ (Op.call c).operands → RV K (f y) (ρ y)) (h : aop0 E cf (.call c) f s = some L) :
    OpPost P n0 w0 K L ((execOp ρ ⟨dst, .call c, type, pos, after, guard⟩).run P w) := by
  simp only [aop_T, aopT, acall, hc] at h
  have hrel : All2 (RV K) (c.args.toList.map f) (c.args.map ρ).toList := by
    rw [Array.toList_map]
    refine All2.map _ _ _ (fun x hx => hf x ?_)
    simp only [Op.operands, Call.operands, hc]
    simpa using hx
  have hexec : ∃ cst : Array Bool, (execOp ρ ⟨dst, .call c, type, pos, after, guard⟩).run P w = (builtin b c.argTypes type cst (c.args.map ρ)).run P w :=
    ⟨_, by simp only [execOp, resolve, hc, invoke, Sem.run_bind, Sem.run_pure, Result.andThen_ok]; rfl⟩
  obtain ⟨cst, hcst⟩ := hexec
  rw [hcst]
  unfold abuiltin at h
  split at h
  · simp [isPureB] at hb
  · simp [isPureB] at hb
  · rename_i t u x y hts hxs
    rw [hxs] at hrel
    obtain ⟨cx, cy, hca, hx, hy⟩ := two_args hrel
    have hts' : c.argTypes = #[t, u] := by apply Array.ext'; rw [hts]
    split at h
    · rename_i i hi
      have hu2 := (hE.ti u i hi).run_und w
      split at h
      · rename_i q hd
        rw [hd] at hu2
        obtain ⟨v, w', h1, h2⟩ := eff_append hE type hu2 (.inl ⟨q, rfl⟩) hR hx hy h
        simp only [builtin, Sem.run_bind, hts', hca, h1, Result.andThen_ok, Sem.run_pure]
        exact h2
      · rename_i hd
        rw [hd] at hu2
        obtain ⟨v, w', h1, h2⟩ := eff_append hE type hu2 (.inr rfl) hR hx hy h
        simp only [builtin, Sem.run_bind, hts', hca, h1, Result.andThen_ok, Sem.run_pure]
        exact h2
      · simp at h
    · simp at h
  · rename_i t ts x y hts hxs
    rw [hxs] at hrel
    obtain ⟨cx, cy, hca, hx, hy⟩ := two_args hrel
    have hts' : c.argTypes[0]? = some t := by rw [← Array.getElem?_toList, hts]; rfl
    obtain ⟨v, w', h1, h2⟩ := eff_copy hE c.argTypes type hts' hR hx hy h
    simp only [builtin, Sem.run_bind, hca, h1, Result.andThen_ok, Sem.run_pure]
    exact h2
  · rename_i t x hts hxs
    rw [hxs] at hrel
    obtain ⟨cx, hca, hx⟩ := one_arg hrel
    have hts' : c.argTypes[0]? = some t := by rw [← Array.getElem?_toList, hts]; rfl
    obtain ⟨v, w', h1, h2⟩ := eff_clear hE c.argTypes type hts' hR hx h
    simp only [builtin, Sem.run_bind, hca, h1, Result.andThen_ok, Sem.run_pure]
    exact h2
  · simp [isPureB] at hb
  · simp [isPureB] at hb
  · simp at h

theorem eff_call (hE : EnvOK P E) (hcf : CallSound P n0 w0 cf) {c : Call} (hc : ∀ b, c.callee ≠ .builtin b) (hR : Rep n0 w0 K s w) (hf : ∀ y, y ∈ (Op.call c).operands → RV K (f y) (ρ y)) (h : aop0 E cf (.call c) f s = some L) :
    OpPost P n0 w0 K L ((execOp ρ ⟨dst, .call c, type, pos, after, guard⟩).run P w) := by
  have hrel : All2 (RV K) (c.args.toList.map f) (c.args.map ρ).toList := by
    rw [Array.toList_map]
    refine All2.map _ _ _ (fun x hx => hf x ?_)
    have : x ∈ c.args := by simpa using hx
    simp [Op.operands, Call.operands, this]
  simp only [aop_T, aopT, acall] at h
  split at h
  · rename_i b hb; exact absurd hb (hc b)
  · rename_i g hg
    split at h
    · rename_i h' first cap hfg
      obtain ⟨hcall, hs⟩ := hcf _ _ _ _ h
      have h1 := hf g (by simp [Op.operands, Call.operands, hg])
      rw [hfg, RV_func] at h1
      obtain ⟨first', cap', h2, h3, h4⟩ := h1
      have hrun : (execOp ρ ⟨dst, .call c, type, pos, after, guard⟩).run P w = .ok (.enter h' ((first' ++ c.args.map ρ) ++ cap')) w := by
        simp only [execOp, resolve, hg, h2, Deferred.ofValue, invoke, Sem.run_bind, Sem.run_pure, Result.andThen_ok, hcall]
      rw [hrun]
      have := hs K w (first'.toList ++ (c.args.map ρ).toList ++ cap'.toList) hR (((h3.mono (fun _ _ => C0.rv)).append hrel).append (h4.mono (fun _ _ => C0.rv)))
      have he : (first'.toList ++ (c.args.map ρ).toList ++ cap'.toList).toArray = (first' ++ c.args.map ρ) ++ cap' := by
        apply Array.ext'
        simp
      rw [he] at this
      exact this
    · simp at h
  · rename_i x name hx
    split at h
    · rename_i t v hfx
      split at h
      · rename_i g hg
        obtain ⟨hcall, hs⟩ := hcf _ _ _ _ h
        have h1 := hf x (by simp [Op.operands, Call.operands, hx])
        rw [hfx, RV_iface] at h1
        obtain ⟨v', h2, h3⟩ := h1
        have hrun : (execOp ρ ⟨dst, .call c, type, pos, after, guard⟩).run P w = .ok (.enter g (#[v'] ++ c.args.map ρ)) w := by
          have hm := hE.meth t name g hg v' (c.args.map ρ) w
          have he : (#[Value.iface t v'] ++ c.args.map ρ).extract 1 (#[Value.iface t v'] ++ c.args.map ρ).size = c.args.map ρ := by
            apply Array.ext'
            simp
            exact List.take_of_length_le (by simp)
          have he0 : (#[Value.iface t v'] ++ c.args.map ρ)[0]? = some (Value.iface t v') := by
            rw [← Array.getElem?_toList, Array.toList_append]
            rfl
          simp only [execOp, resolve, hx, h2, invoke, Sem.run_bind, Sem.run_pure, Result.andThen_ok, he0, he, hm, hcall]
        rw [hrun]
        have := hs K w (v' :: (c.args.map ρ).toList) hR ⟨h3.rv, hrel⟩
        have he : (v' :: (c.args.map ρ).toList).toArray = #[v'] ++ c.args.map ρ := by
          apply Array.ext'
          simp
        rw [he] at this
        exact this
      · simp at h
    · simp at h

theorem aop0_sound (hE : EnvOK P E) (hcf : CallSound P n0 w0 cf) {o : Oper} (hR : Rep n0 w0 K s w) (hf : ∀ y, y ∈ o.op.operands → RV K (f y) (ρ y)) (h : aop0 E cf o.op f s = some L) :
    OpPost P n0 w0 K L ((execOp ρ o).run P w) := by
  by_cases hp : isPure E o.op = true
  · obtain ⟨v, h1, h2⟩ := aop0_pure (P := P) hE hp h
    obtain ⟨c, h3, h4⟩ := h2 K ρ hR.kok hf
    rw [h4 w]
    subst h1
    exact ⟨v, s, K, by simp, Kx.le_refl _, h3, hR⟩
  · obtain ⟨dst, op, type, pos, after, guard⟩ := o
    cases op <;> try (simp [isPure] at hp; done)
    case alloc t => exact eff_alloc hE hR h
    case box t x => exact eff_box hR hf h
    case buildSlice t len ps =>
      obtain ⟨v, s', K', c, w', h1, _, h2, h3, h4, h5⟩ := eff_buildSlice (dst := dst) (type := type) (pos := pos) (after := after) (guard := guard) hE hR hf h
      subst h1
      exact OpPost.of_value h5 ⟨v, s', K', by simp, h2, h3, h4⟩
    case insert t m k v => exact eff_insert hE hR hf h
    case load t a =>
      obtain ⟨v, c, h1, h2, h3⟩ := eff_load (dst := dst) (type := type) (pos := pos) (after := after) (guard := guard) hE hR hf h
      subst h1
      exact OpPost.of_value h3 ⟨v, s, K, by simp, Kx.le_refl _, h2, hR⟩
    case store t a x => exact eff_store hE hR hf h
    case convert a b x =>
      obtain ⟨v, c, h1, h2, h3⟩ := eff_convert (dst := dst) (type := type) (pos := pos) (after := after) (guard := guard) hE hR hf h
      subst h1
      exact OpPost.of_value h3 ⟨v, s, K, by simp, Kx.le_refl _, h2, hR⟩
    case makeMap t r =>
      cases r with
      | none => exact eff_makeMap hR h
      | some r => simp [aop_T, aopT] at h
    case makeSlice t l c => exact eff_makeSlice hE hR hf h
    case lookup t m k ok => exact eff_lookup hE hR hf h
    case call c =>
      cases hc : c.callee with
      | builtin b => exact eff_builtin hE hc (by simpa [isPure, hc] using hp) hR hf h
      | value g => exact eff_call hE hcf (fun b => by simp [hc]) hR hf h
      | invoke x n => exact eff_call hE hcf (fun b => by simp [hc]) hR hf h
    all_goals simp [aop_T, aopT] at h
end
end Go.Sx
