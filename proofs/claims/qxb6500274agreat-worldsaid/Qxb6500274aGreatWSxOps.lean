import Derived.Test.Qxb6500274aGreatWSxPureOps3
import Derived.Laws.BytesString
set_option linter.unusedSimpArgs false
namespace Go.Sx
open Go Go.RowKit

/- WHAT AN OPERATION LEAVES -/
def LPost (n0 : Base) (w0 : World) (K : Kx) (L : List (Value × St)) (c : Value) (w' : World) : Prop :=
  ∃ v s' K', (v, s') ∈ L ∧ K.le K' ∧ RV K' v c ∧ Rep n0 w0 K' s' w'

def OpPost (P : Program) (n0 : Base) (w0 : World) (K : Kx) (L : List (Value × St)) : Result Next → Prop
  | .ok (.value c) w' => LPost n0 w0 K L c w'
  | .ok .skip w' => LPost n0 w0 K L undef w'
  | .ok (.enter g args) w' => Calls P g args w' (fun e w'' => ∃ c, e = .returned c ∧ LPost n0 w0 K L c w'')
  | _ => False

def CallSound (P : Program) (n0 : Base) (w0 : World) (cf : CallF) : Prop :=
  ∀ g args s L, cf g args s = some L → (∀ a w, (callFunc g a).run P w = .ok (.enter g a) w) ∧
    ∀ K w cargs, Rep n0 w0 K s w → All2 (RV K) args cargs → Calls P g cargs.toArray w (fun e w' => ∃ c, e = .returned c ∧ LPost n0 w0 K L c w')

theorem LPost.one {n0 : Base} {w0 : World} {K K' : Kx} {v c : Value} {s' : St} {L : List (Value × St)} {w' : World} (h : one v s' = some L) (hle : K.le K') (hv : RV K' v c) (hR : Rep n0 w0 K' s' w') :
    LPost n0 w0 K L c w' := by
  have := one_eq h
  subst this
  exact ⟨v, s', K', by simp, hle, hv, hR⟩

section
variable {P : Program} {E : Env} {cf : CallF} {f ρ : Operand → Value} {s : St} {L : List (Value × St)} {n0 : Base} {w0 w : World} {K : Kx}
  {dst : Option Tmp} {type : TypeId} {pos : String} {after : Array Edge} {guard : Option (Nat × Bool)}

/- a new row of cells -/
theorem Rep.newRow (h : Rep n0 w0 K s w) {vs : List Value} {cs : Array Value} (T : TypeId) (hc : All2 (C1 K) vs cs.toList) :
    ∃ K', K.le K' ∧ K'.bl s.next = w.heap.size ∧ s.next < K'.nx ∧ Rep n0 w0 K' (newBlk s vs 0).2 { w with heap := w.heap.push (.cells cs T) } := by
  refine ⟨K.grow w.heap.size 0 0, Kx.le_grow _ _ _ _, by simp [Kx.grow, h.nx], by simp [Kx.grow, h.nx], ?_⟩
  refine h.made 0 0 ?_
  unfold BlkRep
  rw [if_neg (by simp)]
  exact ⟨cs, T, (0, 0), cs.toList, [], rfl, .inl rfl, by simp, hc.mono (fun _ _ => C1.mono (Kx.le_grow _ _ _ _)), fun _ => rfl, fun h => by simp at h⟩

theorem eff_alloc (hE : EnvOK P E) {t : TypeId} (hR : Rep n0 w0 K s w) (h : aop0 E cf (.alloc t) f s = some L) :
    OpPost P n0 w0 K L ((execOp ρ ⟨dst, .alloc t, type, pos, after, guard⟩).run P w) := by
  simp only [aop_T, aopT] at h
  split at h
  · rename_i i hi
    have hti := hE.ti t i hi
    obtain ⟨K', h1, h2, h3, h4⟩ := hR.newRow (vs := i.zero) (cs := (zeroVal i).cells) t (by
      rw [hti.zero_cells]
      exact All2.refl _ (fun v hv => C1_plain (hti.zp v hv)))
    simp only [execOp, Instr.alloc, Sem.run_bind, hti.run_zero w, Result.andThen_ok, newVar, newRow, run_newObj, Sem.run_pure]
    refine LPost.one h h1 ?_ h4
    rw [RV_ptr]
    exact ⟨rfl, h3, by simp [newBlk, h2]⟩
  · simp at h

theorem eff_box {t : TypeId} {x : Operand} (hR : Rep n0 w0 K s w) (hf : ∀ y, y ∈ (Op.box t x).operands → RV K (f y) (ρ y)) (h : aop0 E cf (.box t x) f s = some L) :
    OpPost P n0 w0 K L ((execOp ρ ⟨dst, .box t x, type, pos, after, guard⟩).run P w) := by
  simp only [aop_T, aopT] at h
  split at h
  · rename_i hok
    obtain ⟨K', h1, h2, h3, h4⟩ := hR.newRow (cs := (ρ x).cells) t (RV_cells (hf x (by simp [Op.operands])) hok)
    simp only [execOp, Instr.box, Sem.run_bind, Result.andThen_ok, newVar, newRow, run_newObj, Sem.run_pure]
    refine LPost.one h h1 ?_ h4
    rw [RV_ptr]
    exact ⟨rfl, h3, by simp [newBlk, h2]⟩
  · simp at h

theorem eff_load (hE : EnvOK P E) {t : TypeId} {a : Operand} (hR : Rep n0 w0 K s w) (hf : ∀ y, y ∈ (Op.load t a).operands → RV K (f y) (ρ y)) (h : aop0 E cf (.load t a) f s = some L) :
    ∃ v c, L = [(v, s)] ∧ RV K v c ∧ (execOp ρ ⟨dst, .load t a, type, pos, after, guard⟩).run P w = .ok (.value c) w := by
  simp only [aop_T, aopT] at h
  split at h
  · rename_i i p hi ha
    have hti := hE.ti t i hi
    have h1 := hf a (by simp [Op.operands])
    rw [ha, RV_ptr] at h1
    obtain ⟨_, _, h1⟩ := h1
    split at h
    · rename_i hag
      split at h
      · rename_i c hc
        obtain ⟨cs, h2, h3, h4⟩ := hR.run_loadCells (P := P) hc
        refine ⟨_, .agg cs.toArray, one_eq h, ?_, ?_⟩
        · rw [RV_agg]; exact ⟨_, rfl, by simpa using h2⟩
        · simp only [execOp, Instr.loadAt, loadVar, Sem.run_bind, h1, Instr.sureAddr, Sem.run_pure, Result.andThen_ok, hti.run_isAgg w, hag, if_true, hti.run_size w, h4]
      · simp at h
    · rename_i hag
      split at h
      · rename_i v hv
        obtain ⟨c, h2, h3⟩ := hR.run_load1 (P := P) hv
        refine ⟨_, c, one_eq h, h2.rv, ?_⟩
        simp only [execOp, Instr.loadAt, loadVar, Sem.run_bind, h1, Instr.sureAddr, Sem.run_pure, Result.andThen_ok, hti.run_isAgg w, hag, Bool.false_eq_true, if_false, h3]
      · simp at h
  · simp at h

theorem eff_store (hE : EnvOK P E) {t : TypeId} {a x : Operand} (hR : Rep n0 w0 K s w) (hf : ∀ y, y ∈ (Op.store t a x).operands → RV K (f y) (ρ y)) (h : aop0 E cf (.store t a x) f s = some L) :
    OpPost P n0 w0 K L ((execOp ρ ⟨dst, .store t a x, type, pos, after, guard⟩).run P w) := by
  simp only [aop_T, aopT] at h
  split at h
  · rename_i i p hi ha
    have hti := hE.ti t i hi
    have h1 := hf a (by simp [Op.operands])
    rw [ha, RV_ptr] at h1
    obtain ⟨_, _, h1⟩ := h1
    split at h
    · rename_i hok
      simp only [Bool.and_eq_true] at hok
      split at h
      · rename_i s' hs
        have hcells := RV_cells (hf x (by simp [Op.operands])) hok.1
        obtain ⟨w', h2, h3⟩ := hR.stored (P := P) hs hcells
        have hsz : ¬ (ρ x).cells.size ≠ i.size := by
          have e1 := hcells.length
          have e2 := Nat.eq_of_beq_eq_true hok.2
          simp at e1
          omega
        simp only [execOp, Instr.storeAt, storeVar, Sem.run_bind, h1, Instr.sureAddr, Sem.run_pure, Result.andThen_ok, hti.run_size w, if_neg hsz, h2]
        exact LPost.one h (Kx.le_refl _) (by rw [RV_tuple]; exact ⟨_, rfl, trivial⟩) h3
      · simp at h
    · simp at h
  · simp at h

end
end Go.Sx
