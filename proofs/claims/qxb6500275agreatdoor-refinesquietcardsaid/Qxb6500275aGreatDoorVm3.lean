import Derived.Test.Qxb6500275aGreatDoorVm2
import Derived.Test.Qxb6500275aGreatDoorMr1
set_option maxRecDepth 100000
set_option linter.unusedVariables false
set_option linter.unusedSimpArgs false
namespace Go.Proofs.Qxb6500275aGreatDoor
open Go Go.RowKit
/- THE MODEL'S CHECK OF A FUNCTION, IN MEMORY: pf: where the function lies -/
structure Ck (w : World) (cb mb : Nat) (pf : Addr) (loc res : ByteArray) (er : Int) (a : Nat) : Prop where
  c0 : w.cell? ⟨cb, 0, none⟩ = some (.pointer (some ⟨mb, 0, none⟩))
  c1 : w.cell? ⟨cb, 1, none⟩ = some (.pointer (some pf))
  c2 : w.cell? ⟨cb, 2, none⟩ = some (.string loc)
  c3 : w.cell? ⟨cb, 3, none⟩ = some (.string res)
  c4 : w.cell? ⟨cb, 4, none⟩ = some (.int .i64 er)
  c5 : w.cell? ⟨cb, 5, none⟩ = some (.int .i64 a)
  f4 : w.frozen? ⟨cb, 4, none⟩ = false
  f5 : w.frozen? ⟨cb, 5, none⟩ = false
section
variable {w w' : World} {cb mb : Nat} {pf : Addr} {loc res : ByteArray} {er : Int} {a : Nat} {P : Nat → Prop}
theorem Ck.keep (h : Ck w cb mb pf loc res er a) (hk : Kp P w w') (hp : ¬ P cb) : Ck w' cb mb pf loc res er a := by
  have hlt : cb < w.heap.size := lt_of_cell h.c0
  have ec : ∀ o, w'.cell? ⟨cb, o, none⟩ = w.cell? ⟨cb, o, none⟩ := fun o => hk.cell (p := ⟨cb, o, none⟩) hlt hp
  have ef : ∀ o, w'.frozen? ⟨cb, o, none⟩ = w.frozen? ⟨cb, o, none⟩ := fun o => hk.frozen (p := ⟨cb, o, none⟩) hlt hp
  exact ⟨(ec 0).trans h.c0, (ec 1).trans h.c1, (ec 2).trans h.c2, (ec 3).trans h.c3, (ec 4).trans h.c4, (ec 5).trans h.c5, (ef 4).trans h.f4, (ef 5).trans h.f5⟩
theorem Ck.setF (h : Ck w cb mb pf loc res er a) (c : Int) (a' : Nat) : Ck ((w.setCell ⟨cb, 4, none⟩ (.int .i64 c)).setCell ⟨cb, 5, none⟩ (.int .i64 a')) cb mb pf loc res c a' := by
  obtain ⟨c0, c1, c2, c3, c4, c5, f4, f5⟩ := h
  exact ⟨by simp [c0, go_sem], by simp [c1, go_sem], by simp [c2, go_sem], by simp [c3, go_sem], by simp [c4, go_sem], by simp [c5, go_sem], by simp [f4, go_sem], by simp [f5, go_sem]⟩
set_option maxHeartbeats 1000000 in
/- an error where none stands -/
theorem vfail_m (h : Ck w cb mb pf loc res 0 a) (c : Int) (a0 : Nat) : Calls Tryz.prog 190 #[.pointer (some ⟨cb, 0, none⟩), .int .i64 c, .int .i64 a0] w (fun en w' => en = .returned (.tuple #[]) ∧ Ck w' cb mb pf loc res c a0 ∧ Kp (· = cb) w w') := by
  have HR : Hid _ := h.setF c a0
  have hk0 : Kp (· = cb) w ((w.setCell ⟨cb, 4, none⟩ (.int .i64 c)).setCell ⟨cb, 5, none⟩ (.int .i64 a0)) := ((Kp.refl (· = cb) w).setCell (p := ⟨cb, 4, none⟩) (.inl rfl) _).setCell (p := ⟨cb, 5, none⟩) (.inl rfl) _
  have HK : Hid _ := hk0
  obtain ⟨c0, c1, c2, c3, c4, c5, f4, f5⟩ := h
  clear hk0
  go_enter Tryz.func190, Tryz.ntmps190
  go_wp2
  refine bodyPost_end (v := .tuple #[]) (results_none rfl _ _ _) rfl ?_
  exact ⟨rfl, HR.out, HK.out⟩
set_option maxHeartbeats 1000000 in
theorem vfail_x (h : Ck w cb mb pf loc res er a) (he : er ≠ 0) (c : Int) (a0 : Int) : Calls Tryz.prog 190 #[.pointer (some ⟨cb, 0, none⟩), .int .i64 c, .int .i64 a0] w (fun en w' => en = .returned (.tuple #[]) ∧ w' = w) := by
  have heb : (er == 0) = false := by rw [beq_eq_false_iff_ne]; exact he
  obtain ⟨c0, c1, c2, c3, c4, c5, f4, f5⟩ := h
  go_enter Tryz.func190, Tryz.ntmps190
  go_wp2
  refine bodyPost_end (v := .tuple #[]) (results_none rfl _ _ _) rfl ?_
  exact ⟨rfl, rfl⟩
end
/- the labels, as texts: the innermost last -/
def labW (f : VF) : Nat := if f.op = 3 then 64 else f.res
structure LabR (labs : List ByteArray) (ctl : List VF) : Prop where
  len : labs.length = ctl.length
  at_ : ∀ (i : Nat) (b : ByteArray), labs[labs.length - 1 - i]? = some b → i < ctl.length → labW (ctl.getD i VF.zero) = firstV b
  one : ∀ b, b ∈ labs → OneT b
theorem labelV_F (v : VS) (l : Nat) : labelV v l = labW (v.ctl.getD l VF.zero) := rfl
theorem LabR.get {labs : List ByteArray} {ctl : List VF} (h : LabR labs ctl) {i : Nat} (hi : i < ctl.length) : ∃ b, labs[labs.length - 1 - i]? = some b ∧ labW (ctl.getD i VF.zero) = firstV b ∧ OneT b := by
  have hl : labs.length - 1 - i < labs.length := by rw [h.len]; omega
  refine ⟨_, List.getElem?_eq_getElem hl, h.at_ i _ (List.getElem?_eq_getElem hl) hi, h.one _ (List.getElem_mem hl)⟩
theorem LabR.push {labs : List ByteArray} {ctl : List VF} (h : LabR labs ctl) {f : VF} {b : ByteArray} (hb : OneT b) (hf : labW f = firstV b) : LabR (labs ++ [b]) (f :: ctl) := by
  refine ⟨by simp [h.len], fun i c hc hi => ?_, fun c hc => ?_⟩
  · cases i with
    | zero =>
      rw [List.length_append] at hc
      simp at hc
      subst hc
      exact hf
    | succ i =>
      have hi2 : i < ctl.length := by simpa using hi
      have e : (labs ++ [b]).length - 1 - (i + 1) = labs.length - 1 - i := by rw [List.length_append]; simp; omega
      rw [e, List.getElem?_append_left (by rw [h.len]; omega)] at hc
      have := h.at_ i c hc hi2
      simpa using this
  · rcases List.mem_append.1 hc with hc | hc
    · exact h.one c hc
    · rw [List.mem_singleton.1 hc]; exact hb
theorem fits_text {o t : Nat} {st : ByteArray} {p : Bool} {rest : List Nat} {r : List VF} {b : ByteArray} (h : OneT b) : fitsV (mkV o t st p rest r) (firstV b) = (popsS p (argsV b) st).2 := by
  by_cases hs : b.size = 0
  · rw [(OneT.zero hs).1, (OneT.zero hs).2]
    rfl
  · obtain ⟨h1, h2, h3⟩ := h.ne hs
    have hv : isVal (bAt b 0) := h.2 (by have := h.1; omega)
    have hz : bAt b 0 ≠ 0 := by rcases hv with e | e | e | e <;> omega
    have hc := carry_text (o := o) (t := t) (st := st) (p := p) (rest := rest) (r := r) h
    have h4 : (carryV (mkV o t st p rest r) (firstV b)).2 = (popsS p (argsV b) st).2 := by rw [hc]
    rw [← h4]
    unfold fitsV carryV popV
    rw [if_neg h2, if_neg h2]
    by_cases hl : (mkV o t st p rest r).ops.length = (mkV o t st p rest r).top.floor
    · rw [if_pos hl, if_pos hl]
    · rw [if_neg hl, if_neg hl]
      rw [h1]
      refine decide_eq_decide.2 ?_
      constructor
      · rintro (h | h)
        · exact .inl h
        · exact .inr (.inr h)
      · rintro (h | h | h)
        · exact .inl h
        · exact absurd h hz
        · exact .inr h
/- texts of strings in memory -/
def Lb (w : World) (v : Value) (labs : List ByteArray) : Prop := OR w 9 1 v labs.length (labs.map (fun b => .string b))
end Go.Proofs.Qxb6500275aGreatDoor
