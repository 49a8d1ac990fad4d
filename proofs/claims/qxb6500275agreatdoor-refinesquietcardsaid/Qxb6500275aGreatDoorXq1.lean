import Derived.Test.Qxb6500275aGreatDoorXq0
import Derived.Test.Qxb6500275aGreatDoorXo0
import Derived.Test.Qxb6500275aGreatDoorXod
set_option maxRecDepth 100000
set_option linter.unusedVariables false
set_option linter.unusedSimpArgs false
namespace Go.Proofs.Qxb6500275aGreatDoor
open Go Go.RowKit
/- a step leaves a frame -/
section
variable {M : Mod} {fn : Fn} {q q' : MQ} {e l : Nat} {num : NumF0} {x : Ins} {r : MF}
theorem top_ne (q : MQ) (r : MF) : (q.top r).fr ≠ [] := by unfold MQ.top; simp
theorem layM_ne {r : Option MF} (h : layM q r = some (e, q')) : q'.fr ≠ [] := by
  unfold layM at h
  split at h
  · simp at h
  · simp at h; rw [← h.2]; exact top_ne _ _
theorem retM_ne (h : retM M q = some (e, q')) : q'.fr ≠ [] := by
  unfold retM at h
  repeat' (split at h)
  all_goals first | (simp at h; done) | (simp at h; rw [← h.2]; simp; done)
theorem branchM_ne (h : branchM M fn q l = some (e, q')) : q'.fr ≠ [] := by
  unfold branchM at h
  repeat' (split at h)
  all_goals first | exact retM_ne h | exact layM_ne h | (simp at h; done) | (simp at h; rw [← h.2]; exact top_ne _ _)
theorem callM_ne {f : Nat} (h : callM M q f = some (e, q')) : q'.fr ≠ [] := by
  unfold callM at h
  repeat' (split at h)
  all_goals first | exact layM_ne h | (simp at h; done) | (simp at h; rw [← h.2]; simp; done)
theorem localM_ne (h : localM q r x = some (e, q')) : q'.fr ≠ [] := by
  unfold localM at h
  repeat' (split at h)
  all_goals first | exact layM_ne h | (simp at h; done) | (simp at h; rw [← h.2]; exact top_ne _ _)
theorem globalM_ne (h : globalM M q r x = some (e, q')) : q'.fr ≠ [] := by
  unfold globalM at h
  repeat' (split at h)
  all_goals first | exact layM_ne h | (simp at h; done) | (simp at h; rw [← h.2]; exact top_ne _ _)
theorem memoryM_ne (h : memoryM M q r x = some (e, q')) : q'.fr ≠ [] := by
  unfold memoryM at h
  repeat' (split at h)
  all_goals first | exact layM_ne h | (simp at h; done) | (simp at h; rw [← h.2]; exact top_ne _ _)
theorem numM_ne (h : numM num q r x = some (e, q')) : q'.fr ≠ [] := by
  unfold numM at h
  repeat' (split at h)
  all_goals first | exact layM_ne h | (simp at h; done) | (simp at h; rw [← h.2]; exact top_ne _ _)
theorem deedM_ne (h : deedM num M fn q x = some (e, q')) : q'.fr ≠ [] := by
  unfold deedM at h
  cases hq : q.fr with
  | nil => rw [hq] at h; simp at h
  | cons r rest =>
  rw [hq] at h
  dsimp only at h
  rcases iteC h with ⟨_, h⟩ | ⟨_, h⟩
  · simp at h; rw [← h.2]; rw [hq]; simp
  rcases iteC h with ⟨_, h⟩ | ⟨_, h⟩
  · simp at h; rw [← h.2]; rw [hq]; simp
  rcases iteC h with ⟨_, h⟩ | ⟨_, h⟩
  · split at h
    · simp at h
    · simp only [Option.some.injEq, Prod.mk.injEq] at h; rw [← h.2]; exact top_ne _ _
  rcases iteC h with ⟨_, h⟩ | ⟨_, h⟩
  · have h7 := branchM_ne h; exact h7
  rcases iteC h with ⟨_, h⟩ | ⟨_, h⟩
  · split at h
    · simp at h
    · rcases iteC h with ⟨_, h⟩ | ⟨_, h⟩
      · simp only [Option.some.injEq, Prod.mk.injEq] at h; rw [← h.2]; exact top_ne _ _
      · have h7 := branchM_ne h; exact h7
  rcases iteC h with ⟨_, h⟩ | ⟨_, h⟩
  · split at h
    · simp at h
    · rcases iteC h with ⟨_, h⟩ | ⟨_, h⟩
      · simp at h
      · have h7 := branchM_ne h; exact h7
  rcases iteC h with ⟨_, h⟩ | ⟨_, h⟩
  · have h7 := retM_ne h; exact h7
  rcases iteC h with ⟨_, h⟩ | ⟨_, h⟩
  · have h7 := callM_ne h; exact h7
  rcases iteC h with ⟨_, h⟩ | ⟨_, h⟩
  · split at h
    · simp at h
    · split at h
      · simp at h
      · rcases iteC h with ⟨_, h⟩ | ⟨_, h⟩
        · simp only [Option.some.injEq, Prod.mk.injEq] at h; rw [← h.2]; exact top_ne _ _
        · split at h
          · simp at h
          · rcases iteC h with ⟨_, h⟩ | ⟨_, h⟩
            · have h7 := callM_ne h; exact h7
            · simp only [Option.some.injEq, Prod.mk.injEq] at h; rw [← h.2]; exact top_ne _ _
  rcases iteC h with ⟨_, h⟩ | ⟨_, h⟩
  · split at h
    · simp at h
    · simp only [Option.some.injEq, Prod.mk.injEq] at h; rw [← h.2]; exact top_ne _ _
  rcases iteC h with ⟨_, h⟩ | ⟨_, h⟩
  · repeat' (split at h)
    all_goals first | (simp at h; done) | (have h7 := layM_ne h; exact h7)
  rcases iteC h with ⟨_, h⟩ | ⟨_, h⟩
  · have h7 := localM_ne h; exact h7
  rcases iteC h with ⟨_, h⟩ | ⟨_, h⟩
  · have h7 := globalM_ne h; exact h7
  rcases iteC h with ⟨_, h⟩ | ⟨_, h⟩
  · have h7 := memoryM_ne h; exact h7
  rcases iteC h with ⟨_, h⟩ | ⟨_, h⟩
  · have h7 := layM_ne h; exact h7
  · have h7 := numM_ne h; exact h7
theorem stepM_ne (h : stepM num M q = some (e, q')) : q'.fr ≠ [] := by
  unfold stepM at h
  cases hq : q.fr with
  | nil => rw [hq] at h; simp at h
  | cons r rest =>
  rw [hq] at h
  dsimp only at h
  split at h
  · simp at h
  rcases iteC h with ⟨_, h⟩ | ⟨_, h⟩
  · simp at h
  rcases iteC h with ⟨_, h⟩ | ⟨_, h⟩
  · simp only [Option.some.injEq, Prod.mk.injEq] at h; rw [← h.2]; exact top_ne _ _
  rcases iteC h with ⟨_, h⟩ | ⟨_, h⟩
  · split at h
    · simp at h
    · simp only [Option.some.injEq, Prod.mk.injEq] at h; rw [← h.2]; exact top_ne _ _
  rcases iteC h with ⟨_, h⟩ | ⟨_, h⟩
  · split at h
    · split at h
      · simp at h
      · rcases iteC h with ⟨_, h⟩ | ⟨_, h⟩
        · simp at h
        · exact retM_ne h
    · rcases iteC h with ⟨_, h⟩ | ⟨_, h⟩
      · simp at h
      rcases iteC h with ⟨_, h⟩ | ⟨_, h⟩
      · simp at h
      · simp only [Option.some.injEq, Prod.mk.injEq] at h; rw [← h.2]; exact top_ne _ _
  rcases iteC h with ⟨_, h⟩ | ⟨_, h⟩
  · simp only [Option.some.injEq, Prod.mk.injEq] at h; rw [← h.2, hq]; simp
  · exact deedM_ne h
theorem top_fu (q : MQ) (r : MF) : (q.top r).fuel = q.fuel := rfl
theorem layM_fu {r : Option MF} (h : layM q r = some (e, q')) : q'.fuel = q.fuel := by
  unfold layM at h
  split at h
  · simp at h
  · simp at h; rw [← h.2]; rfl
theorem retM_fu (h : retM M q = some (e, q')) : q'.fuel = q.fuel := by
  unfold retM at h
  repeat' (split at h)
  all_goals first | (simp at h; done) | (simp at h; rw [← h.2])
theorem branchM_fu (h : branchM M fn q l = some (e, q')) : q'.fuel = q.fuel := by
  unfold branchM at h
  repeat' (split at h)
  all_goals first | (have h7 := retM_fu h; exact h7) | (have h7 := layM_fu h; exact h7) | (simp at h; done) | (simp at h; rw [← h.2]; rfl)
theorem callM_fu {f : Nat} (h : callM M q f = some (e, q')) : q'.fuel = q.fuel := by
  unfold callM at h
  repeat' (split at h)
  all_goals first | (have h7 := layM_fu h; exact h7) | (simp at h; done) | (simp at h; rw [← h.2])
theorem localM_fu (h : localM q r x = some (e, q')) : q'.fuel = q.fuel := by
  unfold localM at h
  repeat' (split at h)
  all_goals first | (have h7 := layM_fu h; exact h7) | (simp at h; done) | (simp at h; rw [← h.2]; rfl)
theorem globalM_fu (h : globalM M q r x = some (e, q')) : q'.fuel = q.fuel := by
  unfold globalM at h
  repeat' (split at h)
  all_goals first | (have h7 := layM_fu h; exact h7) | (simp at h; done) | (simp at h; rw [← h.2]; rfl)
theorem memoryM_fu (h : memoryM M q r x = some (e, q')) : q'.fuel = q.fuel := by
  unfold memoryM at h
  repeat' (split at h)
  all_goals first | (have h7 := layM_fu h; exact h7) | (simp at h; done) | (simp at h; rw [← h.2]; rfl)
theorem numM_fu (h : numM num q r x = some (e, q')) : q'.fuel = q.fuel := by
  unfold numM at h
  repeat' (split at h)
  all_goals first | (have h7 := layM_fu h; exact h7) | (simp at h; done) | (simp at h; rw [← h.2]; rfl)
theorem deedM_fu (h : deedM num M fn q x = some (e, q')) : q'.fuel = q.fuel := by
  unfold deedM at h
  cases hq : q.fr with
  | nil => rw [hq] at h; simp at h
  | cons r rest =>
  rw [hq] at h
  dsimp only at h
  rcases iteC h with ⟨_, h⟩ | ⟨_, h⟩
  · simp at h; rw [← h.2]
  rcases iteC h with ⟨_, h⟩ | ⟨_, h⟩
  · simp at h; rw [← h.2]
  rcases iteC h with ⟨_, h⟩ | ⟨_, h⟩
  · split at h
    · simp at h
    · simp only [Option.some.injEq, Prod.mk.injEq] at h; rw [← h.2]; rfl
  rcases iteC h with ⟨_, h⟩ | ⟨_, h⟩
  · have h7 := branchM_fu h; exact h7
  rcases iteC h with ⟨_, h⟩ | ⟨_, h⟩
  · split at h
    · simp at h
    · rcases iteC h with ⟨_, h⟩ | ⟨_, h⟩
      · simp only [Option.some.injEq, Prod.mk.injEq] at h; rw [← h.2]; rfl
      · have h7 := branchM_fu h; exact h7
  rcases iteC h with ⟨_, h⟩ | ⟨_, h⟩
  · split at h
    · simp at h
    · rcases iteC h with ⟨_, h⟩ | ⟨_, h⟩
      · simp at h
      · have h7 := branchM_fu h; exact h7
  rcases iteC h with ⟨_, h⟩ | ⟨_, h⟩
  · have h7 := retM_fu h; exact h7
  rcases iteC h with ⟨_, h⟩ | ⟨_, h⟩
  · have h7 := callM_fu h; exact h7
  rcases iteC h with ⟨_, h⟩ | ⟨_, h⟩
  · split at h
    · simp at h
    · split at h
      · simp at h
      · rcases iteC h with ⟨_, h⟩ | ⟨_, h⟩
        · simp only [Option.some.injEq, Prod.mk.injEq] at h; rw [← h.2]; rfl
        · split at h
          · simp at h
          · rcases iteC h with ⟨_, h⟩ | ⟨_, h⟩
            · have h7 := callM_fu h; exact h7
            · simp only [Option.some.injEq, Prod.mk.injEq] at h; rw [← h.2]; rfl
  rcases iteC h with ⟨_, h⟩ | ⟨_, h⟩
  · split at h
    · simp at h
    · simp only [Option.some.injEq, Prod.mk.injEq] at h; rw [← h.2]; rfl
  rcases iteC h with ⟨_, h⟩ | ⟨_, h⟩
  · repeat' (split at h)
    all_goals first | (simp at h; done) | (have h7 := layM_fu h; exact h7)
  rcases iteC h with ⟨_, h⟩ | ⟨_, h⟩
  · have h7 := localM_fu h; exact h7
  rcases iteC h with ⟨_, h⟩ | ⟨_, h⟩
  · have h7 := globalM_fu h; exact h7
  rcases iteC h with ⟨_, h⟩ | ⟨_, h⟩
  · have h7 := memoryM_fu h; exact h7
  rcases iteC h with ⟨_, h⟩ | ⟨_, h⟩
  · have h7 := layM_fu h; exact h7
  · have h7 := numM_fu h; exact h7
theorem stepM_fu (h : stepM num M q = some (e, q')) : q'.fuel ≤ q.fuel := by
  unfold stepM at h
  cases hq : q.fr with
  | nil => rw [hq] at h; simp at h
  | cons r rest =>
  rw [hq] at h
  dsimp only at h
  split at h
  · simp at h
  rcases iteC h with ⟨_, h⟩ | ⟨_, h⟩
  · simp at h
  rcases iteC h with ⟨_, h⟩ | ⟨_, h⟩
  · simp only [Option.some.injEq, Prod.mk.injEq] at h; rw [← h.2]; exact Nat.le_refl _
  rcases iteC h with ⟨_, h⟩ | ⟨_, h⟩
  · split at h
    · simp at h
    · simp only [Option.some.injEq, Prod.mk.injEq] at h; rw [← h.2]; exact Nat.le_refl _
  rcases iteC h with ⟨_, h⟩ | ⟨_, h⟩
  · split at h
    · split at h
      · simp at h
      · rcases iteC h with ⟨_, h⟩ | ⟨_, h⟩
        · simp at h
        · exact Nat.le_of_eq (retM_fu h)
    · rcases iteC h with ⟨_, h⟩ | ⟨_, h⟩
      · simp at h
      rcases iteC h with ⟨_, h⟩ | ⟨_, h⟩
      · simp at h
      · simp only [Option.some.injEq, Prod.mk.injEq] at h; rw [← h.2]; exact Nat.le_refl _
  rcases iteC h with ⟨_, h⟩ | ⟨_, h⟩
  · simp only [Option.some.injEq, Prod.mk.injEq] at h; rw [← h.2]; exact Nat.le_refl _
  · (have h7 := deedM_fu h; rw [h7]; show q.fuel - 1 ≤ q.fuel; omega)
theorem itB_ne : ∀ (n : Nat) {p m : Nat × MQ}, itB num M n p m → p.2.fr ≠ [] → m.2.fr ≠ []
  | 0, p, m, h, hp => by rw [h.1]; exact hp
  | n + 1, p, m, h, hp => by
    obtain ⟨_, _, _, p', hs, hi⟩ := h
    exact itB_ne n hi (stepM_ne (e := p'.1) hs)
end
section
variable {u : World} {vf : Value} {fs : List (MF × FT3)}
/- any frame more -/
theorem Fstk.pushG (h : Fstk u vf fs) (hn : fs.length ≤ 1000) {r : MF} {la oa ba : Option Addr} {ln lc on oc bn bc : Nat} (hF : FrM u (r, ⟨.slice la ln lc, .slice oa on oc, .slice ba bn bc⟩)) (hd : ∀ k, FtB ⟨.slice la ln lc, .slice oa on oc, .slice ba bn bc⟩ k → ¬ FsB vf fs k) :
    ∃ v' w', (Builtin.append_ #[143, 143] 143 #[vf, .slice (some ⟨u.heap.size, 0, none⟩) 1 1]).run Tryz.prog (u.alloc (.cells #[.int .i64 r.f, .int .i64 (r.pc : Int), .slice la ln lc, .slice oa on oc, .slice ba bn bc] 301)) = .ok v' w' ∧
      Fstk w' v' (fs ++ [(r, ⟨.slice la ln lc, .slice oa on oc, .slice ba bn bc⟩)]) ∧ Kp (fun k => vf.ownBlock = some k) u w' ∧ OwnO u vf v' := by
  obtain ⟨i, z, i1, i2, i3, i4, i5⟩ := i301i
  have hk : Kp (fun _ => False) u (u.alloc (.cells #[.int .i64 r.f, .int .i64 (r.pc : Int), .slice la ln lc, .slice oa on oc, .slice ba bn bc] 301)) := (Kp.refl _ _).alloc _
  obtain ⟨v', w', r1, r2, r3, r4⟩ := (h.row.keep hk (fun _ _ h => h)).app (t := 143) (ty := 143) u143 i1 i2 i4 rfl i3 (by decide) i5 (by omega) ⟨u.heap.size, 0, none⟩ 1 (frC (r, ⟨.slice la ln lc, .slice oa on oc, .slice ba bn bc⟩)) rfl (fun j y hy => by
    rw [add_none, Nat.zero_add]
    have hj := (List.getElem?_eq_some_iff.1 hy).1
    have hj5 : j < 5 := hj
    have hb := blk_al u #[.int .i64 r.f, .int .i64 (r.pc : Int), .slice la ln lc, .slice oa on oc, .slice ba bn bc] 301
    rcases (by omega : j = 0 ∨ j = 1 ∨ j = 2 ∨ j = 3 ∨ j = 4) with rfl | rfl | rfl | rfl | rfl
    · rw [← Option.some.inj hy]; exact hb.cell (i := 0) (by simp)
    · rw [← Option.some.inj hy]; exact hb.cell (i := 1) (by simp)
    · rw [← Option.some.inj hy]; exact hb.cell (i := 2) (by simp)
    · rw [← Option.some.inj hy]; exact hb.cell (i := 3) (by simp)
    · rw [← Option.some.inj hy]; exact hb.cell (i := 4) (by simp)) (fun y hy => by
    simp [frC] at hy
    rcases hy with rfl | rfl | rfl | rfl | rfl <;> rfl)
  have r3' : Kp (fun k => vf.ownBlock = some k) u w' := (hk.mono (fun _ h => h.elim)).trans r3
  have r4' : OwnO u vf v' := fun k hk2 => by
    rcases r4 k hk2 with h | h
    · exact .inl h
    · exact .inr (Nat.le_trans hk.size h)
  have hold : ∀ y, y ∈ fs → FrM w' y ∧ ∀ k, v'.ownBlock = some k → ¬ FtB y.2 k := fun y hy => by
    have hfy := h.fr y hy
    refine ⟨hfy.1.keep r3' (fun k e e2 => hfy.2 k e2 e), fun k e e2 => ?_⟩
    rcases r4' k e with h5 | h5
    · exact hfy.2 k h5 e2
    · have := hfy.1.lt e2; omega
  refine ⟨v', w', r1, ⟨?_, fun y hy => ?_, ?_⟩, r3', r4'⟩
  · rw [List.length_append, List.flatMap_append]
    have e : [(r, (⟨.slice la ln lc, .slice oa on oc, .slice ba bn bc⟩ : FT3))].flatMap frC = frC (r, ⟨.slice la ln lc, .slice oa on oc, .slice ba bn bc⟩) := by simp
    rw [e]
    exact r2
  · rcases List.mem_append.1 hy with hy | hy
    · exact hold y hy
    · simp at hy
      subst hy
      refine ⟨hF.keep r3' (fun k e e2 => hd k e (.inl e2)), fun k e e2 => ?_⟩
      rcases r4' k e with h5 | h5
      · exact hd k e2 (.inl h5)
      · have := hF.lt e2; omega
  · refine List.pairwise_append.2 ⟨h.dj, by simp, fun y hy z hz k hk e => ?_⟩
    simp at hz
    subst hz
    exact hd k e (.inr ⟨y, hy, hk⟩)
end
end Go.Proofs.Qxb6500275aGreatDoor
