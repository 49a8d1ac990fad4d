import Derived.Test.Qxb6500274aGreatHd
set_option linter.unusedVariables false
set_option linter.unusedSimpArgs false
set_option maxRecDepth 20000
namespace Go.Sx
open Go Go.RowKit
theorem gather_mem {back : St → Bool} : ∀ {L : List Leaf} {bad : List (List Value × Bool)}, gather back L = some bad → ∀ x, x ∈ L →
    (x.1 = .ret ∧ ∃ f, f ∈ bad ∧ f ∈ x.2.2.facts) ∨ ((x.1 = .normal ∨ x.1 = .exit 1) ∧ regsOK x.2.1 = true ∧ back x.2.2 = true)
  | [], _, _, x, hx => by simp at hx
  | y :: l, bad, h, x, hx => by
    unfold gather at h
    split at h
    · rename_i hl; cases hl
    · rename_i r s l' e
      cases e
      split at h
      · rename_i f fs q hf hq
        cases h
        rcases List.mem_cons.1 hx with rfl | hx
        · exact .inl ⟨rfl, f, by simp, by rw [hf]; simp⟩
        · rcases gather_mem hq x hx with ⟨h1, f', h2, h3⟩ | h
          · exact .inl ⟨h1, f', List.mem_cons_of_mem _ h2, h3⟩
          · exact .inr h
      · cases h
    · rename_i r s l' e
      cases e
      split at h
      · rename_i hb
        simp only [Bool.and_eq_true] at hb
        rcases List.mem_cons.1 hx with rfl | hx
        · exact .inr ⟨.inl rfl, hb⟩
        · exact gather_mem h x hx
      · cases h
    · rename_i r s l' e
      cases e
      split at h
      · rename_i hb
        simp only [Bool.and_eq_true] at hb
        rcases List.mem_cons.1 hx with rfl | hx
        · exact .inr ⟨.inr rfl, hb⟩
        · exact gather_mem h x hx
      · cases h
    · cases h
end Go.Sx
namespace Go.Proofs.Qxb6500274aGreat
open Go Go.RowKit Go.Sx

theorem reg_shape : body7 Tryz.f7.body pReg = .region 10 (opsFrom 4 (body7 Tryz.f7.body pReg)).1.toArray false := by kernel_rfl
theorem reg_slots : slotsOK 99 (body7 Tryz.f7.body pReg) = true := by kernel_rfl
theorem rest_slots : slotsOK 99 (body7 Tryz.f7.body pRest) = true := by kernel_rfl
theorem rest_draws (E : Env) (h : IsEnv E) : drawsOK E 7 (body7 Tryz.f7.body pRest) = true := by
  unfold IsEnv at h; subst h; kernel_rfl
theorem ops_drop : (opsFrom 4 (body7 Tryz.f7.body pReg)).2 = (opsFrom 4 (body7 Tryz.f7.body pReg)).1.drop 4 := by
  rw [reg_shape]; rfl

section
variable {n0 : Base} {w0 w : World} {K : Kx}
theorem step_wp {E : Env} (h : IsEnv E) (hp : PfOK n0) {back : St → Bool} {Z : St} {k av : Value} {F : List (List Value × Bool)} {V : List (List Value × Value)} {bad : List (List Value × Bool)} (hS : Step E back Z k av F V bad)
    {a : Act} (hR : Rep n0 w0 K ⟨Z.heap, Z.next, F, V⟩ w) (hr : RegRel K 99 (rAt (E.nv 7) (E.long 7) k av) a) (hbad : ∀ f, f ∈ bad → ∀ K', K.le K' → K'.pf = n0.pf → ¬ Den K' f.1 (.bool f.2))
    {C : Act → World → Prop} (hback : ∀ K' s' r' a' w', K.le K' → Rep n0 w0 K' s' w' → RegRel K' 99 r' a' → regsOK r' = true → back s' = true → C a' w') :
    wpList Tryz.prog (opsFrom 4 (body7 Tryz.f7.body pReg)).1.toArray (Exit.then ((body7 Tryz.f7.body pRest).wp Tryz.prog (fun e a' w' => (e = .normal ∨ e = .exit 1) ∧ C a' w')) (fun e a' w' => (e = .normal ∨ e = .exit 1) ∧ C a' w'))
      (opsFrom 4 (body7 Tryz.f7.body pReg)).2 a w := by
  have hP := progOK E h (n0 := n0) (w0 := w0) hp
  obtain ⟨hcs, hqs⟩ := callF_sound hP 3000 60
  unfold Step stepRun at hS
  split at hS
  · rename_i L hL
    unfold stepLeaves at hL
    split at hL
    · rename_i l hl
      refine evalOps_sound hP.env hcs (opsFrom 4 (body7 Tryz.f7.body pReg)).1 _ _ _ l K a w ?_ hl hR hr ?_
      · intro o ho t ht
        have hs := reg_slots
        rw [reg_shape] at hs
        refine slots_region hs o ?_ t ht
        rw [ops_drop] at ho
        exact List.mem_of_mem_drop ho
      · intro x hx K' a' w' hle hr' hR'
        obtain ⟨l', g1, g2⟩ := (bindL_mem hL (Exit.normal, x.1, x.2) (toLeaf_mem hx)).1 rfl
        show (body7 Tryz.f7.body pRest).wp Tryz.prog _ a' w'
        refine wp_mono ((evalCode_sound hP.env hP.mixed hcs hqs (body7 Tryz.f7.body pRest) rest_slots (rest_draws E h)).1 x.1 x.2 l' K' a' w' g1 hR' hr') ?_
        rintro e a2 w2 ⟨y, K2, y1, y2, y3, y4, y5⟩
        have hle2 := Kx.le_trans hle y3
        rcases gather_mem hS y (g2 y y1) with ⟨_, f, f1, f2⟩ | ⟨e1, e2, e3⟩
        · exact absurd (y5.facts f.1 f.2 f2) (hbad f f1 K2 hle2 y5.pfq)
        · rw [y2] at e1
          exact ⟨e1, hback K2 y.2.2 y.2.1 a2 w2 hle2 y5 y4 e2 e3⟩
    · cases hL
  · cases hS
end
end Go.Proofs.Qxb6500274aGreat
