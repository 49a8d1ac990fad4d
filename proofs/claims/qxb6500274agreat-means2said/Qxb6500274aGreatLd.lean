import Derived.Test.Qxb6500274aGreatLc
set_option maxRecDepth 100000
namespace Go.Proofs.Qxb6500274aGreat
open Go Go.Sx
theorem ld_new (E : Env) (h : IsEnv E) (s : St) (hs : IsNew s) : callF E 3000 60 16 [] ⟨[], 0, [], []⟩ = some [(.pointer (some ⟨12, 0, none⟩), s)] := by
  unfold IsEnv at h; unfold IsNew at hs; subst h; subst hs; kernel_rfl
theorem ld_1 (E : Env) (h : IsEnv E) (s : St) (hs : IsNew s) (r' : Rg) (s' : St) (hr' : IsR4 r') (hs' : IsS4 s') (txt : Value) (ht : txt = (match body7 Tryz.f7.body [1, 1, 0] with | .region _ ops _ => probeOf ops.toList | _ => .bool false)) :
    evN E (callF E 3000 59) 17 3000 [body7 Tryz.f17.body [0], body7 Tryz.f17.body [1, 0], body7 Tryz.f17.body [1, 1, 0], body7 Tryz.f17.body [1, 1, 1, 0]] (enter (E.nv 17) (E.long 17) [.pointer (some ⟨12, 0, none⟩), txt, .int .i64 3]) s = some (r', s') := by
  unfold IsEnv at h; unfold IsNew at hs; unfold IsR4 at hr'; unfold IsS4 at hs'; subst h; subst hs; subst hr'; subst hs'; subst ht; kernel_rfl
theorem ld_2 (E : Env) (h : IsEnv E) (r : Rg) (s : St) (hr : IsR4 r) (hs : IsS4 s) (r' : Rg) (s' : St) (hr' : IsR6 r') (hs' : IsS6 s') :
    evN E (callF E 3000 59) 17 3000 [body7 Tryz.f17.body [1, 1, 1, 1, 0], body7 Tryz.f17.body [1, 1, 1, 1, 1, 0]] r s = some (r', s') := by
  unfold IsEnv at h; unfold IsR4 at hr; unfold IsS4 at hs; unfold IsR6 at hr'; unfold IsS6 at hs'; subst h; subst hr; subst hs; subst hr'; subst hs'; kernel_rfl
theorem ld_3 (E : Env) (h : IsEnv E) (r : Rg) (s : St) (hr : IsR6 r) (hs : IsS6 s) (r' : Rg) (s' : St) (hr' : IsR8 r') (hs' : IsS8 s') :
    evN E (callF E 3000 59) 17 3000 [body7 Tryz.f17.body [1, 1, 1, 1, 1, 1, 0], body7 Tryz.f17.body [1, 1, 1, 1, 1, 1, 1, 0]] r s = some (r', s') := by
  unfold IsEnv at h; unfold IsR6 at hr; unfold IsS6 at hs; unfold IsR8 at hr'; unfold IsS8 at hs'; subst h; subst hr; subst hs; subst hr'; subst hs'; kernel_rfl
theorem ld_4 (E : Env) (h : IsEnv E) (r : Rg) (s : St) (hr : IsR8 r) (hs : IsS8 s) (r' : Rg) (s' : St) (hr' : IsR9 r') (hs' : IsS9 s') :
    evalCode E (callF E 3000 59) 17 3000 (body7 Tryz.f17.body [1, 1, 1, 1, 1, 1, 1, 1]) none r s = some [(.ret, r', s')] := by
  unfold IsEnv at h; unfold IsR8 at hr; unfold IsS8 at hs; unfold IsR9 at hr'; unfold IsS9 at hs'; subst h; subst hr; subst hs; subst hr'; subst hs'; kernel_rfl
theorem ld_shape : Tryz.f17.body = some (seqs [body7 Tryz.f17.body [0], body7 Tryz.f17.body [1, 0], body7 Tryz.f17.body [1, 1, 0], body7 Tryz.f17.body [1, 1, 1, 0], body7 Tryz.f17.body [1, 1, 1, 1, 0], body7 Tryz.f17.body [1, 1, 1, 1, 1, 0], body7 Tryz.f17.body [1, 1, 1, 1, 1, 1, 0], body7 Tryz.f17.body [1, 1, 1, 1, 1, 1, 1, 0]] (body7 Tryz.f17.body [1, 1, 1, 1, 1, 1, 1, 1])) := by kernel_rfl
theorem ld_leave (E : Env) (h : IsEnv E) (r : Rg) (s : St) (hr : IsR9 r) : leave E Tryz.f17 [(.ret, r, s)] = some [(.tuple #[.int .i64 0, .int .i64 0, .int .i64 0], s)] := by
  unfold IsEnv at h; unfold IsR9 at hr; subst h; subst hr; kernel_rfl
theorem ld_fn (E : Env) (h : IsEnv E) : E.fn 17 = some Tryz.f17 ∧ E.prim 17 = none := by
  unfold IsEnv at h; subst h; exact ⟨by kernel_rfl, by kernel_rfl⟩
theorem ld_all (E : Env) (h : IsEnv E) (s s' : St) (hs : IsNew s) (hs' : IsS9 s') (txt : Value) (ht : txt = (match body7 Tryz.f7.body [1, 1, 0] with | .region _ ops _ => probeOf ops.toList | _ => .bool false)) :
    callF E 3000 60 17 [.pointer (some ⟨12, 0, none⟩), txt, .int .i64 3] s = some [(.tuple #[.int .i64 0, .int .i64 0, .int .i64 0], s')] := by
  obtain ⟨r4, hr4⟩ : ∃ r, IsR4 r := ⟨_, rfl⟩
  obtain ⟨s4, hs4⟩ : ∃ s, IsS4 s := ⟨_, rfl⟩
  obtain ⟨r6, hr6⟩ : ∃ r, IsR6 r := ⟨_, rfl⟩
  obtain ⟨s6, hs6⟩ : ∃ s, IsS6 s := ⟨_, rfl⟩
  obtain ⟨r8, hr8⟩ : ∃ r, IsR8 r := ⟨_, rfl⟩
  obtain ⟨s8, hs8⟩ : ∃ s, IsS8 s := ⟨_, rfl⟩
  obtain ⟨r9, hr9⟩ : ∃ r, IsR9 r := ⟨_, rfl⟩
  obtain ⟨hfn, hpr⟩ := ld_fn E h
  have h1 := ld_1 E h s hs r4 s4 hr4 hs4 txt ht
  have h2 := ld_2 E h r4 s4 hr4 hs4 r6 s6 hr6 hs6
  have h3 := ld_3 E h r6 s6 hr6 hs6 r8 s8 hr8 hs8
  have h4 := ld_4 E h r8 s8 hr8 hs8 r9 s' hr9 hs'
  have h5 := ld_leave E h r9 s' hr9
  have key : evalCode E (callF E 3000 59) 17 3000 (seqs [body7 Tryz.f17.body [0], body7 Tryz.f17.body [1, 0], body7 Tryz.f17.body [1, 1, 0], body7 Tryz.f17.body [1, 1, 1, 0], body7 Tryz.f17.body [1, 1, 1, 1, 0], body7 Tryz.f17.body [1, 1, 1, 1, 1, 0], body7 Tryz.f17.body [1, 1, 1, 1, 1, 1, 0], body7 Tryz.f17.body [1, 1, 1, 1, 1, 1, 1, 0]] (body7 Tryz.f17.body [1, 1, 1, 1, 1, 1, 1, 1])) none (enter (E.nv 17) (E.long 17) [.pointer (some ⟨12, 0, none⟩), txt, .int .i64 3]) s = some [(.ret, r9, s')] := by
    show evalCode E (callF E 3000 59) 17 3000 (seqs [body7 Tryz.f17.body [0], body7 Tryz.f17.body [1, 0], body7 Tryz.f17.body [1, 1, 0], body7 Tryz.f17.body [1, 1, 1, 0]] (seqs [body7 Tryz.f17.body [1, 1, 1, 1, 0], body7 Tryz.f17.body [1, 1, 1, 1, 1, 0]] (seqs [body7 Tryz.f17.body [1, 1, 1, 1, 1, 1, 0], body7 Tryz.f17.body [1, 1, 1, 1, 1, 1, 1, 0]] (body7 Tryz.f17.body [1, 1, 1, 1, 1, 1, 1, 1])))) none (enter (E.nv 17) (E.long 17) [.pointer (some ⟨12, 0, none⟩), txt, .int .i64 3]) s = some [(.ret, r9, s')]
    rw [evN_seqs h1, evN_seqs h2, evN_seqs h3, h4]
  have e : callF E 3000 60 17 [.pointer (some ⟨12, 0, none⟩), txt, .int .i64 3] s = (match E.prim 17 with
    | some f => f [.pointer (some ⟨12, 0, none⟩), txt, .int .i64 3] s
    | none => match E.fn 17 with
      | some f => match f.body with
        | some c => match evalCode E (callF E 3000 59) 17 3000 c none (enter (E.nv 17) (E.long 17) [.pointer (some ⟨12, 0, none⟩), txt, .int .i64 3]) s with
          | some l => leave E f l
          | none => none
        | none => none
      | none => none) := rfl
  rw [e, hpr, hfn]
  dsimp only
  rw [ld_shape]
  dsimp only
  rw [key]
  exact h5
end Go.Proofs.Qxb6500274aGreat
