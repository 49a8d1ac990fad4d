import Derived.Test.Qxb6500274aGreatWEnvTy
import Derived.Test.Qxb6500274aGreatWEnvFn
namespace Go.Proofs.Qxb6500274aGreat
open Go Go.Sx
set_option maxRecDepth 100000

theorem me223c (v : Value) (args : Array Value) (w : World) : (callMethod (.iface 223 v) "Call" args).run Tryz.prog w = (callFunc 281 (#[v] ++ args)).run Tryz.prog w := by
  have h : (method (Tryz.prog.types.size + Made.depth) 223 v "Call").run Tryz.prog w = .ok (281, v) w := by kernel_rfl
  simp only [callMethod, Sem.run_bind, run_program, Result.andThen_ok, h]

theorem me276c (v : Value) (args : Array Value) (w : World) : (callMethod (.iface 276 v) "Call" args).run Tryz.prog w = (callFunc 283 (#[v] ++ args)).run Tryz.prog w := by
  have h : (method (Tryz.prog.types.size + Made.depth) 276 v "Call").run Tryz.prog w = .ok (283, v) w := by kernel_rfl
  simp only [callMethod, Sem.run_bind, run_program, Result.andThen_ok, h]

theorem me278c (v : Value) (args : Array Value) (w : World) : (callMethod (.iface 278 v) "Call" args).run Tryz.prog w = (callFunc 284 (#[v] ++ args)).run Tryz.prog w := by
  have h : (method (Tryz.prog.types.size + Made.depth) 278 v "Call").run Tryz.prog w = .ok (284, v) w := by kernel_rfl
  simp only [callMethod, Sem.run_bind, run_program, Result.andThen_ok, h]

theorem me279c (v : Value) (args : Array Value) (w : World) : (callMethod (.iface 279 v) "Call" args).run Tryz.prog w = (callFunc 285 (#[v] ++ args)).run Tryz.prog w := by
  have h : (method (Tryz.prog.types.size + Made.depth) 279 v "Call").run Tryz.prog w = .ok (285, v) w := by kernel_rfl
  simp only [callMethod, Sem.run_bind, run_program, Result.andThen_ok, h]

theorem me223w (v : Value) (args : Array Value) (w : World) : (callMethod (.iface 223 v) "Wants" args).run Tryz.prog w = (callFunc 282 (#[v] ++ args)).run Tryz.prog w := by
  have h : (method (Tryz.prog.types.size + Made.depth) 223 v "Wants").run Tryz.prog w = .ok (282, v) w := by kernel_rfl
  simp only [callMethod, Sem.run_bind, run_program, Result.andThen_ok, h]

theorem missing_one (want : Array (String × TypeId)) (got : Array Method) (x : String) (h : (want.toList.filter fun (name, sig) => !got.any fun m => m.name == name && m.sig == sig).map (·.1) = [x]) : (Instr.missingMethod want got).isNone = false := by
  unfold Instr.missingMethod
  simp only [h]
  cases hx : x.contains '.' <;> simp [List.partition, List.partition.loop, hx, Instr.least]

theorem im223 (want : Array (String × TypeId)) (hw : Tryz.prog.underlying 293 = some (.interface want)) : ∃ inf, Tryz.prog.info? 223 = some inf ∧ (Instr.missingMethod want inf.methods).isNone = true := by
  refine ⟨Tryz.t223, by kernel_rfl, ?_⟩
  have h : Tryz.prog.underlying 293 = some Tryz.t292.desc := by kernel_rfl
  rw [h] at hw
  have h2 : ∃ w0, Tryz.t292.desc = .interface w0 ∧ (Instr.missingMethod w0 Tryz.t223.methods).isNone = true := ⟨_, rfl, by kernel_rfl⟩
  obtain ⟨w0, e1, e2⟩ := h2
  rw [e1] at hw
  injection hw with hw
  injection hw with hw
  rw [← hw]
  exact e2

theorem im276 (want : Array (String × TypeId)) (hw : Tryz.prog.underlying 293 = some (.interface want)) : ∃ inf, Tryz.prog.info? 276 = some inf ∧ (Instr.missingMethod want inf.methods).isNone = false := by
  refine ⟨Tryz.t276, by kernel_rfl, ?_⟩
  have h : Tryz.prog.underlying 293 = some Tryz.t292.desc := by kernel_rfl
  rw [h] at hw
  have h2 : ∃ w0, Tryz.t292.desc = .interface w0 ∧ (Instr.missingMethod w0 Tryz.t276.methods).isNone = false := ⟨_, rfl, missing_one _ _ "Wants" (by kernel_rfl)⟩
  obtain ⟨w0, e1, e2⟩ := h2
  rw [e1] at hw
  injection hw with hw
  injection hw with hw
  rw [← hw]
  exact e2

theorem im278 (want : Array (String × TypeId)) (hw : Tryz.prog.underlying 293 = some (.interface want)) : ∃ inf, Tryz.prog.info? 278 = some inf ∧ (Instr.missingMethod want inf.methods).isNone = false := by
  refine ⟨Tryz.t278, by kernel_rfl, ?_⟩
  have h : Tryz.prog.underlying 293 = some Tryz.t292.desc := by kernel_rfl
  rw [h] at hw
  have h2 : ∃ w0, Tryz.t292.desc = .interface w0 ∧ (Instr.missingMethod w0 Tryz.t278.methods).isNone = false := ⟨_, rfl, missing_one _ _ "Wants" (by kernel_rfl)⟩
  obtain ⟨w0, e1, e2⟩ := h2
  rw [e1] at hw
  injection hw with hw
  injection hw with hw
  rw [← hw]
  exact e2

theorem im279 (want : Array (String × TypeId)) (hw : Tryz.prog.underlying 293 = some (.interface want)) : ∃ inf, Tryz.prog.info? 279 = some inf ∧ (Instr.missingMethod want inf.methods).isNone = false := by
  refine ⟨Tryz.t279, by kernel_rfl, ?_⟩
  have h : Tryz.prog.underlying 293 = some Tryz.t292.desc := by kernel_rfl
  rw [h] at hw
  have h2 : ∃ w0, Tryz.t292.desc = .interface w0 ∧ (Instr.missingMethod w0 Tryz.t279.methods).isNone = false := ⟨_, rfl, missing_one _ _ "Wants" (by kernel_rfl)⟩
  obtain ⟨w0, e1, e2⟩ := h2
  rw [e1] at hw
  injection hw with hw
  injection hw with hw
  rw [← hw]
  exact e2

theorem cond_some {α : Type} {c : Bool} {x y : Option α} {a : α} (h : cond c x y = some a) : (c = true ∧ x = some a) ∨ (c = false ∧ y = some a) := by
  cases c
  · exact .inr ⟨rfl, h⟩
  · exact .inl ⟨rfl, h⟩

theorem envOK {E : Env} (h : IsEnv E) (hflat : ∀ t i, E.flat t = true → E.ti t = some i → FlatOK Tryz.prog t i.zero) : EnvOK Tryz.prog E := by
  have hty : ∀ t i, E.ti t = some i → TRow Tryz.prog t i := by
    intro t i hi
    unfold IsEnv at h
    rw [h] at hi
    exact tyAll.get hi
  refine ⟨fun t i hi => (hty t i hi).ok, ?_, hflat, fun t i fs j fd hi hd hj => fld_of (hty t i hi).fl fs j fd hd hj, ?_, ?_⟩
  · intro g f hg
    have hall := fnAll E h
    unfold IsEnv at h
    rw [h] at hg
    have := hall.get hg
    exact ⟨this.here, this.nm⟩
  · intro t u b hb want hw
    unfold IsEnv at h
    rw [h] at hb
    simp only at hb
    rcases cond_some hb with ⟨e1, h1⟩ | ⟨_, h1⟩
    · have e1 := Nat.eq_of_beq_eq_true e1
      rw [e1] at hw
      rcases cond_some h1 with ⟨e2, h2⟩ | ⟨_, h2⟩
      · rw [Nat.eq_of_beq_eq_true e2]
        simp at h2; subst h2
        exact im223 want hw
      rcases cond_some h2 with ⟨e2, h3⟩ | ⟨_, h3⟩
      · rw [Nat.eq_of_beq_eq_true e2]
        simp at h3; subst h3
        exact im276 want hw
      rcases cond_some h3 with ⟨e2, h4⟩ | ⟨_, h4⟩
      · rw [Nat.eq_of_beq_eq_true e2]
        simp at h4; subst h4
        exact im278 want hw
      rcases cond_some h4 with ⟨e2, h5⟩ | ⟨_, h5⟩
      · rw [Nat.eq_of_beq_eq_true e2]
        simp at h5; subst h5
        exact im279 want hw
      · simp at h5
    · simp at h1
  · intro t n g hg v args w
    unfold IsEnv at h
    rw [h] at hg
    simp only at hg
    rcases cond_some hg with ⟨e1, h1⟩ | ⟨_, h1⟩
    · have e1 : n = "Call" := by simpa using e1
      rw [e1]
      rcases cond_some h1 with ⟨e2, h2⟩ | ⟨_, h2⟩
      · rw [Nat.eq_of_beq_eq_true e2]
        simp at h2; subst h2
        exact me223c v args w
      rcases cond_some h2 with ⟨e2, h3⟩ | ⟨_, h3⟩
      · rw [Nat.eq_of_beq_eq_true e2]
        simp at h3; subst h3
        exact me276c v args w
      rcases cond_some h3 with ⟨e2, h4⟩ | ⟨_, h4⟩
      · rw [Nat.eq_of_beq_eq_true e2]
        simp at h4; subst h4
        exact me278c v args w
      rcases cond_some h4 with ⟨e2, h5⟩ | ⟨_, h5⟩
      · rw [Nat.eq_of_beq_eq_true e2]
        simp at h5; subst h5
        exact me279c v args w
      · simp at h5
    · rcases cond_some h1 with ⟨e1, h2⟩ | ⟨_, h2⟩
      · have e1 : n = "Wants" := by simpa using e1
        rw [e1]
        rcases cond_some h2 with ⟨e2, h3⟩ | ⟨_, h3⟩
        · rw [Nat.eq_of_beq_eq_true e2]
          simp at h3; subst h3
          exact me223w v args w
        · simp at h3
      · simp at h2
end Go.Proofs.Qxb6500274aGreat
