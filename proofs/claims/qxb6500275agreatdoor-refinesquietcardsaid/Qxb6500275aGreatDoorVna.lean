import Derived.Test.Qxb6500275aGreatDoorVn0
set_option maxRecDepth 1000000
set_option linter.unusedVariables false
set_option linter.unusedSimpArgs false
namespace Go.Proofs.Qxb6500275aGreatDoor
open Go Go.RowKit
/- a block within: w the world, lv its labels, s1 the operands that stay below -/
def Env189.inn (E : Env189) (w : World) (lv : Value) (lab res : ByteArray) (o : Nat) (s1 : ByteArray) (p : Bool) : Env189 :=
  { E with w := w, lv := lv, labs := E.labs ++ [lab], res := res, o := o, rest := argsV s1 ++ E.rest, r := ⟨E.o, firstV E.res, E.rest.length, p⟩ :: E.r, lev := E.lev - 1 }
section
variable {E : Env189} {w : World} {lv : Value} {lab res st st' s1 : ByteArray} {o pc q : Nat} {p p' : Bool} {x : Ins}
theorem bt_ok {z : Int} (h : z = 64 ∨ ∃ t : Nat, z = t ∧ isVal t) : OneT (btT z) ∧ firstV (btT z) = z.toNat % 256 ∧ (btT z).size = if z = 64 then 0 else 1 := by
  rcases h with h | ⟨t, rfl, h⟩
  · subst h
    exact ⟨⟨by decide, fun h => absurd h (by decide)⟩, by decide, by decide⟩
  · unfold isVal at h
    have e : btT (t : Int) = oneB t := by
      unfold btT
      rw [if_neg (by omega), Int.toNat_natCast, Nat.mod_eq_of_lt (by omega)]
    rw [e]
    refine ⟨⟨by rw [oneB_size]; omega, fun _ => by rw [oneB_at (by omega)]; exact h⟩, ?_, ?_⟩
    · rw [firstV_one (by omega), Int.toNat_natCast, Nat.mod_eq_of_lt (by omega)]
    · rw [if_neg (by omega), oneB_size]
theorem inn_len : (E.inn w lv lab res o s1 p).rest.length = E.rest.length + s1.size := by
  unfold Env189.inn
  dsimp only
  rw [List.length_append, argsV_len]
  omega
theorem inn_ok (hO : Ok189 E) (hr : OneT res) (hl : OneT lab) (hlw : labW ⟨o, firstV res, (E.inn w lv lab res o s1 p).rest.length, false⟩ = firstV lab) (hlev : 2 ≤ E.lev) (hs : E.rest.length + s1.size ≤ 10) : Ok189 (E.inn w lv lab res o s1 p) := by
  have h1 := hO.lev
  refine ⟨?_, hr, hO.resF, ⟨by show E.lev - 1 + (E.r.length + 1 + 1) = 8; omega, by show 1 ≤ E.lev - 1; omega⟩, hO.mod, hO.fnk, hO.par, hO.loc, ?_, by rw [inn_len]; exact hs⟩
  · have hb := hO.lab
    have hb2 : LabR E.labs ((⟨E.o, firstV E.res, E.rest.length, p⟩ : VF) :: E.r) := by
      refine ⟨hb.len, fun i b hb' hi => ?_, hb.one⟩
      have := hb.at_ i b hb' hi
      rw [← this]
      cases i <;> rfl
    exact hb2.push hl hlw
  · have hb := hO.bot
    unfold Env189.inn
    dsimp only
    rw [← hb]
    cases E.r with
    | nil => rfl
    | cons g gs =>
      obtain ⟨z, hz⟩ : ∃ z, (g :: gs).getLast? = some z := ⟨_, List.getLast?_eq_some_getLast (List.cons_ne_nil g gs)⟩
      simp [hz]
theorem inn_v : (E.inn w lv lab res o s1 p).v ByteArray.empty false = ⟨(E.v s1 p).ops, ⟨o, firstV res, (E.v s1 p).ops.length, false⟩ :: (E.v s1 p).ctl⟩ := by
  unfold Env189.inn Env189.v mkV
  dsimp only
  rfl
/- into the block -/
theorem inn_run (h : E.run pc st p) (hx : E.fn.body[pc]? = some x) (hs : stepV E.m.mod E.fn E.params pc (E.v st p) x = (⟨(E.v s1 p).ops, ⟨o, firstV res, (E.v s1 p).ops.length, false⟩ :: (E.v s1 p).ctl⟩, none)) : (E.inn w lv lab res o s1 p).run (pc + 1) ByteArray.empty false := by
  have hi := List.getElem?_eq_some_iff.1 hx
  have hk := VI.step h.mo h.fo h.pa h.vi (by unfold Env189.v mkV; simp) pc x (h.fo.body x (List.mem_of_getElem? hx))
  rw [hs] at hk
  have he := h.eq
  rw [List.drop_eq_getElem_cons hi.1, hi.2, bodyVL, hs] at he
  refine ⟨?_, ?_, h.mo, h.fo, h.pa, hi.1⟩
  · rw [inn_v]; exact he
  · rw [inn_v]; exact hk.vi
theorem inn_settled (hr : OneT res) (h1 : (popsS p' (argsV res) st').2 = true) (h2 : (popsS p' (argsV res) st').1.size = 0) : ∃ f, settledV ((E.inn w lv lab res o s1 p).v st' p') = (⟨(E.v s1 p).ops, f :: (E.v s1 p).ctl⟩, true) ∧ f.op = o ∧ f.res = firstV res ∧ f.floor = (E.v s1 p).ops.length := by
  have hs := settled_mk (o := o) (t := firstV res) (st := st') (p := p') (rest := argsV s1 ++ E.rest) (r := ⟨E.o, firstV E.res, E.rest.length, p⟩ :: E.r) hr rfl
  have e : (E.inn w lv lab res o s1 p).v st' p' = mkV o (firstV res) st' p' (argsV s1 ++ E.rest) (⟨E.o, firstV E.res, E.rest.length, p⟩ :: E.r) := rfl
  rw [e, hs, h1]
  have h3 : decide ((popsS p' (argsV res) st').1.size = 0) = true := decide_eq_true h2
  rw [h3]
  refine ⟨⟨o, firstV res, (argsV s1 ++ E.rest).length, p'⟩, ?_, rfl, rfl, rfl⟩
  unfold mkV
  rw [argsV_nil h2]
  rfl
/- else -/
theorem inn_else (h : (E.inn w lv lab res 4 s1 p).run q st' p') (hx : E.fn.body[q]? = some x) (ho : x.op = 5) (hr : OneT res) (h1 : (popsS p' (argsV res) st').2 = true) (h2 : (popsS p' (argsV res) st').1.size = 0) (w' : World) (lv' : Value) : (E.inn w' lv' lab res 5 s1 p).run (q + 1) ByteArray.empty false := by
  obtain ⟨f, hs, f1, f2, f3⟩ := inn_settled (E := E) (w := w) (lv := lv) (lab := lab) (o := 4) (s1 := s1) (p := p) hr h1 h2
  have hst : stepV E.m.mod E.fn E.params q ((E.inn w lv lab res 4 s1 p).v st' p') x = (⟨(E.v s1 p).ops, ⟨5, firstV res, (E.v s1 p).ops.length, false⟩ :: (E.v s1 p).ctl⟩, none) := by
    unfold stepV
    rw [if_neg (by omega), if_neg (by omega), if_neg (by omega), if_neg (by omega), if_pos ho, hs]
    dsimp only
    rw [if_pos rfl, if_neg (by unfold Env189.v mkV; simp), if_pos (by exact f1)]
    obtain ⟨fo, fr, ff, fd⟩ := f
    dsimp only at f1 f2 f3
    subst f1 f2 f3
    rfl
  have hi := List.getElem?_eq_some_iff.1 hx
  have hk := VI.step h.mo h.fo h.pa h.vi (by unfold Env189.v mkV; simp) q x (h.fo.body x (List.mem_of_getElem? hx))
  have hst2 : stepV (E.inn w lv lab res 4 s1 p).m.mod (E.inn w lv lab res 4 s1 p).fn (E.inn w lv lab res 4 s1 p).params q ((E.inn w lv lab res 4 s1 p).v st' p') x = _ := hst
  rw [hst2] at hk
  have he : bodyVL E.m.mod E.fn E.params (E.fn.body.drop q) q ((E.inn w lv lab res 4 s1 p).v st' p') = E.X := h.eq
  rw [List.drop_eq_getElem_cons hi.1, hi.2, bodyVL, hst] at he
  refine ⟨?_, ?_, h.mo, h.fo, h.pa, hi.1⟩
  · rw [inn_v]; exact he
  · rw [inn_v]; exact hk.vi
theorem inn_els11 (h : (E.inn w lv lab res o s1 p).run q st' p') (hx : E.fn.body[q]? = some x) (ho : x.op = 5) (hr : OneT res) (h1 : (popsS p' (argsV res) st').2 = true) (h2 : (popsS p' (argsV res) st').1.size = 0) (h4 : o ≠ 4) : E.X.2 = (q, 11) := by
  obtain ⟨f, hs, f1, f2, f3⟩ := inn_settled (E := E) (w := w) (lv := lv) (lab := lab) (o := o) (s1 := s1) (p := p) hr h1 h2
  have hst : stepV E.m.mod E.fn E.params q ((E.inn w lv lab res o s1 p).v st' p') x = (⟨(E.v s1 p).ops, f :: (E.v s1 p).ctl⟩, some (q, 11)) := by
    unfold stepV
    rw [if_neg (by omega), if_neg (by omega), if_neg (by omega), if_neg (by omega), if_pos ho, hs]
    dsimp only
    rw [if_pos rfl, if_neg (by unfold Env189.v mkV; simp), if_neg (by show ¬ f.op = 4; rw [f1]; exact h4)]
  exact Env189.stop h hx hst
theorem inn_end27 (h : (E.inn w lv lab res 4 s1 p).run q st' p') (hx : E.fn.body[q]? = some x) (ho : x.op = 11) (hr : OneT res) (h1 : (popsS p' (argsV res) st').2 = true) (h2 : (popsS p' (argsV res) st').1.size = 0) (h4 : res.size ≠ 0) : E.X.2 = (q, 27) := by
  obtain ⟨f, hs, f1, f2, f3⟩ := inn_settled (E := E) (w := w) (lv := lv) (lab := lab) (o := 4) (s1 := s1) (p := p) hr h1 h2
  have hst : stepV E.m.mod E.fn E.params q ((E.inn w lv lab res 4 s1 p).v st' p') x = (⟨(E.v s1 p).ops, f :: (E.v s1 p).ctl⟩, some (q, 27)) := by
    unfold stepV
    rw [if_neg (by omega), if_neg (by omega), if_neg (by omega), if_neg (by omega), if_neg (by omega), if_pos ho, hs]
    dsimp only
    rw [if_pos rfl, if_pos ⟨by exact f1, by show f.res ≠ 64; rw [f2]; exact (hr.ne h4).2.1⟩]
  exact Env189.stop h hx hst
theorem inn_end (h : (E.inn w lv lab res o s1 p).run q st' p') (hx : E.fn.body[q]? = some x) (ho : x.op = 11) (hr : OneT res) (h1 : (popsS p' (argsV res) st').2 = true) (h2 : (popsS p' (argsV res) st').1.size = 0) (h4 : o ≠ 4 ∨ res.size = 0) (hl : E.rest.length + s1.size ≤ 10) :
    (10 < E.rest.length + (s1.size + res.size) → E.X.2 = (q, 28)) ∧ (¬ 10 < E.rest.length + (s1.size + res.size) → E.run (q + 1) (s1 ++ res) p) := by
  obtain ⟨f, hs, f1, f2, f3⟩ := inn_settled (E := E) (w := w) (lv := lv) (lab := lab) (o := o) (s1 := s1) (p := p) hr h1 h2
  have h64 : res.size = 1 → bAt res 0 ≠ 64 := fun h e => by
    have := hr.2 h
    unfold isVal at this
    omega
  have hg := give_text (o := E.o) (t := firstV E.res) (st := s1) (p := p) (rest := E.rest) (r := E.r) (b := res) (pc := q) hr.1 h64 hl
  have hst : stepV E.m.mod E.fn E.params q ((E.inn w lv lab res o s1 p).v st' p') x = giveV q (E.v s1 p, firstV res, 0) := by
    unfold stepV
    rw [if_neg (by omega), if_neg (by omega), if_neg (by omega), if_neg (by omega), if_neg (by omega), if_pos ho, hs]
    dsimp only
    rw [if_pos rfl, if_neg (by
      rintro ⟨k1, k2⟩
      have k1' : f.op = 4 := k1
      have k2' : f.res ≠ 64 := k2
      rw [f1] at k1'
      rw [f2] at k2'
      rcases h4 with h4 | h4
      · exact h4 k1'
      · exact k2' (OneT.zero h4).1), if_neg (by unfold Env189.v mkV; simp)]
    show giveV q (⟨(E.v s1 p).ops, (E.v s1 p).ctl⟩, f.res, 0) = _
    rw [f2]
  have hg2 : giveV q (E.v s1 p, firstV res, 0) = if 10 < E.rest.length + (s1 ++ res).size then (E.v s1 p, some (q, 28)) else (E.v (s1 ++ res) p, none) := hg
  rw [ByteArray.size_append] at hg2
  rw [hg2] at hst
  constructor
  · intro hd
    rw [if_pos hd] at hst
    exact Env189.stop h hx hst
  · intro hd
    rw [if_neg hd] at hst
    have hi := List.getElem?_eq_some_iff.1 hx
    have hk := VI.step h.mo h.fo h.pa h.vi (by unfold Env189.v mkV; simp) q x (h.fo.body x (List.mem_of_getElem? hx))
    have hst2 : stepV (E.inn w lv lab res o s1 p).m.mod (E.inn w lv lab res o s1 p).fn (E.inn w lv lab res o s1 p).params q ((E.inn w lv lab res o s1 p).v st' p') x = _ := hst
    rw [hst2] at hk
    have he : bodyVL E.m.mod E.fn E.params (E.fn.body.drop q) q ((E.inn w lv lab res o s1 p).v st' p') = E.X := h.eq
    rw [List.drop_eq_getElem_cons hi.1, hi.2, bodyVL, hst] at he
    exact ⟨he, hk.vi, h.mo, h.fo, h.pa, hi.1⟩
/- the round of a block, plain -/
theorem step_blk (hO : Ok189 E) (ho : x.op = 2 ∨ x.op = 3) (hr : firstV res = x.x.toNat % 256) : stepV E.m.mod E.fn E.params pc (E.v st p) x = if E.lev = 1 then (E.v st p, some (pc + 1, 11)) else (⟨(E.v st p).ops, ⟨x.op, firstV res, (E.v st p).ops.length, false⟩ :: (E.v st p).ctl⟩, none) := by
  have h1 := hO.lev
  unfold stepV
  rw [if_neg (by omega), if_neg (by omega), if_pos ho, hr]
  by_cases h : E.lev = 1
  · rw [if_pos h, if_pos (by rw [ctlE]; omega)]
  · rw [if_neg h, if_neg (by rw [ctlE]; omega)]
theorem step_if {g1 : Nat} {ok1 : Bool} (hO : Ok189 E) (ho : x.op = 4) (hr : firstV res = x.x.toNat % 256) (h1 : popS st p 127 = (s1, g1, ok1)) : stepV E.m.mod E.fn E.params pc (E.v st p) x = cond ok1 (if E.lev = 1 then (E.v s1 p, some (pc + 1, 11)) else (⟨(E.v s1 p).ops, ⟨4, firstV res, (E.v s1 p).ops.length, false⟩ :: (E.v s1 p).ctl⟩, none)) (E.v s1 p, some (pc, 27)) := by
  have hl := hO.lev
  unfold stepV
  rw [if_neg (by omega), if_neg (by omega), if_neg (by omega), if_pos ho, carryE (by decide) h1, hr]
  dsimp only
  cases ok1 with
  | false => rfl
  | true =>
    rw [if_pos rfl]
    show _ = if E.lev = 1 then _ else _
    by_cases h : E.lev = 1
    · rw [if_pos h, if_pos (by rw [ctlE]; omega)]
    · rw [if_neg h, if_neg (by rw [ctlE]; omega)]
end
end Go.Proofs.Qxb6500275aGreatDoor
