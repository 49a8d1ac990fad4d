import Derived.Test.Qxb6500275aGreatDoorVna
import Derived.Test.Qxb6500275aGreatDoorSy2
set_option maxRecDepth 1000000
set_option linter.unusedVariables false
set_option linter.unusedSimpArgs false
namespace Go.Proofs.Qxb6500275aGreatDoor
open Go Go.RowKit
section
variable {E : Env189} {q pc : Nat} {st : ByteArray} {p : Bool} {x : Ins}
/- the whole's closer -/
theorem root_shut (hO : Ok189 E) (h1 : E.r = []) (h2 : E.rest = []) (h3 : E.o = 2) (h : E.run q st p) (hx : E.fn.body[q]? = some x) (hc : x.op = 5 ∨ x.op = 11) (p1 : (popsS p (argsV E.res) st).2 = true) (p2 : (popsS p (argsV E.res) st).1.size = 0) :
    E.X.2 = if x.op = 11 ∧ q + 1 = E.fn.body.length then (0, 0) else (q + 1, 11) := by
  have hs := settled_mk (o := E.o) (t := firstV E.res) (st := st) (p := p) (rest := E.rest) (r := E.r) hO.res rfl
  have hs2 : settledV (E.v st p) = (mkV E.o (firstV E.res) (popsS p (argsV E.res) st).1 p E.rest E.r, true) := by
    unfold Env189.v
    rw [hs, p1, decide_eq_true p2]
    rfl
  have hl : (mkV E.o (firstV E.res) (popsS p (argsV E.res) st).1 p E.rest E.r).ctl.length = 1 := by unfold mkV; rw [h1]; rfl
  have ht : (mkV E.o (firstV E.res) (popsS p (argsV E.res) st).1 p E.rest E.r).top.op = 2 := h3
  rcases hc with hc | hc
  · rw [if_neg (by omega)]
    refine Env189.stop h hx (v' := mkV E.o (firstV E.res) (popsS p (argsV E.res) st).1 p E.rest E.r) ?_
    unfold stepV
    rw [if_neg (by omega), if_neg (by omega), if_neg (by omega), if_neg (by omega), if_pos hc, hs2]
    dsimp only
    rw [if_pos rfl, if_pos hl]
  · by_cases hq : q + 1 = E.fn.body.length
    · rw [if_pos ⟨hc, hq⟩]
      refine Env189.stop h hx (v' := ⟨(mkV E.o (firstV E.res) (popsS p (argsV E.res) st).1 p E.rest E.r).ops, (mkV E.o (firstV E.res) (popsS p (argsV E.res) st).1 p E.rest E.r).ctl.tail⟩) ?_
      unfold stepV
      rw [if_neg (by omega), if_neg (by omega), if_neg (by omega), if_neg (by omega), if_neg (by omega), if_pos hc, hs2]
      dsimp only
      rw [if_pos rfl, if_neg (by rw [ht]; omega), if_pos hl, if_pos hq]
    · rw [if_neg (fun h => hq h.2)]
      refine Env189.stop h hx (v' := ⟨(mkV E.o (firstV E.res) (popsS p (argsV E.res) st).1 p E.rest E.r).ops, (mkV E.o (firstV E.res) (popsS p (argsV E.res) st).1 p E.rest E.r).ctl.tail⟩) ?_
      unfold stepV
      rw [if_neg (by omega), if_neg (by omega), if_neg (by omega), if_neg (by omega), if_neg (by omega), if_pos hc, hs2]
      dsimp only
      rw [if_pos rfl, if_neg (by rw [ht]; omega), if_pos hl, if_neg hq]
end
/- the check of one function, as it begins -/
def env0 (w : World) (cb mb gf fo : Nat) (m : MT) (x : Fn × Value × Value) (lv : Value) (t : Ty) : Env189 :=
  ⟨w, cb, mb, gf, fo, m, x.1, x.2.1, x.2.2, lv, [t.q], t.p ++ x.1.locals, t.q, t.p, t.q, 2, [], [], 7, bodyV m.mod x.1⟩
section
variable {w u u1 : World} {cb mb gf fo : Nat} {m : MT} {x : Fn × Value × Value} {lv : Value} {t : Ty} {k : Nat}
theorem q_one (hT : TyOk t) : OneT t.q := ⟨hT.nq, fun h => hT.q 0 (by omega)⟩
theorem env0_ok (hM : ModOk m.mod) (hx : m.fs[k]? = some x) (hT : TyOk t) : Ok189 (env0 w cb mb gf fo m x lv t) := by
  have hq := q_one hT
  refine ⟨?_, hq, hq, ⟨rfl, show 1 ≤ 7 by decide⟩, hM, hM.funcs x.1 (by unfold MT.mod; exact List.mem_map.2 ⟨x, List.mem_of_getElem? hx, rfl⟩), ⟨hT.np, hT.p⟩, rfl, rfl, show 0 ≤ 10 by decide⟩
  refine ⟨rfl, fun i b hb hi => ?_, fun b hb => ?_⟩
  · have hi0 : i = 0 := by have h1 : i < 1 := hi; omega
    subst hi0
    have : some t.q = some b := hb
    injection this with e
    subst e
    rfl
  · have : b = t.q := by simpa [env0] using hb
    rw [this]; exact hq
theorem env0_run (hM : ModOk m.mod) (hx : m.fs[k]? = some x) (hT : TyOk t) (ht : m.mod.typeAt x.1.ty = some t) : (env0 w cb mb gf fo m x lv t).run 0 ByteArray.empty false := by
  have hr : resOk (firstV t.q) := by
    unfold firstV resOk
    split
    · exact .inl rfl
    · exact .inr (hT.q 0 (by omega))
  refine ⟨?_, VI.start hr, hM, hM.funcs x.1 (by unfold MT.mod; exact List.mem_map.2 ⟨x, List.mem_of_getElem? hx, rfl⟩), hT.p, Nat.zero_le _⟩
  show bodyVL m.mod x.1 t.p (x.1.body.drop 0) 0 _ = bodyV m.mod x.1
  unfold bodyV
  rw [ht, List.drop_zero]
  rfl
end
end Go.Proofs.Qxb6500275aGreatDoor
