import Derived.Test.Qxb6500275aGreatDoorXou
import Derived.Test.Qxb6500275aGreatDoorXov
import Derived.Test.Qxb6500275aGreatDoorXow
import Derived.Test.Qxb6500275aGreatDoorXox
import Derived.Test.Qxb6500275aGreatDoorXoz
set_option maxRecDepth 100000
set_option linter.unusedVariables false
set_option linter.unusedSimpArgs false
namespace Go.Proofs.Qxb6500275aGreatDoor
open Go Go.RowKit
/- ONE STEP OF THE MODEL'S MACHINE -/
theorem step_w {w : World} {N : EN} {q : MQ} (h : Em w N q.fuel q.S q.H) (hf : N.fs.map (·.1) = q.fr.reverse) (hM : ModOk N.m.mod) (hB : MB N.m.mod q) (hfu : q.fuel < 9223372036854775808) {e : Nat} {q' : MQ} (hr : stepM numI N.m.mod q = some (e, q')) : Calls Tryz.prog 199 #[.pointer (some ⟨N.xb, 0, none⟩)] w (Ez w N (e : Int) q') := by
  obtain ⟨r, rest, fn, t, e1, e2, e3, hFB, ef0, e4, e5, e6⟩ := hB.top
  obtain ⟨g, cap, q0, x, hE⟩ := Ew.start (fuel := 0) h hf (by rw [e1]; simp)
  have hfr := hE.fr
  rw [e1] at hfr
  simp only [List.cons.injEq] at hfr
  obtain ⟨rfl, hrest⟩ := hfr
  obtain ⟨q1, b, rfl⟩ : ∃ q1 b, q0 = q1 ++ [b] := by
    rcases List.eq_nil_or_concat q0 with e | ⟨q1, b, e⟩
    · rw [e] at hrest; simp at hrest; exact absurd hrest e2
    · exact ⟨q1, b, by rw [e, List.concat_eq_append]⟩
  have hq1 : q1.length ≤ 8 := by
    have := congrArg List.length hrest
    simp at this
    omega
  obtain ⟨k, hk⟩ : ∃ k : Nat, x.1.f = (k : Int) := ⟨x.1.f.toNat, by omega⟩
  have e4' : N.m.mod.funcs[k]? = some fn := by rw [hk, Int.toNat_natCast] at e4; exact e4
  obtain ⟨y, hyk, rfl⟩ : ∃ y, N.m.fs[k]? = some y ∧ y.1 = fn := by
    unfold MT.mod at e4'
    dsimp only at e4'
    rw [List.getElem?_map] at e4'
    cases hxx : N.m.fs[k]? with
    | none => rw [hxx] at e4'; simp at e4'
    | some x => rw [hxx] at e4'; simp at e4'; exact ⟨x, rfl, e4'⟩
  unfold stepM at hr
  rw [e1] at hr
  dsimp only at hr
  rw [e4] at hr
  dsimp only at hr
  have hr0 := iteC hr
  clear hr
  rcases hr0 with ⟨_, hr⟩ | ⟨hpc, hr⟩
  · simp at hr
  obtain ⟨⟨op, X, Y⟩, hi⟩ : ∃ i, opAt y.1 x.1.pc = i := ⟨_, rfl⟩
  rw [hi] at hr
  dsimp only at hr
  have hr0 := iteC hr
  clear hr
  rcases hr0 with ⟨ho, hr⟩ | ⟨ho1, hr⟩
  · simp only [Option.some.injEq, Prod.mk.injEq] at hr
    obtain ⟨rfl, rfl⟩ := hr
    rcases ho with rfl | rfl
    · exact st_open2 hE hM hFB hk hq1 hyk (by omega) hi
    · exact st_open3 hE hM hFB hk hq1 hyk (by omega) hi
  have hr0 := iteC hr
  clear hr
  rcases hr0 with ⟨ho, hr⟩ | ⟨ho2, hr⟩
  · subst ho
    cases hl : x.1.labs.getLast? with
    | none => rw [hl] at hr; simp at hr
    | some lab =>
      rw [hl] at hr
      simp only [Option.some.injEq, Prod.mk.injEq] at hr
      obtain ⟨rfl, rfl⟩ := hr
      exact st_else hE hM hFB hk hq1 hyk (by omega) hi hl e6
  have hr0 := iteC hr
  clear hr
  rcases hr0 with ⟨ho, hr⟩ | ⟨ho3, hr⟩
  · subst ho
    cases hl : x.1.labs.getLast? with
    | none =>
      rw [hl] at hr
      dsimp only at hr
      rw [e5] at hr
      dsimp only at hr
      have hr0 := iteC hr
      clear hr
      rcases hr0 with ⟨_, hr⟩ | ⟨hlen, hr⟩
      · simp at hr
      · obtain rfl : e = 0 := retM_e hr
        exact st_end0 hE hM hFB hk hq1 hyk (by omega) hi (by simpa using hl) e5 (by omega) hr
    | some lab =>
      rw [hl] at hr
      dsimp only at hr
      have hr0 := iteC hr
      clear hr
      rcases hr0 with ⟨_, hr⟩ | ⟨hlen, hr⟩
      · simp at hr
      have hr0 := iteC hr
      clear hr
      rcases hr0 with ⟨_, hr⟩ | ⟨hty, hr⟩
      · simp at hr
      simp only [Option.some.injEq, Prod.mk.injEq] at hr
      obtain ⟨rfl, rfl⟩ := hr
      refine st_end1 hE hM hFB hk hq1 hyk (by omega) hi hl e6 (by omega) ?_
      by_cases h64 : (opAt y.1 lab.1).x = 64
      · exact .inl h64
      · refine .inr (Classical.not_not.1 (fun hn => hty ⟨h64, hn⟩))
  have hr0 := iteC hr
  clear hr
  rcases hr0 with ⟨hf0, hr⟩ | ⟨hf0, hr⟩
  · simp only [Option.some.injEq, Prod.mk.injEq] at hr
    obtain ⟨rfl, rfl⟩ := hr
    exact st_dry hE hM hFB hk hq1 hyk (by omega) hi ⟨by omega, by omega, by omega, by omega⟩ hf0
  · obtain ⟨fu, hfu2⟩ : ∃ fu, q.fuel = fu + 1 := ⟨q.fuel - 1, by omega⟩
    rw [hfu2, Nat.add_sub_cancel] at hr
    exact st_deed hE hM hFB hk hq1 hyk (by omega) hi ⟨by omega, by omega, by omega, by omega⟩ hfu2 hfu e6 hB.sm hB.hm hB.bd hB.gl.1 hB.tab hr
end Go.Proofs.Qxb6500275aGreatDoor
