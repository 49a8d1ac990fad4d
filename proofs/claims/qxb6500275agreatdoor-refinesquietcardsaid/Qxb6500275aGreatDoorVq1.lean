import Derived.Test.Qxb6500275aGreatDoorVnd
import Derived.Test.Qxb6500275aGreatDoorVp7
import Derived.Test.Qxb6500275aGreatDoorVq0
set_option maxRecDepth 1000000
set_option linter.unusedVariables false
set_option linter.unusedSimpArgs false
namespace Go.Proofs.Qxb6500275aGreatDoor
open Go Go.RowKit
section
variable {w u : World} {mb : Nat} {m : MT} {x : Fn × Value × Value} {t : Ty} {k g : Nat}
/- the check's block and its label, laid -/
theorem env0_sq (hW : Mw u mb m) (hx : m.fs[k]? = some x) (hg : ∃ cap, m.vf = .slice (some ⟨g, 0, none⟩) m.fs.length cap) {u2 : World} (h2 : ((u.alloc (.cells #[.pointer (some ⟨mb, 0, none⟩), .pointer (some ⟨g, k * 4, none⟩), .string (t.p ++ x.1.locals), .string t.q, .int .i64 0, .int .i64 0] 295)).alloc (.cells #[.string t.q] 9)).drew = u2) :
    (env0 u2 u.heap.size mb g (k * 4) m x (.slice (some ⟨u.heap.size + 1, 0, none⟩) 1 1) t).sq u2 0 0 ∧ Kp (fun _ => False) u u2 ∧ u.heap.size < u2.heap.size := by
  obtain ⟨u1, h1⟩ : ∃ u1, u.alloc (.cells #[.pointer (some ⟨mb, 0, none⟩), .pointer (some ⟨g, k * 4, none⟩), .string (t.p ++ x.1.locals), .string t.q, .int .i64 0, .int .i64 0] 295) = u1 := ⟨_, rfl⟩
  rw [h1] at h2
  have hk1 : Kp (fun _ => False) u u1 := by rw [← h1]; exact (Kp.refl _ _).alloc _
  have hk2 : Kp (fun _ => False) u1 u2 := by rw [← h2]; exact ((Kp.refl _ _).alloc _).drew
  have hb1 : Blk (u.alloc (.cells #[.pointer (some ⟨mb, 0, none⟩), .pointer (some ⟨g, k * 4, none⟩), .string (t.p ++ x.1.locals), .string t.q, .int .i64 0, .int .i64 0] 295)) u.heap.size 6 (fun i => #[Value.pointer (some ⟨mb, 0, none⟩), .pointer (some ⟨g, k * 4, none⟩), .string (t.p ++ x.1.locals), .string t.q, .int .i64 0, .int .i64 0][i]!) := blk_al u #[.pointer (some ⟨mb, 0, none⟩), .pointer (some ⟨g, k * 4, none⟩), .string (t.p ++ x.1.locals), .string t.q, .int .i64 0, .int .i64 0] 295
  rw [h1] at hb1
  have hb2 := hb1.keep hk2 (fun h => h)
  have hlt : u.heap.size < u1.heap.size := hb1.lt (by decide)
  have hsz : u1.heap.size = u.heap.size + 1 := by rw [← h1]; exact World.size_alloc _ _
  have hM2 := hW.keep (hk1.trans hk2) (fun _ _ h => h)
  obtain ⟨g', cap, gv, g1, g2, g3, gc⟩ := hM2.atFn hx
  obtain ⟨cap', hg⟩ := hg
  rw [hg] at gv
  simp at gv
  obtain ⟨rfl, rfl⟩ := gv
  have hbod := hM2.body (List.mem_of_getElem? hx)
  have hlb : Lb u2 (.slice (some ⟨u.heap.size + 1, 0, none⟩) 1 1) [t.q] := by
    have h := OR.keep (OR.made u1 9 1 1 #[.string t.q] (by decide) rfl) ((Kp.refl (fun _ => False) _).drew) (fun _ _ h => h)
    rw [h2, hsz] at h
    exact h
  have hfr := gc 2 x.2.1 rfl
  have hfr3 := gc 3 x.2.2 rfl
  have hrows : ∀ k', (MwB mb m k' ∨ FnrB g x.2.1 x.2.2 k') → k' < u.heap.size := fun k' hk' => by
    rcases hk' with hk' | hk' | hk' | hk'
    · exact hW.lt hk'
    · rw [hk']
      refine hW.lt (.inr ⟨⟨124, 4, m.vf, m.fs.length, m.fs.flatMap fnC⟩, ?_, ?_⟩)
      · unfold MT.rows MT.mains
        simp
      · rw [hg]; rfl
    · exact ((hW.body (List.mem_of_getElem? hx)).1).lt hk'
    · exact ((hW.body (List.mem_of_getElem? hx)).2).lt hk'
  refine ⟨⟨⟨hb2.cell (by decide), hb2.cell (by decide), hb2.cell (by decide), hb2.cell (by decide), hb2.cell (by decide), hb2.cell (by decide), hb2.fz (by decide), hb2.fz (by decide)⟩, hM2, ⟨hfr, hfr3, hbod.1, hbod.2⟩, hlb, fun k' hk' e => ?_, Kp.refl _ _⟩, hk1.trans hk2, Nat.lt_of_lt_of_le hlt hk2.size⟩
  have e2 : k' = u.heap.size := e
  rcases hk' with hk' | hk' | hk'
  · have := hrows k' (.inl hk'); omega
  · have := hrows k' (.inr hk'); omega
  · have e3 : some (u.heap.size + 1) = some k' := hk'
    injection e3 with e3
    omega
/- what the check of one function answers -/
theorem fn_m (hW : Mw u mb m) (hM : ModOk m.mod) (hx : m.fs[k]? = some x) (hT : TyOk t) (ht : m.mod.typeAt x.1.ty = some t) (hg : ∃ cap, m.vf = .slice (some ⟨g, 0, none⟩) m.fs.length cap) {u2 : World} (h2 : ((u.alloc (.cells #[.pointer (some ⟨mb, 0, none⟩), .pointer (some ⟨g, k * 4, none⟩), .string (t.p ++ x.1.locals), .string t.q, .int .i64 0, .int .i64 0] 295)).alloc (.cells #[.string t.q] 9)).drew = u2) :
    Calls Tryz.prog 189 #[.pointer (some ⟨u.heap.size, 0, none⟩), .int .i64 0, .slice (some ⟨u.heap.size + 1, 0, none⟩) 1 1, .string t.q, .int .i64 0, .int .i64 7] u2 (fun en w' => ∃ (pc' cl : Nat) (er : Int) (a : Nat), en = .returned (.tuple #[.int .i64 (pc' : Int), .int .u8 (cl : Int)]) ∧ Ck w' u.heap.size mb ⟨g, k * 4, none⟩ (t.p ++ x.1.locals) t.q er a ∧ Kp (fun _ => False) u w' ∧ w'.cell? ⟨g, k * 4 + 2, none⟩ = some x.2.1 ∧
      ((er ≠ 0 ∧ (bodyV m.mod x.1).2 = (a, er)) ∨ (er = 0 ∧ (cl = 5 ∨ cl = 11) ∧ (bodyV m.mod x.1).2 = if cl = 11 ∧ pc' = x.1.body.length then (0, 0) else (pc', 11)))) := by
  obtain ⟨hS, hK, hlt⟩ := env0_sq hW hx hg h2
  have hO := env0_ok (w := u2) (cb := u.heap.size) (mb := mb) (gf := g) (fo := k * 4) (lv := .slice (some ⟨u.heap.size + 1, 0, none⟩) 1 1) hM hx hT
  have h := seq_m 7 (env0 u2 u.heap.size mb g (k * 4) m x (.slice (some ⟨u.heap.size + 1, 0, none⟩) 1 1) t) (Nat.le_refl _) 0 0 hO hS (Nat.zero_le _) (env0_run hM hx hT ht)
  refine Calls.mono h ?_
  rintro en w' ⟨pc', cl, er, a, rfl, hS', hAn⟩
  have hnb : x.1.body.length ≤ 96 := (hM.funcs x.1 (by unfold MT.mod; exact List.mem_map.2 ⟨x, List.mem_of_getElem? hx, rfl⟩)).nb.2
  refine ⟨pc', cl, er, a, rfl, hS'.ck, hK.later hS'.kp (fun j hj => .inr (by have e : j = u.heap.size := hj; omega)), hS'.fr.c2, ?_⟩
  · rcases hAn with ⟨he, hX⟩ | ⟨rfl, q, st, p, x', rfl, hq, hxq, rfl, hcl, hsz, p1, p2, hr⟩
    · exact .inl ⟨he, hX⟩
    · exact .inr ⟨rfl, hcl, root_shut hO rfl rfl rfl hr hxq hcl p1 p2⟩
end
end Go.Proofs.Qxb6500275aGreatDoor
