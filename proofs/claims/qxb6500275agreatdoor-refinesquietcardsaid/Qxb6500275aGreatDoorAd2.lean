import Derived.Test.Qxb6500275aGreatDoorAd1
import Derived.Test.Qxb6500275aGreatDoorSt2
import Derived.StillTailTactics
import Derived.Deep.RegionHeld
import Derived.Test.Qxb6500275aGreatDoorDec1
set_option maxRecDepth 100000
set_option linter.unusedVariables false
set_option linter.unusedSimpArgs false
namespace Go.Proofs.Qxb6500275aGreatDoor
open Go Go.RowKit
/- the functions' types, imports first -/
def flM (M : Mod) : List Ty := (List.range (M.imports.length + M.funcs.length)).map (fun (i : Nat) => (M.typeOf (i : Int)).getD ⟨⟨#[]⟩, ⟨#[]⟩⟩)
section
variable {w w' w1 w2 : World} {X : Mx} {T : Nat → Prop} {V V' : Vm} {S S' : Sm} {H H' : Hm} {mb kc : Nat} {M : Mod} {sv fv : Value}
theorem flM_len : (flM M).length = M.imports.length + M.funcs.length := by simp [flM]
theorem flM_at {i : Nat} {t : Ty} (h : M.typeOf (i : Int) = some t) : (flM M)[i]? = some t := by
  have := (typeOf_range h).2
  unfold flM
  rw [List.getElem?_map, List.getElem?_range (by omega)]
  simp [h]
/- amid adopt -/
structure Az (w w1 : World) (X : Mx) (T : Nat → Prop) (S : Sm) (H : Hm) (mb kc : Nat) (sv fv : Value) : Prop where
  kp : Kp (fun k => k = X.xb) w w1
  xb : Xb w1 X T ⟨.pointer (some ⟨mb, 0, none⟩), .pointer (some ⟨kc, 0, none⟩), sv, fv⟩ S H
theorem Az.grow (hA : Ax X) (hT : ∀ k, T k → X.hi ≤ k ∧ k < w.heap.size) (hhi : X.hi ≤ w.heap.size) (h : Az w w1 X T S H mb kc sv fv) {row : Option Nat} (hg : w1.grownBy w2 row) (hr : ∀ k, row = some k → w.heap.size ≤ k) : Az w w2 X T S H mb kc sv fv := by
  refine ⟨kp_grow h.kp hg hr, h.xb.keep hA (P := fun k => row = some k) ⟨hg.os, hg.tape, hg.output, hg.size, fun k hk hp => hg.block k hk (fun e => hp e.symm)⟩ (fun k h1 h2 e => ?_) (fun k hk e => ?_)⟩
  · have := hr k e; omega
  · have := hr k e; have := (hT k hk).2; omega
theorem Az.quiet (hA : Ax X) (h : Az w w1 X T S H mb kc sv fv) (hk : Kp (fun _ => False) w1 w2) : Az w w2 X T S H mb kc sv fv := ⟨h.kp.trans (hk.mono (fun _ h => h.elim)), h.xb.keep hA hk (fun _ _ _ h => h) (fun _ _ h => h)⟩
/- a packed type, in a block -/
def SS (n : Nat) (y : Ty) (w : World) : Prop := w.cell? ⟨n, 0, none⟩ = some (.int .u8 (y.p.size : Int)) ∧ w.cell? ⟨n, 1, none⟩ = some (.int .u8 (pAt y.p 0 : Int)) ∧ w.cell? ⟨n, 2, none⟩ = some (.int .u8 (pAt y.p 1 : Int)) ∧ w.cell? ⟨n, 3, none⟩ = some (.int .u8 (pAt y.p 2 : Int)) ∧ w.cell? ⟨n, 4, none⟩ = some (.int .u8 (pAt y.p 3 : Int)) ∧ w.cell? ⟨n, 5, none⟩ = some (.int .u8 (resT y : Int))
theorem SS.keep {n : Nat} {y : Ty} {P : Nat → Prop} {w w' : World} (h : SS n y w) (hk : Kp P w w') (hn : ¬ P n) : SS n y w' := by
  obtain ⟨q0, q1, q2, q3, q4, q5⟩ := h
  have hl : n < w.heap.size := lt_of_cell q0
  have e : ∀ j, w'.cell? ⟨n, j, none⟩ = w.cell? ⟨n, j, none⟩ := fun j => hk.cell (p := ⟨n, j, none⟩) hl hn
  exact ⟨by rw [e]; exact q0, by rw [e]; exact q1, by rw [e]; exact q2, by rw [e]; exact q3, by rw [e]; exact q4, by rw [e]; exact q5⟩
theorem op_app {P : Program} {o : Oper} {a : Act} {K : Act → World → Prop} {Q : Exit → Act → World → Prop} {w w' : World} {v' : Value} (s x : Operand) (t : TypeId)
    (ho : o.op = .call { callee := .builtin .append, args := #[s, x], argTypes := #[t, t] })
    (hr : (Builtin.append_ #[t, t] o.type #[a.eval s, a.eval x]).run P w = .ok v' w') (h : K (a.put o.dst v') w') : Oper.wp P o a w K Q := by
  unfold Oper.wp execOp
  simp only [ho, resolve, invoke, builtin, Sem.run_bind, Sem.run_pure, Result.andThen_ok, List.map_toArray, List.map_cons, List.map_nil, hr]
  exact h
/- what the second region reads -/
structure S3 (xb mb fo k c tn : Nat) (sv : Value) (ia : Option Addr) (nn b : Nat) (y : Ty) (w : World) : Prop where
  c7 : w.cell? ⟨xb, 7, none⟩ = some sv
  c1 : w.cell? ⟨mb, fo, none⟩ = some (.slice ia nn nn)
  ct : w.cell? ⟨k, c, none⟩ = some (.int .i64 (tn : Int))
  p0 : w.cell? ⟨b, tn * 6, none⟩ = some (.int .u8 (y.p.size : Int))
  p1 : w.cell? ⟨b, tn * 6 + 1, none⟩ = some (.int .u8 (pAt y.p 0 : Int))
  p2 : w.cell? ⟨b, tn * 6 + 2, none⟩ = some (.int .u8 (pAt y.p 1 : Int))
  p3 : w.cell? ⟨b, tn * 6 + 3, none⟩ = some (.int .u8 (pAt y.p 2 : Int))
  p4 : w.cell? ⟨b, tn * 6 + 4, none⟩ = some (.int .u8 (pAt y.p 3 : Int))
  p5 : w.cell? ⟨b, tn * 6 + 5, none⟩ = some (.int .u8 (resT y : Int))
theorem S3.keep {xb mb fo k c tn : Nat} {sv : Value} {ia : Option Addr} {nn b : Nat} {y : Ty} {P : Nat → Prop} {w w' : World} (h : S3 xb mb fo k c tn sv ia nn b y w) (hk : Kp P w w') (h7 : w'.cell? ⟨xb, 7, none⟩ = some sv) (h1 : ¬ P mb) (h2 : ¬ P k) (h3 : ¬ P b) : S3 xb mb fo k c tn sv ia nn b y w' := by
  have hl_mb : mb < w.heap.size := lt_of_cell h.c1
  have hl_k : k < w.heap.size := lt_of_cell h.ct
  have hl_b : b < w.heap.size := lt_of_cell h.p0
  have e1 : ∀ j, w'.cell? ⟨mb, j, none⟩ = w.cell? ⟨mb, j, none⟩ := fun j => hk.cell (p := ⟨mb, j, none⟩) hl_mb h1
  have e2 : ∀ j, w'.cell? ⟨k, j, none⟩ = w.cell? ⟨k, j, none⟩ := fun j => hk.cell (p := ⟨k, j, none⟩) hl_k h2
  have e3 : ∀ j, w'.cell? ⟨b, j, none⟩ = w.cell? ⟨b, j, none⟩ := fun j => hk.cell (p := ⟨b, j, none⟩) hl_b h3
  exact ⟨h7, by rw [e1]; exact h.c1, by rw [e2]; exact h.ct, by rw [e3]; exact h.p0, by rw [e3]; exact h.p1, by rw [e3]; exact h.p2, by rw [e3]; exact h.p3, by rw [e3]; exact h.p4, by rw [e3]; exact h.p5⟩
theorem typeAt_at {M : Mod} {z : Int} {t : Ty} (h : M.typeAt z = some t) : ∃ tn : Nat, z = (tn : Int) ∧ M.types[tn]? = some t := by
  unfold Mod.typeAt at h
  rcases iteC h with ⟨_, h⟩ | ⟨h1, h⟩
  · simp at h
  · exact ⟨z.toNat, by omega, h⟩
theorem Az.fset (hA : Ax X) (hT : ∀ k, T k → X.hi ≤ k) (h : Az w w1 X T S H mb kc sv fv) (v : Value) : Az w (w1.setCell ⟨X.xb, 8, none⟩ v) X T S H mb kc sv v := ⟨h.kp.setCell (p := ⟨X.xb, 8, none⟩) (.inl rfl) _, h.xb.xset hA hT (i := 8) (by decide) v (fun F h => h.u8 _)⟩
theorem Az.c7 (h : Az w w1 X T S H mb kc sv fv) : w1.cell? ⟨X.xb, 7, none⟩ = some sv ∧ w1.cell? ⟨X.xb, 8, none⟩ = some fv ∧ w1.frozen? ⟨X.xb, 8, none⟩ = false := by
  obtain ⟨F, x1, x2⟩ := h.xb.cell
  exact ⟨by rw [(x1 7 (by decide)).1, x2.f7], by rw [(x1 8 (by decide)).1, x2.f8], (x1 8 (by decide)).2⟩
theorem md_k2 {k i n c : Nat} {z : Imp} (h : Md w mb M) (hx : X.xb < mb) (hz : M.imports[i]? = some z) (hc : w.cell? ⟨mb, 1, none⟩ = some (.slice (some ⟨k, 0, none⟩) n c)) : k < w.heap.size ∧ k ≠ X.xb := by
  obtain ⟨F, hB, hF⟩ := h.is
  obtain ⟨ia, i1, i2⟩ := hF.i.at_
  obtain ⟨k', f, e, hk, hcl, _⟩ := i2 i z hz
  rw [hB.cell (by decide), i1, e] at hc
  simp at hc
  obtain ⟨rfl, _⟩ := hc
  have := lt_of_cell (hcl 0 (by decide))
  exact ⟨this, by omega⟩
theorem md_k3 {k i n c : Nat} {z : Fn} (h : Md w mb M) (hx : X.xb < mb) (hz : M.funcs[i]? = some z) (hc : w.cell? ⟨mb, 2, none⟩ = some (.slice (some ⟨k, 0, none⟩) n c)) : k < w.heap.size ∧ k ≠ X.xb := by
  obtain ⟨F, hB, hF⟩ := h.is
  obtain ⟨ia, i1, i2⟩ := hF.f.at_
  obtain ⟨k', f, e, hk, hcl, _⟩ := i2 i z hz
  rw [hB.cell (by decide), i1, e] at hc
  simp at hc
  obtain ⟨rfl, _⟩ := hc
  have := lt_of_cell (hcl 0 (by decide))
  exact ⟨this, by omega⟩
set_option maxHeartbeats 16000000 in
theorem adopt_calls (hA : Ax X) (h : Xb w X T Vm.none S H) (hT : ∀ k, T k → X.hi ≤ k) (hM : ModOk M) (hty : ∀ j : Nat, j < M.imports.length + M.funcs.length → ∃ t, M.typeOf (j : Int) = some t) (hmd : Md w mb M) (hlt : X.hi ≤ mb) (hTw : ∀ k, T k → k < w.heap.size) :
    Calls Tryz.prog 41 #[.pointer (some ⟨X.xb, 0, none⟩), .pointer (some ⟨mb, 0, none⟩), .pointer (some ⟨kc, 0, none⟩)] w (fun en w' => en = .returned (.tuple #[]) ∧ Kp (fun k => k = X.xb) w w' ∧ ∃ sv fv, Xb w' X T ⟨.pointer (some ⟨mb, 0, none⟩), .pointer (some ⟨kc, 0, none⟩), sv, fv⟩ S H ∧ Ow w' w.heap.size sv M.types ∧ ∃ fl, Ow w' w.heap.size fv fl ∧ fl.length = M.imports.length + M.funcs.length ∧ ∀ (i : Nat) t, M.typeOf (i : Int) = some t → fl[i]? = some t) := by
  obtain ⟨F, hc, hF⟩ := h.cell
  obtain ⟨c5, g5⟩ := hc 5 (by decide)
  obtain ⟨c6, g6⟩ := hc 6 (by decide)
  have HA0 : Hid (Az w ((w.setCell ⟨X.xb, 5, none⟩ (.pointer (some ⟨mb, 0, none⟩))).setCell ⟨X.xb, 6, none⟩ (.pointer (some ⟨kc, 0, none⟩))) X T S H mb kc (.slice none 0 0) (.slice none 0 0)) :=
    ⟨((Kp.refl (fun k => k = X.xb) w).setCell (p := ⟨X.xb, 5, none⟩) (.inl rfl) _).setCell (p := ⟨X.xb, 6, none⟩) (.inl rfl) _, ((h.xset hA hT (i := 5) (by decide) (.pointer (some ⟨mb, 0, none⟩)) (fun F h => h.u5 _)).xset hA hT (i := 6) (by decide) (.pointer (some ⟨kc, 0, none⟩)) (fun F h => h.u6 _))⟩
  have HAX : Hid _ := hA
  have HTT : Hid _ := hT
  have HM : Hid _ := hM
  have HTY : Hid _ := hty
  have HMD : Hid _ := hmd
  have HTW : Hid _ := hTw
  have hxm : X.xb < mb := by have := hA.x; omega
  have HXM : Hid _ := hxm
  have hhi : X.hi ≤ w.heap.size := Nat.le_trans hlt (Nat.le_of_lt hmd.lt)
  have HHI : Hid _ := hhi
  obtain ⟨nt, hnt⟩ : ∃ n, M.types.length = n := ⟨_, rfl⟩
  have HNT : Hid _ := hnt
  have hnt8 : nt ≤ 8 := by rw [← hnt]; exact hM.nt
  clear h hA hT hM hty hmd hxm hc hF hlt hhi hnt hTw
  go_enter Tryz.func41, Tryz.ntmps41
  go_wp2
  generalize ((w.setCell ⟨X.xb, 5, none⟩ (.pointer (some ⟨mb, 0, none⟩))).setCell ⟨X.xb, 6, none⟩ (.pointer (some ⟨kc, 0, none⟩))) = W0 at HA0 ⊢
  go_loopw [6] (fun ii w1 => ∃ (i : Nat) (sv : Value), i ≤ nt ∧ ii = .int .i64 i ∧ Hid (Az w w1 X T S H mb kc sv (.slice none 0 0) ∧ Ow w1 w.heap.size sv (M.types.take i))) (fun ii _ => nt + 1 - (intOf ii).toNat)
  case atStart => exact ⟨0, _, by omega, rfl, HA0.out, Ow.nil _ _⟩
  case round =>
    clear HA0
    obtain ⟨i, sv, hi, rfl, HZ⟩ := hrel
    have hmd1 : Md wr mb M := HMD.out.keep HZ.out.1.kp (fun k e => by have := HXM.out; omega)
    obtain ⟨ta, ia, fa, m0, m1, m2, tat, iat, fat⟩ := hmd1.lists
    rw [HNT.out] at m0
    obtain ⟨F7, x1, x2⟩ := HZ.out.1.xb.cell
    obtain ⟨c7, g7⟩ := x1 7 (by decide)
    rw [x2.f7] at c7
    by_cases hlt : i < nt
    · obtain ⟨y, hy⟩ : ∃ y, M.types[i]? = some y := ⟨_, List.getElem?_eq_getElem (by rw [HNT.out]; exact hlt)⟩
      obtain ⟨k, rfl, d1⟩ := tat i y hy
      have hyo := HM.out.types y (List.mem_of_getElem? hy)
      have hib : (i : Int) < (nt : Int) := by omega
      have hsc := sig_calls y hyo wr
      go_wp2_with fail
      refine hsc.mono ?_
      rintro en w3 ⟨rfl, k3⟩
      unfold sigV
      go_wp2_with fail
      have hW3 : Kp (fun _ => False) wr (w3.alloc (.cells #[.int .u8 (y.p.size : Int), .int .u8 (pAt y.p 0 : Int), .int .u8 (pAt y.p 1 : Int), .int .u8 (pAt y.p 2 : Int), .int .u8 (pAt y.p 3 : Int), .int .u8 (resT y : Int)] 90)) := k3.alloc _
      have hB3 := blk_alloc w3 #[.int .u8 (y.p.size : Int), .int .u8 (pAt y.p 0 : Int), .int .u8 (pAt y.p 1 : Int), .int .u8 (pAt y.p 2 : Int), .int .u8 (pAt y.p 3 : Int), .int .u8 (resT y : Int)] 90
      generalize (w3.alloc (.cells #[.int .u8 (y.p.size : Int), .int .u8 (pAt y.p 0 : Int), .int .u8 (pAt y.p 1 : Int), .int .u8 (pAt y.p 2 : Int), .int .u8 (pAt y.p 3 : Int), .int .u8 (resT y : Int)] 90)) = W3 at hW3 hB3 ⊢
      obtain ⟨n3, hn3e⟩ : ∃ n3, w3.heap.size = n3 := ⟨_, rfl⟩
      rw [hn3e] at hB3 ⊢
      have q0 : W3.cell? ⟨n3, 0, none⟩ = some (.int .u8 (y.p.size : Int)) := hB3.cell (i := 0) (by simp)
      have q1 : W3.cell? ⟨n3, 1, none⟩ = some (.int .u8 (pAt y.p 0 : Int)) := hB3.cell (i := 1) (by simp)
      have q2 : W3.cell? ⟨n3, 2, none⟩ = some (.int .u8 (pAt y.p 1 : Int)) := hB3.cell (i := 2) (by simp)
      have q3 : W3.cell? ⟨n3, 3, none⟩ = some (.int .u8 (pAt y.p 2 : Int)) := hB3.cell (i := 3) (by simp)
      have q4 : W3.cell? ⟨n3, 4, none⟩ = some (.int .u8 (pAt y.p 3 : Int)) := hB3.cell (i := 4) (by simp)
      have q5 : W3.cell? ⟨n3, 5, none⟩ = some (.int .u8 (resT y : Int)) := hB3.cell (i := 5) (by simp)
      have HS : Hid (SS n3 y W3.drew) := ⟨q0, q1, q2, q3, q4, q5⟩
      have hkd : Kp (fun _ => False) W3 W3.drew := (Kp.refl _ _).drew
      have hkU : Kp (fun _ => False) W3 ((W3.alloc (.cells #[.int .u8 (y.p.size : Int), .int .u8 (pAt y.p 0 : Int), .int .u8 (pAt y.p 1 : Int), .int .u8 (pAt y.p 2 : Int), .int .u8 (pAt y.p 3 : Int), .int .u8 (resT y : Int)] 90)).drew) := ((Kp.refl _ _).alloc _).drew
      have HSU : Hid (SS n3 y ((W3.alloc (.cells #[.int .u8 (y.p.size : Int), .int .u8 (pAt y.p 0 : Int), .int .u8 (pAt y.p 1 : Int), .int .u8 (pAt y.p 2 : Int), .int .u8 (pAt y.p 3 : Int), .int .u8 (resT y : Int)] 90)).drew)) := SS.keep (P := fun _ => False) (w := W3) HS.out hkU (fun h => h)
      have HZd : Hid (Az w W3.drew X T S H mb kc sv (.slice none 0 0)) := HZ.out.1.quiet HAX.out (hW3.trans hkd)
      have HZU : Hid (Az w ((W3.alloc (.cells #[.int .u8 (y.p.size : Int), .int .u8 (pAt y.p 0 : Int), .int .u8 (pAt y.p 1 : Int), .int .u8 (pAt y.p 2 : Int), .int .u8 (pAt y.p 3 : Int), .int .u8 (resT y : Int)] 90)).drew) X T S H mb kc sv (.slice none 0 0)) := HZ.out.1.quiet HAX.out (hW3.trans hkU)
      have hn3 : wr.heap.size ≤ n3 := by rw [← hn3e]; exact k3.size
      have hwr : w.heap.size ≤ wr.heap.size := HZ.out.1.kp.size
      have hxw : X.xb < w.heap.size := by have := HAX.out.x; have := HHI.out; omega
      have howU : Ow ((W3.alloc (.cells #[.int .u8 (y.p.size : Int), .int .u8 (pAt y.p 0 : Int), .int .u8 (pAt y.p 1 : Int), .int .u8 (pAt y.p 2 : Int), .int .u8 (pAt y.p 3 : Int), .int .u8 (resT y : Int)] 90)).drew) w.heap.size sv (M.types.take i) := HZ.out.2.keep (hW3.trans hkU) (fun _ _ _ h => h)
      have hown := HZ.out.2.lt
      have hba : Blk ((W3.alloc (.cells #[.int .u8 (y.p.size : Int), .int .u8 (pAt y.p 0 : Int), .int .u8 (pAt y.p 1 : Int), .int .u8 (pAt y.p 2 : Int), .int .u8 (pAt y.p 3 : Int), .int .u8 (resT y : Int)] 90)).drew) W3.heap.size 6 _ := blk_alloc W3 #[.int .u8 (y.p.size : Int), .int .u8 (pAt y.p 0 : Int), .int .u8 (pAt y.p 1 : Int), .int .u8 (pAt y.p 2 : Int), .int .u8 (pAt y.p 3 : Int), .int .u8 (resT y : Int)] 90
      obtain ⟨v7, w7, hap, how, hgr⟩ := howU.app (Nat.le_trans HZU.out.kp.size (Nat.le_refl _)) (by simp; omega) 66 ⟨W3.heap.size, 0, none⟩ 1 y (fun j u hu => by
        have hj : j < 6 := (List.getElem?_eq_some_iff.1 hu).1
        rw [add_non, Nat.zero_add, hba.cell (by simpa using hj)]
        have : j = 0 ∨ j = 1 ∨ j = 2 ∨ j = 3 ∨ j = 4 ∨ j = 5 := by omega
        rcases this with rfl | rfl | rfl | rfl | rfl | rfl <;> exact hu)
      obtain ⟨a7, cap7, hv7⟩ := how.slice
      generalize (M.types.take i ++ [y]).length = n7 at hv7
      subst hv7
      have HAP : Hid _ := hap
      have hrow : ∀ k, sv.ownBlock = some k → w.heap.size ≤ k := fun k hk => (hown k hk).1
      have HZ7 : Hid (Az w w7 X T S H mb kc sv (.slice none 0 0)) := HZU.out.grow HAX.out (fun k hk => ⟨HTT.out k hk, HTW.out k hk⟩) HHI.out hgr hrow
      have HS7 : Hid (SS n3 y w7) := SS.keep (P := fun k => sv.ownBlock = some k) HSU.out ⟨hgr.os, hgr.tape, hgr.output, hgr.size, fun k hk hp => hgr.block k hk (fun e => hp e.symm)⟩ (fun e => by have := (hown n3 e).2; omega)
      obtain ⟨Fd, xd, xd2⟩ := HZd.out.xb.cell
      obtain ⟨cd7, -⟩ := xd 7 (by decide)
      rw [xd2.f7] at cd7
      obtain ⟨FU, xU, xU2⟩ := HZU.out.xb.cell
      obtain ⟨cU7, -⟩ := xU 7 (by decide)
      rw [xU2.f7] at cU7
      obtain ⟨F8, x8, x82⟩ := HZ7.out.xb.cell
      obtain ⟨c77, g77⟩ := x8 7 (by decide)
      rw [x82.f7] at c77
      have HS8 : Hid (SS n3 y (w7.setCell ⟨X.xb, 7, none⟩ (.slice a7 n7 cap7))) := SS.keep HS7.out ((Kp.refl (fun k => k = X.xb) w7).setCell (p := ⟨X.xb, 7, none⟩) (.inl rfl) _) (by omega)
      have HZ8 : Hid (Az w (w7.setCell ⟨X.xb, 7, none⟩ (.slice a7 n7 cap7)) X T S H mb kc (.slice a7 n7 cap7) (.slice none 0 0)) := ⟨HZ7.out.kp.setCell (p := ⟨X.xb, 7, none⟩) (.inl rfl) _, HZ7.out.xb.xset HAX.out HTT.out (i := 7) (by decide) (.slice a7 n7 cap7) (fun F h => h.u7 _)⟩
      have HOW : Hid (Ow (w7.setCell ⟨X.xb, 7, none⟩ (.slice a7 n7 cap7)) w.heap.size (.slice a7 n7 cap7) (M.types.take (i + 1))) := by
        show Ow _ _ _ _
        rw [take_snocL hy]
        exact how.keep ((Kp.refl (fun k => k = X.xb) w7).setCell (p := ⟨X.xb, 7, none⟩) (.inl rfl) _) (fun k h1 _ e => by omega)
      clear hap how hgr hrow hown hba howU hkd hkU xd xd2 xU xU2 x8 x82 HZd HZU HZ7 hW3 hB3 k3 hsc hy hyo c7 g7 x1 x2 m0 m1 m2 tat iat fat hmd1 d1 q0 q1 q2 q3 q4 q5
      refine wp_region_held (S := SS n3 y) (by kernel_rfl) ?_
      change wpAnyH _ _ _ _ _ _ _ _ (World.drew _)
      refine wpAnyH_take (i := 0) (v := ?_) rfl (by kernel_rfl) (by kernel_rfl) (by kernel_rfl) (fun _ _ _ h => h) (Or.inl ⟨by rfl, ?_⟩) HS.out ?_
      rotate_left
      · intro uu hu
        clear hu
        go_simp
        try with_reducible rfl
      refine wpAnyH_take (i := 1) (v := ?_) rfl (by kernel_rfl) (by kernel_rfl) (by kernel_rfl) (fun _ _ _ h => h) (Or.inl ⟨by rfl, ?_⟩) HS.out ?_
      rotate_left
      · intro uu hu
        clear hu
        go_simp
        try with_reducible rfl
      refine wpAnyH_take (i := 2) (v := ?_) rfl (by kernel_rfl) (by kernel_rfl) (by kernel_rfl) (fun _ _ _ h => h) (Or.inl ⟨by rfl, ?_⟩) HS.out ?_
      rotate_left
      · intro uu hu
        clear hu
        go_simp
        try with_reducible rfl
      refine wpAnyH_take (i := 3) (v := ?_) rfl (by kernel_rfl) (by kernel_rfl) (by kernel_rfl) (fun _ _ _ h => h) (Or.inl ⟨by rfl, ?_⟩) HS.out ?_
      rotate_left
      · intro uu hu
        clear hu
        go_simp
        try with_reducible rfl
      refine wpAnyH_take (i := 5) (v := ?_) rfl (by kernel_rfl) (by kernel_rfl) (by kernel_rfl) (fun _ _ _ h => h) (Or.inl ⟨by rfl, ?_⟩) HS.out ?_
      rotate_left
      · intro uu hu
        obtain ⟨q0, q1, q2, q3, q4, q5⟩ := hu
        go_simp
        try with_reducible rfl
      refine wpAnyH_ready (rs := [4, 6]) (by kernel_rfl) (by simp) ?_
      refine (AllReadyH.cons rfl (fun K hK => ?_) (AllReadyH.cons rfl (fun K hK => ?_) AllReadyH.nil))
      · go_simp
        refine hK.out _ _ HS.out (fun _ => ?_)
        clear hK K
        refine wpAnyH_ready (rs := [6]) (by kernel_rfl) (by simp) ?_
        refine (AllReadyH.cons rfl (fun K hK => ?_) AllReadyH.nil)
        go_simp
        refine hK.out _ _ HSU.out (fun _ => ?_)
        clear hK K
        generalize ((W3.alloc (.cells #[.int .u8 (y.p.size : Int), .int .u8 (pAt y.p 0 : Int), .int .u8 (pAt y.p 1 : Int), .int .u8 (pAt y.p 2 : Int), .int .u8 (pAt y.p 3 : Int), .int .u8 (resT y : Int)] 90)).drew) = UU at HSU cU7 HAP ⊢
        refine wpAnyH_ready (rs := [7]) (by kernel_rfl) (by simp) ?_
        refine (AllReadyH.cons rfl (fun K hK => ?_) AllReadyH.nil)
        rw [if_pos (by rfl)]
        refine op_app _ _ 66 rfl HAP.out ?_
        refine hK.out _ _ HS7.out (fun _ => ?_)
        clear hK K
        refine wpAnyH_take (i := 8) (v := ?_) rfl (by kernel_rfl) (by kernel_rfl) (by kernel_rfl) (fun _ _ _ h => h) (Or.inl ⟨by rfl, ?_⟩) HS7.out ?_
        rotate_left
        · intro uu hu
          clear hu
          go_simp
          try with_reducible rfl
        refine wpAnyH_take (i := 9) (v := ?_) rfl (by kernel_rfl) (by kernel_rfl) (by kernel_rfl) (fun _ _ _ h => h) (Or.inl ⟨by rfl, ?_⟩) HS7.out ?_
        rotate_left
        · intro uu hu
          clear hu
          go_simp
          try with_reducible rfl
        refine wpAnyH_ready (rs := [10]) (by kernel_rfl) (by simp) ?_
        refine (AllReadyH.cons rfl (fun K hK => ?_) AllReadyH.nil)
        go_simp
        refine hK.out _ _ HS8.out (fun _ => ?_)
        clear hK K
        refine wpAnyH_done (by kernel_rfl) ?_ _
        go_wp2_with fail
        go_roundw
        case rel => exact ⟨i + 1, _, by omega, by go_num, HZ8.out, HOW.out⟩
        case measure => simp [intOf]; omega
      · go_simp
        refine hK.out _ _ HSU.out (fun _ => ?_)
        clear hK K
        generalize ((W3.alloc (.cells #[.int .u8 (y.p.size : Int), .int .u8 (pAt y.p 0 : Int), .int .u8 (pAt y.p 1 : Int), .int .u8 (pAt y.p 2 : Int), .int .u8 (pAt y.p 3 : Int), .int .u8 (resT y : Int)] 90)).drew) = UU at HSU cU7 HAP ⊢
        refine wpAnyH_ready (rs := [4]) (by kernel_rfl) (by simp) ?_
        refine (AllReadyH.cons rfl (fun K hK => ?_) AllReadyH.nil)
        go_simp
        refine hK.out _ _ HSU.out (fun _ => ?_)
        clear hK K
        refine wpAnyH_ready (rs := [7]) (by kernel_rfl) (by simp) ?_
        refine (AllReadyH.cons rfl (fun K hK => ?_) AllReadyH.nil)
        rw [if_pos (by rfl)]
        refine op_app _ _ 66 rfl HAP.out ?_
        refine hK.out _ _ HS7.out (fun _ => ?_)
        clear hK K
        refine wpAnyH_take (i := 8) (v := ?_) rfl (by kernel_rfl) (by kernel_rfl) (by kernel_rfl) (fun _ _ _ h => h) (Or.inl ⟨by rfl, ?_⟩) HS7.out ?_
        rotate_left
        · intro uu hu
          clear hu
          go_simp
          try with_reducible rfl
        refine wpAnyH_take (i := 9) (v := ?_) rfl (by kernel_rfl) (by kernel_rfl) (by kernel_rfl) (fun _ _ _ h => h) (Or.inl ⟨by rfl, ?_⟩) HS7.out ?_
        rotate_left
        · intro uu hu
          clear hu
          go_simp
          try with_reducible rfl
        refine wpAnyH_ready (rs := [10]) (by kernel_rfl) (by simp) ?_
        refine (AllReadyH.cons rfl (fun K hK => ?_) AllReadyH.nil)
        go_simp
        refine hK.out _ _ HS8.out (fun _ => ?_)
        clear hK K
        refine wpAnyH_done (by kernel_rfl) ?_ _
        go_wp2_with fail
        go_roundw
        case rel => exact ⟨i + 1, _, by omega, by go_num, HZ8.out, HOW.out⟩
        case measure => simp [intOf]; omega
    · have hie : nt = i := by omega
      subst hie
      obtain ⟨wA, hwA⟩ : ∃ wA, wA = wr := ⟨_, rfl⟩
      subst hwA
      obtain ⟨ni, hni⟩ : ∃ n, M.imports.length = n := ⟨_, rfl⟩
      have HNI : Hid _ := hni
      obtain ⟨nf, hnf⟩ : ∃ n, M.funcs.length = n := ⟨_, rfl⟩
      have HNF : Hid _ := hnf
      have hni4 : ni ≤ 4 := by rw [← hni]; exact HM.out.ni
      have hnf8 : nf ≤ 8 := by rw [← hnf]; exact HM.out.nf
      have HOA : Hid (Ow wA w.heap.size sv M.types) := by
        have h := HZ.out.2
        rw [List.take_of_length_le (by rw [HNT.out]; exact Nat.le_refl _)] at h
        exact h
      have HAS : Hid (w.heap.size ≤ wA.heap.size) := HZ.out.1.kp.size
      have HB2 : Hid (Az w wA X T S H mb kc sv (.slice none 0 0) ∧ Kp (fun k => k = X.xb) wA wA ∧ Ow wA wA.heap.size (.slice none 0 0) ((flM M).take 0)) := ⟨HZ.out.1, Kp.refl _ _, Ow.nil _ _⟩
      clear HZ hmd1 m1 m2 tat iat fat c7 g7 x1 x2 hni hnf
      go_wp2_with fail
      go_loopw [8] (fun ii w1 => ∃ (i : Nat) (fv : Value), i ≤ ni ∧ ii = .int .i64 i ∧ Hid (Az w w1 X T S H mb kc sv fv ∧ Kp (fun k => k = X.xb) wA w1 ∧ Ow w1 wA.heap.size fv ((flM M).take i))) (fun ii _ => ni + 1 - (intOf ii).toNat)
      case atStart => exact ⟨0, _, by omega, rfl, HB2.out⟩
      case round =>
        clear HB2
        obtain ⟨i, fv, hi, rfl, HZ⟩ := hrel
        have hmd1 : Md wr mb M := HMD.out.keep HZ.out.1.kp (fun k e => by have := HXM.out; omega)
        obtain ⟨ta, ia, fa, m0, m1, m2, tat, iat, fat⟩ := hmd1.lists
        rw [HNI.out] at m1
        by_cases hlt : i < ni
        · obtain ⟨z, hz⟩ : ∃ z, M.imports[i]? = some z := ⟨_, List.getElem?_eq_getElem (by rw [HNI.out]; exact hlt)⟩
          obtain ⟨k, rfl, ct⟩ := iat i z hz
          obtain ⟨y, hty⟩ := HTY.out i (by have := HNI.out; omega)
          have htz : M.typeAt z.ty = some y := by
            unfold Mod.typeOf at hty
            rw [Mod.tyIdx_imp hz] at hty
            exact hty
          obtain ⟨tn, htn, hyt⟩ := typeAt_at htz
          rw [htn] at ct
          have htl : tn < nt := by rw [← HNT.out]; exact (List.getElem?_eq_some_iff.1 hyt).1
          have hfl := flM_at hty
          obtain ⟨c7, c8, g8⟩ := HZ.out.1.c7
          have hkA : Kp (fun k => k = X.xb) wA wr := HZ.out.2.1
          have hAs : w.heap.size ≤ wA.heap.size := HAS.out
          have hxw : X.xb < w.heap.size := by have := HAX.out.x; have := HHI.out; omega
          obtain ⟨b, scap, hsv, hbl, hbc⟩ := HOA.out.at_ hyt
          have hbA : b < wA.heap.size := lt_of_cell (hbc 0 _ rfl)
          rw [HNT.out] at hsv
          have hbw : ∀ j, wr.cell? ⟨b, j, none⟩ = wA.cell? ⟨b, j, none⟩ := fun j => hkA.cell (p := ⟨b, j, none⟩) hbA (by dsimp only; omega)
          have hkr : k < w.heap.size ∧ k ≠ X.xb := by
            have hmw : wr.cell? ⟨mb, 1, none⟩ = w.cell? ⟨mb, 1, none⟩ := HZ.out.1.kp.cell (p := ⟨mb, 1, none⟩) HMD.out.lt (by have := HXM.out; dsimp only; omega)
            rw [m1] at hmw
            exact md_k2 HMD.out HXM.out hz hmw.symm
          have h0 : S3 X.xb mb 1 k (i * 3 + 2) tn sv (some ⟨k, 0, none⟩) ni b y wr := ⟨c7, m1, ct, by show wr.cell? _ = _; rw [hbw]; exact hbc 0 _ rfl, by show wr.cell? _ = _; rw [hbw]; exact hbc 1 _ rfl, by show wr.cell? _ = _; rw [hbw]; exact hbc 2 _ rfl, by show wr.cell? _ = _; rw [hbw]; exact hbc 3 _ rfl, by show wr.cell? _ = _; rw [hbw]; exact hbc 4 _ rfl, by show wr.cell? _ = _; rw [hbw]; exact hbc 5 _ rfl⟩
          have HS : Hid (S3 X.xb mb 1 k (i * 3 + 2) tn sv (some ⟨k, 0, none⟩) ni b y wr.drew) := ⟨h0.c7, h0.c1, h0.ct, h0.p0, h0.p1, h0.p2, h0.p3, h0.p4, h0.p5⟩
          have hkU : Kp (fun _ => False) wr ((wr.alloc (.cells #[.int .u8 (y.p.size : Int), .int .u8 (pAt y.p 0 : Int), .int .u8 (pAt y.p 1 : Int), .int .u8 (pAt y.p 2 : Int), .int .u8 (pAt y.p 3 : Int), .int .u8 (resT y : Int)] 90)).drew) := ((Kp.refl _ _).alloc _).drew
          have HZU : Hid (Az w ((wr.alloc (.cells #[.int .u8 (y.p.size : Int), .int .u8 (pAt y.p 0 : Int), .int .u8 (pAt y.p 1 : Int), .int .u8 (pAt y.p 2 : Int), .int .u8 (pAt y.p 3 : Int), .int .u8 (resT y : Int)] 90)).drew) X T S H mb kc sv fv) := HZ.out.1.quiet HAX.out hkU
          have cU := HZU.out.c7
          have HSU : Hid (S3 X.xb mb 1 k (i * 3 + 2) tn sv (some ⟨k, 0, none⟩) ni b y ((wr.alloc (.cells #[.int .u8 (y.p.size : Int), .int .u8 (pAt y.p 0 : Int), .int .u8 (pAt y.p 1 : Int), .int .u8 (pAt y.p 2 : Int), .int .u8 (pAt y.p 3 : Int), .int .u8 (resT y : Int)] 90)).drew)) := h0.keep (P := fun _ => False) hkU cU.1 (fun h => h) (fun h => h) (fun h => h)
          have howU : Ow ((wr.alloc (.cells #[.int .u8 (y.p.size : Int), .int .u8 (pAt y.p 0 : Int), .int .u8 (pAt y.p 1 : Int), .int .u8 (pAt y.p 2 : Int), .int .u8 (pAt y.p 3 : Int), .int .u8 (resT y : Int)] 90)).drew) wA.heap.size fv ((flM M).take i) := HZ.out.2.2.keep hkU (fun _ _ _ h => h)
          have hown := HZ.out.2.2.lt
          have hba : Blk ((wr.alloc (.cells #[.int .u8 (y.p.size : Int), .int .u8 (pAt y.p 0 : Int), .int .u8 (pAt y.p 1 : Int), .int .u8 (pAt y.p 2 : Int), .int .u8 (pAt y.p 3 : Int), .int .u8 (resT y : Int)] 90)).drew) wr.heap.size 6 _ := blk_alloc wr #[.int .u8 (y.p.size : Int), .int .u8 (pAt y.p 0 : Int), .int .u8 (pAt y.p 1 : Int), .int .u8 (pAt y.p 2 : Int), .int .u8 (pAt y.p 3 : Int), .int .u8 (resT y : Int)] 90
          have hni4 := HM.out.ni
          have hnf8 := HM.out.nf
          have hszA : wA.heap.size ≤ ((wr.alloc (.cells #[.int .u8 (y.p.size : Int), .int .u8 (pAt y.p 0 : Int), .int .u8 (pAt y.p 1 : Int), .int .u8 (pAt y.p 2 : Int), .int .u8 (pAt y.p 3 : Int), .int .u8 (resT y : Int)] 90)).drew).heap.size := Nat.le_trans hkA.size hkU.size
          obtain ⟨v7, w7, hap, how, hgr⟩ := howU.app hszA (by simp [flM_len]; omega) 66 ⟨wr.heap.size, 0, none⟩ 1 y (fun j u hu => by
            have hj : j < 6 := (List.getElem?_eq_some_iff.1 hu).1
            rw [add_non, Nat.zero_add, hba.cell (by simpa using hj)]
            have : j = 0 ∨ j = 1 ∨ j = 2 ∨ j = 3 ∨ j = 4 ∨ j = 5 := by omega
            rcases this with rfl | rfl | rfl | rfl | rfl | rfl <;> exact hu)
          obtain ⟨a7, cap7, hv7⟩ := how.slice
          generalize ((flM M).take i ++ [y]).length = n7 at hv7
          subst hv7
          have HAP : Hid _ := hap
          have hrow : ∀ k, fv.ownBlock = some k → wA.heap.size ≤ k := fun k hk => (hown k hk).1
          have HZ7 : Hid (Az w w7 X T S H mb kc sv fv) := HZU.out.grow HAX.out (fun k hk => ⟨HTT.out k hk, HTW.out k hk⟩) HHI.out hgr (fun k hk => Nat.le_trans hAs (hrow k hk))
          have hkg : Kp (fun k => fv.ownBlock = some k) ((wr.alloc (.cells #[.int .u8 (y.p.size : Int), .int .u8 (pAt y.p 0 : Int), .int .u8 (pAt y.p 1 : Int), .int .u8 (pAt y.p 2 : Int), .int .u8 (pAt y.p 3 : Int), .int .u8 (resT y : Int)] 90)).drew) w7 := ⟨hgr.os, hgr.tape, hgr.output, hgr.size, fun k hk hp => hgr.block k hk (fun e => hp e.symm)⟩
          obtain ⟨c77, c78, g78⟩ := HZ7.out.c7
          have hmw : mb < w.heap.size := HMD.out.lt
          have HS7 : Hid (S3 X.xb mb 1 k (i * 3 + 2) tn sv (some ⟨k, 0, none⟩) ni b y w7) := S3.keep HSU.out hkg c77 (fun e => by have := hrow _ e; omega) (fun e => by have := hrow _ e; omega) (fun e => by have := hrow _ e; omega)
          have HZ8 : Hid (Az w (w7.setCell ⟨X.xb, 8, none⟩ (.slice a7 n7 cap7)) X T S H mb kc sv (.slice a7 n7 cap7)) := HZ7.out.fset HAX.out HTT.out _
          have hkx : Kp (fun k => k = X.xb) w7 (w7.setCell ⟨X.xb, 8, none⟩ (.slice a7 n7 cap7)) := (Kp.refl (fun k => k = X.xb) w7).setCell (p := ⟨X.xb, 8, none⟩) (.inl rfl) _
          have HS8 : Hid (S3 X.xb mb 1 k (i * 3 + 2) tn sv (some ⟨k, 0, none⟩) ni b y (w7.setCell ⟨X.xb, 8, none⟩ (.slice a7 n7 cap7))) := S3.keep HS7.out hkx HZ8.out.c7.1 (by have := HXM.out; omega) hkr.2 (by omega)
          have HOW : Hid (Kp (fun k => k = X.xb) wA (w7.setCell ⟨X.xb, 8, none⟩ (.slice a7 n7 cap7)) ∧ Ow (w7.setCell ⟨X.xb, 8, none⟩ (.slice a7 n7 cap7)) wA.heap.size (.slice a7 n7 cap7) ((flM M).take (i + 1))) := by
            refine ⟨(kp_grow (hkA.trans (hkU.mono (fun _ h => h.elim))) hgr hrow).trans hkx, ?_⟩
            rw [take_snocL hfl]
            exact how.keep hkx (fun k h1 _ e => by omega)
          have hib : (i : Int) < (ni : Int) := by omega
          have htb : (tn : Int) < (nt : Int) := by omega
          have HFV : Hid (wr.drew.cell? ⟨X.xb, 8, none⟩ = some fv) := c8
          have c8d := HFV.out
          have cU8 := cU.2.1
          subst hsv
          clear h0 hap how hgr hrow hown hba howU hkU hkg hkx hszA hkA hbc hbw hbA hbl c77 c7 g8 hfl htz hty hyt htn hz hmd1 m0 m2 tat iat fat ct HZU HZ7 cU hkr hmw hni4 hnf8 hxw hAs HFV
          go_wp2_with fail
          refine wp_region_held (S := S3 X.xb mb 1 k (i * 3 + 2) tn (.slice (some ⟨b, 0, none⟩) nt scap) (some ⟨k, 0, none⟩) ni b y) (by kernel_rfl) ?_
          change wpAnyH _ _ _ _ _ _ _ _ (World.drew _)
          refine wpAnyH_take (i := 0) (v := ?_) rfl (by kernel_rfl) (by kernel_rfl) (by kernel_rfl) (fun _ _ _ h => h) (Or.inl ⟨by rfl, ?_⟩) HS.out ?_
          rotate_left
          · intro uu hu
            clear hu
            go_simp
            try with_reducible rfl
          refine wpAnyH_take (i := 1) (v := ?_) rfl (by kernel_rfl) (by kernel_rfl) (by kernel_rfl) (fun _ _ _ h => h) (Or.inl ⟨by rfl, ?_⟩) HS.out ?_
          rotate_left
          · intro uu hu
            clear hu
            go_simp
            try with_reducible rfl
          refine wpAnyH_take (i := 2) (v := ?_) rfl (by kernel_rfl) (by kernel_rfl) (by kernel_rfl) (fun _ _ _ h => h) (Or.inl ⟨by rfl, ?_⟩) HS.out ?_
          rotate_left
          · intro uu hu
            clear hu
            go_simp
            try with_reducible rfl
          refine wpAnyH_take (i := 3) (v := ?_) rfl (by kernel_rfl) (by kernel_rfl) (by kernel_rfl) (fun _ _ _ h => h) (Or.inl ⟨by rfl, ?_⟩) HS.out ?_
          rotate_left
          · intro uu hu
            clear hu
            go_simp
            try with_reducible rfl
          refine wpAnyH_take (i := 5) (v := ?_) rfl (by kernel_rfl) (by kernel_rfl) (by kernel_rfl) (fun _ _ _ h => h) (Or.inl ⟨by rfl, ?_⟩) HS.out ?_
          rotate_left
          · intro uu hu
            clear hu
            go_simp
            try with_reducible rfl
          refine wpAnyH_take (i := 6) (v := ?_) rfl (by kernel_rfl) (by kernel_rfl) (by kernel_rfl) (fun _ _ _ h => h) (Or.inl ⟨by rfl, ?_⟩) HS.out ?_
          rotate_left
          · intro uu hu
            clear hu
            go_simp
            try with_reducible rfl
          refine wpAnyH_take (i := 7) (v := ?_) rfl (by kernel_rfl) (by kernel_rfl) (by kernel_rfl) (fun _ _ _ h => h) (Or.inl ⟨by rfl, ?_⟩) HS.out ?_
          rotate_left
          · intro uu hu
            clear hu
            go_simp
            try with_reducible rfl
          refine wpAnyH_take (i := 8) (v := ?_) rfl (by kernel_rfl) (by kernel_rfl) (by kernel_rfl) (fun _ _ _ h => h) (Or.inl ⟨by rfl, ?_⟩) HS.out ?_
          rotate_left
          · intro uu hu
            obtain ⟨c7, c1, ct, p0, p1, p2, p3, p4, p5⟩ := hu
            go_simp
            try with_reducible rfl
          refine wpAnyH_take (i := 9) (v := ?_) rfl (by kernel_rfl) (by kernel_rfl) (by kernel_rfl) (fun _ _ _ h => h) (Or.inl ⟨by rfl, ?_⟩) HS.out ?_
          rotate_left
          · intro uu hu
            clear hu
            go_simp
            try with_reducible rfl
          refine wpAnyH_take (i := 10) (v := ?_) rfl (by kernel_rfl) (by kernel_rfl) (by kernel_rfl) (fun _ _ _ h => h) (Or.inl ⟨by rfl, ?_⟩) HS.out ?_
          rotate_left
          · intro uu hu
            clear hu
            go_simp
            try with_reducible rfl
          refine wpAnyH_take (i := 11) (v := ?_) rfl (by kernel_rfl) (by kernel_rfl) (by kernel_rfl) (fun _ _ _ h => h) (Or.inl ⟨by rfl, ?_⟩) HS.out ?_
          rotate_left
          · intro uu hu
            clear hu
            go_simp
            try with_reducible rfl
          refine wpAnyH_take (i := 12) (v := ?_) rfl (by kernel_rfl) (by kernel_rfl) (by kernel_rfl) (fun _ _ _ h => h) (Or.inl ⟨by rfl, ?_⟩) HS.out ?_
          rotate_left
          · intro uu hu
            obtain ⟨c7, c1, ct, p0, p1, p2, p3, p4, p5⟩ := hu
            go_simp
            try with_reducible rfl
          refine wpAnyH_take (i := 13) (v := ?_) rfl (by kernel_rfl) (by kernel_rfl) (by kernel_rfl) (fun _ _ _ h => h) (Or.inl ⟨by rfl, ?_⟩) HS.out ?_
          rotate_left
          · intro uu hu
            clear hu
            go_simp
            try with_reducible rfl
          refine wpAnyH_take (i := 14) (v := ?_) rfl (by kernel_rfl) (by kernel_rfl) (by kernel_rfl) (fun _ _ _ h => h) (Or.inl ⟨by rfl, ?_⟩) HS.out ?_
          rotate_left
          · intro uu hu
            clear hu
            go_simp
            try with_reducible rfl
          refine wpAnyH_take (i := 15) (v := ?_) rfl (by kernel_rfl) (by kernel_rfl) (by kernel_rfl) (fun _ _ _ h => h) (Or.inl ⟨by rfl, ?_⟩) HS.out ?_
          rotate_left
          · intro uu hu
            clear hu
            go_simp
            try with_reducible rfl
          refine wpAnyH_take (i := 16) (v := ?_) rfl (by kernel_rfl) (by kernel_rfl) (by kernel_rfl) (fun _ _ _ h => h) (Or.inl ⟨by rfl, ?_⟩) HS.out ?_
          rotate_left
          · intro uu hu
            obtain ⟨c7, c1, ct, p0, p1, p2, p3, p4, p5⟩ := hu
            go_simp
            try with_reducible rfl
          refine wpAnyH_take (i := 17) (v := ?_) rfl (by kernel_rfl) (by kernel_rfl) (by kernel_rfl) (fun _ _ _ h => h) (Or.inl ⟨by rfl, ?_⟩) HS.out ?_
          rotate_left
          · intro uu hu
            clear hu
            go_simp
            try with_reducible rfl
          refine wpAnyH_take (i := 18) (v := ?_) rfl (by kernel_rfl) (by kernel_rfl) (by kernel_rfl) (fun _ _ _ h => h) (Or.inl ⟨by rfl, ?_⟩) HS.out ?_
          rotate_left
          · intro uu hu
            obtain ⟨c7, c1, ct, p0, p1, p2, p3, p4, p5⟩ := hu
            go_simp
            try with_reducible rfl
          refine wpAnyH_ready (rs := [4, 19]) (by kernel_rfl) (by simp) ?_
          refine (AllReadyH.cons rfl (fun K hK => ?_) (AllReadyH.cons rfl (fun K hK => ?_) AllReadyH.nil))
          · go_simp
            refine hK.out _ _ HS.out (fun _ => ?_)
            clear hK K
            refine wpAnyH_ready (rs := [19]) (by kernel_rfl) (by simp) ?_
            refine (AllReadyH.cons rfl (fun K hK => ?_) AllReadyH.nil)
            go_simp
            refine hK.out _ _ HSU.out (fun _ => ?_)
            clear hK K
            generalize ((wr.alloc (.cells #[.int .u8 (y.p.size : Int), .int .u8 (pAt y.p 0 : Int), .int .u8 (pAt y.p 1 : Int), .int .u8 (pAt y.p 2 : Int), .int .u8 (pAt y.p 3 : Int), .int .u8 (resT y : Int)] 90)).drew) = UU at HSU cU8 HAP ⊢
            refine wpAnyH_ready (rs := [20]) (by kernel_rfl) (by simp) ?_
            refine (AllReadyH.cons rfl (fun K hK => ?_) AllReadyH.nil)
            rw [if_pos (by rfl)]
            refine op_app _ _ 66 rfl HAP.out ?_
            refine hK.out _ _ HS7.out (fun _ => ?_)
            clear hK K
            refine wpAnyH_take (i := 21) (v := ?_) rfl (by kernel_rfl) (by kernel_rfl) (by kernel_rfl) (fun _ _ _ h => h) (Or.inl ⟨by rfl, ?_⟩) HS7.out ?_
            rotate_left
            · intro uu hu
              clear hu
              go_simp
              try with_reducible rfl
            refine wpAnyH_take (i := 22) (v := ?_) rfl (by kernel_rfl) (by kernel_rfl) (by kernel_rfl) (fun _ _ _ h => h) (Or.inl ⟨by rfl, ?_⟩) HS7.out ?_
            rotate_left
            · intro uu hu
              clear hu
              go_simp
              try with_reducible rfl
            refine wpAnyH_ready (rs := [23]) (by kernel_rfl) (by simp) ?_
            refine (AllReadyH.cons rfl (fun K hK => ?_) AllReadyH.nil)
            go_simp
            refine hK.out _ _ HS8.out (fun _ => ?_)
            clear hK K
            refine wpAnyH_done (by kernel_rfl) ?_ _
            go_wp2_with fail
            go_roundw
            case rel => exact ⟨i + 1, _, by omega, by go_num, HZ8.out, HOW.out.1, HOW.out.2⟩
            case measure => simp [intOf]; omega
          · go_simp
            refine hK.out _ _ HSU.out (fun _ => ?_)
            clear hK K
            generalize ((wr.alloc (.cells #[.int .u8 (y.p.size : Int), .int .u8 (pAt y.p 0 : Int), .int .u8 (pAt y.p 1 : Int), .int .u8 (pAt y.p 2 : Int), .int .u8 (pAt y.p 3 : Int), .int .u8 (resT y : Int)] 90)).drew) = UU at HSU cU8 HAP ⊢
            refine wpAnyH_ready (rs := [4]) (by kernel_rfl) (by simp) ?_
            refine (AllReadyH.cons rfl (fun K hK => ?_) AllReadyH.nil)
            go_simp
            refine hK.out _ _ HSU.out (fun _ => ?_)
            clear hK K
            refine wpAnyH_ready (rs := [20]) (by kernel_rfl) (by simp) ?_
            refine (AllReadyH.cons rfl (fun K hK => ?_) AllReadyH.nil)
            rw [if_pos (by rfl)]
            refine op_app _ _ 66 rfl HAP.out ?_
            refine hK.out _ _ HS7.out (fun _ => ?_)
            clear hK K
            refine wpAnyH_take (i := 21) (v := ?_) rfl (by kernel_rfl) (by kernel_rfl) (by kernel_rfl) (fun _ _ _ h => h) (Or.inl ⟨by rfl, ?_⟩) HS7.out ?_
            rotate_left
            · intro uu hu
              clear hu
              go_simp
              try with_reducible rfl
            refine wpAnyH_take (i := 22) (v := ?_) rfl (by kernel_rfl) (by kernel_rfl) (by kernel_rfl) (fun _ _ _ h => h) (Or.inl ⟨by rfl, ?_⟩) HS7.out ?_
            rotate_left
            · intro uu hu
              clear hu
              go_simp
              try with_reducible rfl
            refine wpAnyH_ready (rs := [23]) (by kernel_rfl) (by simp) ?_
            refine (AllReadyH.cons rfl (fun K hK => ?_) AllReadyH.nil)
            go_simp
            refine hK.out _ _ HS8.out (fun _ => ?_)
            clear hK K
            refine wpAnyH_done (by kernel_rfl) ?_ _
            go_wp2_with fail
            go_roundw
            case rel => exact ⟨i + 1, _, by omega, by go_num, HZ8.out, HOW.out.1, HOW.out.2⟩
            case measure => simp [intOf]; omega
        · have hie : ni = i := by omega
          subst hie
          have HB3 : Hid (Az w wr X T S H mb kc sv fv ∧ Kp (fun k => k = X.xb) wA wr ∧ Ow wr wA.heap.size fv ((flM M).take (ni + 0))) := HZ.out
          clear HZ hmd1 m0 m2 tat iat fat
          go_wp2_with fail
          go_loopw [9] (fun ii w1 => ∃ (i : Nat) (fv : Value), i ≤ nf ∧ ii = .int .i64 i ∧ Hid (Az w w1 X T S H mb kc sv fv ∧ Kp (fun k => k = X.xb) wA w1 ∧ Ow w1 wA.heap.size fv ((flM M).take (ni + i)))) (fun ii _ => nf + 1 - (intOf ii).toNat)
          case atStart => exact ⟨0, _, by omega, rfl, HB3.out⟩
          case round =>
            clear HB3
            obtain ⟨i, fv, hi, rfl, HZ⟩ := hrel
            have hmd1 : Md wr mb M := HMD.out.keep HZ.out.1.kp (fun k e => by have := HXM.out; omega)
            obtain ⟨ta, ia, fa, m0, m1, m2, tat, iat, fat⟩ := hmd1.lists
            rw [HNF.out] at m2
            by_cases hlt : i < nf
            · obtain ⟨z, hz⟩ : ∃ z, M.funcs[i]? = some z := ⟨_, List.getElem?_eq_getElem (by rw [HNF.out]; exact hlt)⟩
              obtain ⟨k, rfl, ct⟩ := fat i z hz
              obtain ⟨y, hty⟩ := HTY.out (ni + i) (by have := HNI.out; have := HNF.out; omega)
              have htz : M.typeAt z.ty = some y := by
                unfold Mod.typeOf at hty
                rw [← HNI.out, tyIdx_own hz] at hty
                exact hty
              obtain ⟨tn, htn, hyt⟩ := typeAt_at htz
              rw [htn] at ct
              have htl : tn < nt := by rw [← HNT.out]; exact (List.getElem?_eq_some_iff.1 hyt).1
              have hfl := flM_at hty
              obtain ⟨c7, c8, g8⟩ := HZ.out.1.c7
              have hkA : Kp (fun k => k = X.xb) wA wr := HZ.out.2.1
              have hAs : w.heap.size ≤ wA.heap.size := HAS.out
              have hxw : X.xb < w.heap.size := by have := HAX.out.x; have := HHI.out; omega
              obtain ⟨b, scap, hsv, hbl, hbc⟩ := HOA.out.at_ hyt
              have hbA : b < wA.heap.size := lt_of_cell (hbc 0 _ rfl)
              rw [HNT.out] at hsv
              have hbw : ∀ j, wr.cell? ⟨b, j, none⟩ = wA.cell? ⟨b, j, none⟩ := fun j => hkA.cell (p := ⟨b, j, none⟩) hbA (by dsimp only; omega)
              have hkr : k < w.heap.size ∧ k ≠ X.xb := by
                have hmw : wr.cell? ⟨mb, 2, none⟩ = w.cell? ⟨mb, 2, none⟩ := HZ.out.1.kp.cell (p := ⟨mb, 2, none⟩) HMD.out.lt (by have := HXM.out; dsimp only; omega)
                rw [m2] at hmw
                exact md_k3 HMD.out HXM.out hz hmw.symm
              have h0 : S3 X.xb mb 2 k (i * 4) tn sv (some ⟨k, 0, none⟩) nf b y wr := ⟨c7, m2, ct, by show wr.cell? _ = _; rw [hbw]; exact hbc 0 _ rfl, by show wr.cell? _ = _; rw [hbw]; exact hbc 1 _ rfl, by show wr.cell? _ = _; rw [hbw]; exact hbc 2 _ rfl, by show wr.cell? _ = _; rw [hbw]; exact hbc 3 _ rfl, by show wr.cell? _ = _; rw [hbw]; exact hbc 4 _ rfl, by show wr.cell? _ = _; rw [hbw]; exact hbc 5 _ rfl⟩
              have HS : Hid (S3 X.xb mb 2 k (i * 4) tn sv (some ⟨k, 0, none⟩) nf b y wr.drew) := ⟨h0.c7, h0.c1, h0.ct, h0.p0, h0.p1, h0.p2, h0.p3, h0.p4, h0.p5⟩
              have hkU : Kp (fun _ => False) wr ((wr.alloc (.cells #[.int .u8 (y.p.size : Int), .int .u8 (pAt y.p 0 : Int), .int .u8 (pAt y.p 1 : Int), .int .u8 (pAt y.p 2 : Int), .int .u8 (pAt y.p 3 : Int), .int .u8 (resT y : Int)] 90)).drew) := ((Kp.refl _ _).alloc _).drew
              have HZU : Hid (Az w ((wr.alloc (.cells #[.int .u8 (y.p.size : Int), .int .u8 (pAt y.p 0 : Int), .int .u8 (pAt y.p 1 : Int), .int .u8 (pAt y.p 2 : Int), .int .u8 (pAt y.p 3 : Int), .int .u8 (resT y : Int)] 90)).drew) X T S H mb kc sv fv) := HZ.out.1.quiet HAX.out hkU
              have cU := HZU.out.c7
              have HSU : Hid (S3 X.xb mb 2 k (i * 4) tn sv (some ⟨k, 0, none⟩) nf b y ((wr.alloc (.cells #[.int .u8 (y.p.size : Int), .int .u8 (pAt y.p 0 : Int), .int .u8 (pAt y.p 1 : Int), .int .u8 (pAt y.p 2 : Int), .int .u8 (pAt y.p 3 : Int), .int .u8 (resT y : Int)] 90)).drew)) := h0.keep (P := fun _ => False) hkU cU.1 (fun h => h) (fun h => h) (fun h => h)
              have howU : Ow ((wr.alloc (.cells #[.int .u8 (y.p.size : Int), .int .u8 (pAt y.p 0 : Int), .int .u8 (pAt y.p 1 : Int), .int .u8 (pAt y.p 2 : Int), .int .u8 (pAt y.p 3 : Int), .int .u8 (resT y : Int)] 90)).drew) wA.heap.size fv ((flM M).take (ni + i)) := HZ.out.2.2.keep hkU (fun _ _ _ h => h)
              have hown := HZ.out.2.2.lt
              have hba : Blk ((wr.alloc (.cells #[.int .u8 (y.p.size : Int), .int .u8 (pAt y.p 0 : Int), .int .u8 (pAt y.p 1 : Int), .int .u8 (pAt y.p 2 : Int), .int .u8 (pAt y.p 3 : Int), .int .u8 (resT y : Int)] 90)).drew) wr.heap.size 6 _ := blk_alloc wr #[.int .u8 (y.p.size : Int), .int .u8 (pAt y.p 0 : Int), .int .u8 (pAt y.p 1 : Int), .int .u8 (pAt y.p 2 : Int), .int .u8 (pAt y.p 3 : Int), .int .u8 (resT y : Int)] 90
              have hni4 := HM.out.ni
              have hnf8 := HM.out.nf
              have hszA : wA.heap.size ≤ ((wr.alloc (.cells #[.int .u8 (y.p.size : Int), .int .u8 (pAt y.p 0 : Int), .int .u8 (pAt y.p 1 : Int), .int .u8 (pAt y.p 2 : Int), .int .u8 (pAt y.p 3 : Int), .int .u8 (resT y : Int)] 90)).drew).heap.size := Nat.le_trans hkA.size hkU.size
              obtain ⟨v7, w7, hap, how, hgr⟩ := howU.app hszA (by simp [flM_len]; omega) 66 ⟨wr.heap.size, 0, none⟩ 1 y (fun j u hu => by
                have hj : j < 6 := (List.getElem?_eq_some_iff.1 hu).1
                rw [add_non, Nat.zero_add, hba.cell (by simpa using hj)]
                have : j = 0 ∨ j = 1 ∨ j = 2 ∨ j = 3 ∨ j = 4 ∨ j = 5 := by omega
                rcases this with rfl | rfl | rfl | rfl | rfl | rfl <;> exact hu)
              obtain ⟨a7, cap7, hv7⟩ := how.slice
              generalize ((flM M).take (ni + i) ++ [y]).length = n7 at hv7
              subst hv7
              have HAP : Hid _ := hap
              have hrow : ∀ k, fv.ownBlock = some k → wA.heap.size ≤ k := fun k hk => (hown k hk).1
              have HZ7 : Hid (Az w w7 X T S H mb kc sv fv) := HZU.out.grow HAX.out (fun k hk => ⟨HTT.out k hk, HTW.out k hk⟩) HHI.out hgr (fun k hk => Nat.le_trans hAs (hrow k hk))
              have hkg : Kp (fun k => fv.ownBlock = some k) ((wr.alloc (.cells #[.int .u8 (y.p.size : Int), .int .u8 (pAt y.p 0 : Int), .int .u8 (pAt y.p 1 : Int), .int .u8 (pAt y.p 2 : Int), .int .u8 (pAt y.p 3 : Int), .int .u8 (resT y : Int)] 90)).drew) w7 := ⟨hgr.os, hgr.tape, hgr.output, hgr.size, fun k hk hp => hgr.block k hk (fun e => hp e.symm)⟩
              obtain ⟨c77, c78, g78⟩ := HZ7.out.c7
              have hmw : mb < w.heap.size := HMD.out.lt
              have HS7 : Hid (S3 X.xb mb 2 k (i * 4) tn sv (some ⟨k, 0, none⟩) nf b y w7) := S3.keep HSU.out hkg c77 (fun e => by have := hrow _ e; omega) (fun e => by have := hrow _ e; omega) (fun e => by have := hrow _ e; omega)
              have HZ8 : Hid (Az w (w7.setCell ⟨X.xb, 8, none⟩ (.slice a7 n7 cap7)) X T S H mb kc sv (.slice a7 n7 cap7)) := HZ7.out.fset HAX.out HTT.out _
              have hkx : Kp (fun k => k = X.xb) w7 (w7.setCell ⟨X.xb, 8, none⟩ (.slice a7 n7 cap7)) := (Kp.refl (fun k => k = X.xb) w7).setCell (p := ⟨X.xb, 8, none⟩) (.inl rfl) _
              have HS8 : Hid (S3 X.xb mb 2 k (i * 4) tn sv (some ⟨k, 0, none⟩) nf b y (w7.setCell ⟨X.xb, 8, none⟩ (.slice a7 n7 cap7))) := S3.keep HS7.out hkx HZ8.out.c7.1 (by have := HXM.out; omega) hkr.2 (by omega)
              have HOW : Hid (Kp (fun k => k = X.xb) wA (w7.setCell ⟨X.xb, 8, none⟩ (.slice a7 n7 cap7)) ∧ Ow (w7.setCell ⟨X.xb, 8, none⟩ (.slice a7 n7 cap7)) wA.heap.size (.slice a7 n7 cap7) ((flM M).take (ni + (i + 1)))) := by
                refine ⟨(kp_grow (hkA.trans (hkU.mono (fun _ h => h.elim))) hgr hrow).trans hkx, ?_⟩
                rw [show ni + (i + 1) = (ni + i) + 1 by omega, take_snocL hfl]
                exact how.keep hkx (fun k h1 _ e => by omega)
              have hib : (i : Int) < (nf : Int) := by omega
              have htb : (tn : Int) < (nt : Int) := by omega
              have HFV : Hid (wr.drew.cell? ⟨X.xb, 8, none⟩ = some fv) := c8
              have c8d := HFV.out
              have cU8 := cU.2.1
              subst hsv
              clear h0 hap how hgr hrow hown hba howU hkU hkg hkx hszA hkA hbc hbw hbA hbl c77 c7 g8 hfl htz hty hyt htn hz hmd1 m0 m1 tat iat fat ct HZU HZ7 cU hkr hmw hni4 hnf8 hxw hAs HFV
              go_wp2_with fail
              refine wp_region_held (S := S3 X.xb mb 2 k (i * 4) tn (.slice (some ⟨b, 0, none⟩) nt scap) (some ⟨k, 0, none⟩) nf b y) (by kernel_rfl) ?_
              change wpAnyH _ _ _ _ _ _ _ _ (World.drew _)
              refine wpAnyH_take (i := 0) (v := ?_) rfl (by kernel_rfl) (by kernel_rfl) (by kernel_rfl) (fun _ _ _ h => h) (Or.inl ⟨by rfl, ?_⟩) HS.out ?_
              rotate_left
              · intro uu hu
                clear hu
                go_simp
                try with_reducible rfl
              refine wpAnyH_take (i := 1) (v := ?_) rfl (by kernel_rfl) (by kernel_rfl) (by kernel_rfl) (fun _ _ _ h => h) (Or.inl ⟨by rfl, ?_⟩) HS.out ?_
              rotate_left
              · intro uu hu
                clear hu
                go_simp
                try with_reducible rfl
              refine wpAnyH_take (i := 2) (v := ?_) rfl (by kernel_rfl) (by kernel_rfl) (by kernel_rfl) (fun _ _ _ h => h) (Or.inl ⟨by rfl, ?_⟩) HS.out ?_
              rotate_left
              · intro uu hu
                clear hu
                go_simp
                try with_reducible rfl
              refine wpAnyH_take (i := 3) (v := ?_) rfl (by kernel_rfl) (by kernel_rfl) (by kernel_rfl) (fun _ _ _ h => h) (Or.inl ⟨by rfl, ?_⟩) HS.out ?_
              rotate_left
              · intro uu hu
                clear hu
                go_simp
                try with_reducible rfl
              refine wpAnyH_take (i := 5) (v := ?_) rfl (by kernel_rfl) (by kernel_rfl) (by kernel_rfl) (fun _ _ _ h => h) (Or.inl ⟨by rfl, ?_⟩) HS.out ?_
              rotate_left
              · intro uu hu
                clear hu
                go_simp
                try with_reducible rfl
              refine wpAnyH_take (i := 6) (v := ?_) rfl (by kernel_rfl) (by kernel_rfl) (by kernel_rfl) (fun _ _ _ h => h) (Or.inl ⟨by rfl, ?_⟩) HS.out ?_
              rotate_left
              · intro uu hu
                clear hu
                go_simp
                try with_reducible rfl
              refine wpAnyH_take (i := 7) (v := ?_) rfl (by kernel_rfl) (by kernel_rfl) (by kernel_rfl) (fun _ _ _ h => h) (Or.inl ⟨by rfl, ?_⟩) HS.out ?_
              rotate_left
              · intro uu hu
                clear hu
                go_simp
                try with_reducible rfl
              refine wpAnyH_take (i := 8) (v := ?_) rfl (by kernel_rfl) (by kernel_rfl) (by kernel_rfl) (fun _ _ _ h => h) (Or.inl ⟨by rfl, ?_⟩) HS.out ?_
              rotate_left
              · intro uu hu
                obtain ⟨c7, c1, ct, p0, p1, p2, p3, p4, p5⟩ := hu
                go_simp
                try with_reducible rfl
              refine wpAnyH_take (i := 9) (v := ?_) rfl (by kernel_rfl) (by kernel_rfl) (by kernel_rfl) (fun _ _ _ h => h) (Or.inl ⟨by rfl, ?_⟩) HS.out ?_
              rotate_left
              · intro uu hu
                clear hu
                go_simp
                try with_reducible rfl
              refine wpAnyH_take (i := 10) (v := ?_) rfl (by kernel_rfl) (by kernel_rfl) (by kernel_rfl) (fun _ _ _ h => h) (Or.inl ⟨by rfl, ?_⟩) HS.out ?_
              rotate_left
              · intro uu hu
                clear hu
                go_simp
                try with_reducible rfl
              refine wpAnyH_take (i := 11) (v := ?_) rfl (by kernel_rfl) (by kernel_rfl) (by kernel_rfl) (fun _ _ _ h => h) (Or.inl ⟨by rfl, ?_⟩) HS.out ?_
              rotate_left
              · intro uu hu
                clear hu
                go_simp
                try with_reducible rfl
              refine wpAnyH_take (i := 12) (v := ?_) rfl (by kernel_rfl) (by kernel_rfl) (by kernel_rfl) (fun _ _ _ h => h) (Or.inl ⟨by rfl, ?_⟩) HS.out ?_
              rotate_left
              · intro uu hu
                obtain ⟨c7, c1, ct, p0, p1, p2, p3, p4, p5⟩ := hu
                go_simp
                try with_reducible rfl
              refine wpAnyH_take (i := 13) (v := ?_) rfl (by kernel_rfl) (by kernel_rfl) (by kernel_rfl) (fun _ _ _ h => h) (Or.inl ⟨by rfl, ?_⟩) HS.out ?_
              rotate_left
              · intro uu hu
                clear hu
                go_simp
                try with_reducible rfl
              refine wpAnyH_take (i := 14) (v := ?_) rfl (by kernel_rfl) (by kernel_rfl) (by kernel_rfl) (fun _ _ _ h => h) (Or.inl ⟨by rfl, ?_⟩) HS.out ?_
              rotate_left
              · intro uu hu
                clear hu
                go_simp
                try with_reducible rfl
              refine wpAnyH_take (i := 15) (v := ?_) rfl (by kernel_rfl) (by kernel_rfl) (by kernel_rfl) (fun _ _ _ h => h) (Or.inl ⟨by rfl, ?_⟩) HS.out ?_
              rotate_left
              · intro uu hu
                clear hu
                go_simp
                try with_reducible rfl
              refine wpAnyH_take (i := 16) (v := ?_) rfl (by kernel_rfl) (by kernel_rfl) (by kernel_rfl) (fun _ _ _ h => h) (Or.inl ⟨by rfl, ?_⟩) HS.out ?_
              rotate_left
              · intro uu hu
                obtain ⟨c7, c1, ct, p0, p1, p2, p3, p4, p5⟩ := hu
                go_simp
                try with_reducible rfl
              refine wpAnyH_take (i := 17) (v := ?_) rfl (by kernel_rfl) (by kernel_rfl) (by kernel_rfl) (fun _ _ _ h => h) (Or.inl ⟨by rfl, ?_⟩) HS.out ?_
              rotate_left
              · intro uu hu
                clear hu
                go_simp
                try with_reducible rfl
              refine wpAnyH_take (i := 18) (v := ?_) rfl (by kernel_rfl) (by kernel_rfl) (by kernel_rfl) (fun _ _ _ h => h) (Or.inl ⟨by rfl, ?_⟩) HS.out ?_
              rotate_left
              · intro uu hu
                obtain ⟨c7, c1, ct, p0, p1, p2, p3, p4, p5⟩ := hu
                go_simp
                try with_reducible rfl
              refine wpAnyH_ready (rs := [4, 19]) (by kernel_rfl) (by simp) ?_
              refine (AllReadyH.cons rfl (fun K hK => ?_) (AllReadyH.cons rfl (fun K hK => ?_) AllReadyH.nil))
              · go_simp
                refine hK.out _ _ HS.out (fun _ => ?_)
                clear hK K
                refine wpAnyH_ready (rs := [19]) (by kernel_rfl) (by simp) ?_
                refine (AllReadyH.cons rfl (fun K hK => ?_) AllReadyH.nil)
                go_simp
                refine hK.out _ _ HSU.out (fun _ => ?_)
                clear hK K
                generalize ((wr.alloc (.cells #[.int .u8 (y.p.size : Int), .int .u8 (pAt y.p 0 : Int), .int .u8 (pAt y.p 1 : Int), .int .u8 (pAt y.p 2 : Int), .int .u8 (pAt y.p 3 : Int), .int .u8 (resT y : Int)] 90)).drew) = UU at HSU cU8 HAP ⊢
                refine wpAnyH_ready (rs := [20]) (by kernel_rfl) (by simp) ?_
                refine (AllReadyH.cons rfl (fun K hK => ?_) AllReadyH.nil)
                rw [if_pos (by rfl)]
                refine op_app _ _ 66 rfl HAP.out ?_
                refine hK.out _ _ HS7.out (fun _ => ?_)
                clear hK K
                refine wpAnyH_take (i := 21) (v := ?_) rfl (by kernel_rfl) (by kernel_rfl) (by kernel_rfl) (fun _ _ _ h => h) (Or.inl ⟨by rfl, ?_⟩) HS7.out ?_
                rotate_left
                · intro uu hu
                  clear hu
                  go_simp
                  try with_reducible rfl
                refine wpAnyH_take (i := 22) (v := ?_) rfl (by kernel_rfl) (by kernel_rfl) (by kernel_rfl) (fun _ _ _ h => h) (Or.inl ⟨by rfl, ?_⟩) HS7.out ?_
                rotate_left
                · intro uu hu
                  clear hu
                  go_simp
                  try with_reducible rfl
                refine wpAnyH_ready (rs := [23]) (by kernel_rfl) (by simp) ?_
                refine (AllReadyH.cons rfl (fun K hK => ?_) AllReadyH.nil)
                go_simp
                refine hK.out _ _ HS8.out (fun _ => ?_)
                clear hK K
                refine wpAnyH_done (by kernel_rfl) ?_ _
                go_wp2_with fail
                go_roundw
                case rel => exact ⟨i + 1, _, by omega, by go_num, HZ8.out, HOW.out.1, HOW.out.2⟩
                case measure => simp [intOf]; omega
              · go_simp
                refine hK.out _ _ HSU.out (fun _ => ?_)
                clear hK K
                generalize ((wr.alloc (.cells #[.int .u8 (y.p.size : Int), .int .u8 (pAt y.p 0 : Int), .int .u8 (pAt y.p 1 : Int), .int .u8 (pAt y.p 2 : Int), .int .u8 (pAt y.p 3 : Int), .int .u8 (resT y : Int)] 90)).drew) = UU at HSU cU8 HAP ⊢
                refine wpAnyH_ready (rs := [4]) (by kernel_rfl) (by simp) ?_
                refine (AllReadyH.cons rfl (fun K hK => ?_) AllReadyH.nil)
                go_simp
                refine hK.out _ _ HSU.out (fun _ => ?_)
                clear hK K
                refine wpAnyH_ready (rs := [20]) (by kernel_rfl) (by simp) ?_
                refine (AllReadyH.cons rfl (fun K hK => ?_) AllReadyH.nil)
                rw [if_pos (by rfl)]
                refine op_app _ _ 66 rfl HAP.out ?_
                refine hK.out _ _ HS7.out (fun _ => ?_)
                clear hK K
                refine wpAnyH_take (i := 21) (v := ?_) rfl (by kernel_rfl) (by kernel_rfl) (by kernel_rfl) (fun _ _ _ h => h) (Or.inl ⟨by rfl, ?_⟩) HS7.out ?_
                rotate_left
                · intro uu hu
                  clear hu
                  go_simp
                  try with_reducible rfl
                refine wpAnyH_take (i := 22) (v := ?_) rfl (by kernel_rfl) (by kernel_rfl) (by kernel_rfl) (fun _ _ _ h => h) (Or.inl ⟨by rfl, ?_⟩) HS7.out ?_
                rotate_left
                · intro uu hu
                  clear hu
                  go_simp
                  try with_reducible rfl
                refine wpAnyH_ready (rs := [23]) (by kernel_rfl) (by simp) ?_
                refine (AllReadyH.cons rfl (fun K hK => ?_) AllReadyH.nil)
                go_simp
                refine hK.out _ _ HS8.out (fun _ => ?_)
                clear hK K
                refine wpAnyH_done (by kernel_rfl) ?_ _
                go_wp2_with fail
                go_roundw
                case rel => exact ⟨i + 1, _, by omega, by go_num, HZ8.out, HOW.out.1, HOW.out.2⟩
                case measure => simp [intOf]; omega
            · have hie : nf = i := by omega
              subst hie
              clear hmd1 m0 m1 tat iat fat
              go_wp2_with fail
              go_end0
              go_light
              refine ⟨rfl, HZ.out.1.kp, sv, fv, HZ.out.1.xb, ?_, flM M, ?_, flM_len, fun i t ht => flM_at ht⟩
              · exact HOA.out.keep HZ.out.2.1 (fun k h1 _ e => by have := HAX.out.x; have := HHI.out; omega)
              · have h := HZ.out.2.2
                rw [List.take_of_length_le (by rw [flM_len, HNI.out, HNF.out]; exact Nat.le_refl _)] at h
                exact h.low HAS.out
end
end Go.Proofs.Qxb6500275aGreatDoor
