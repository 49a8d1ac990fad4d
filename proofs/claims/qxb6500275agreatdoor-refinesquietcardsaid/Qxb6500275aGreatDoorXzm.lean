import Derived.Test.Qxb6500275aGreatDoorXzl
import Derived.Test.Qxb6500275aGreatDoorEx1
set_option maxRecDepth 1000000
set_option linter.unusedVariables false
set_option linter.unusedSimpArgs false
namespace Go.Proofs.Qxb6500275aGreatDoor
open Go Go.RowKit
section
variable {w : World} {N : Xn} {C : XC} {T : Nat → Prop} {R : Nat × Xe} {m fuel f : Nat} {ws : List Nat} {S : Sm} {H : Hm} {t : Ty}
def nX (N : Xn) (k : Nat) : Xn := { N with cb := k, gb := k + 1, qb := k + 2 }
abbrev O129 : Array Value := #[.int .u8 0, .int .u32 0, .int .u64 0]
abbrev O69 : Array Value := #[.int .i64 0, .int .i64 0, .int .i64 0]
/- the machine, ahead of a run -/
structure Xz (w : World) (N : Xn) (T : Nat → Prop) (ws : List Nat) (S : Sm) (H : Hm) : Prop where
  x : ∃ F, Blk w N.xb 28 F ∧ XK F N
  st : ∃ K, Blk w N.kb 120 K ∧ ∀ (i v : Nat), ws[i]? = some v → K i = .int .u64 v
  mm : Mm w N.sb N.rb S
  hw : Hw w N.hb N.bb N.tb T H
theorem Xr.start (h : Xz w N T ws S H) : Xr w (((w.alloc (.cells O129 129)).alloc (.cells O90 90)).alloc (.cells O69 69)) (nX N w.heap.size) T ws [] Option.none S H := by
  have k1 : Kp (fun _ => False) w (w.alloc (.cells O129 129)) := (Kp.refl _ _).alloc _
  have s1 : (w.alloc (.cells O129 129)).heap.size = w.heap.size + 1 := World.size_alloc _ _
  have b1 := blk_alloc w O129 129
  generalize w.alloc (.cells O129 129) = A1 at *
  have k2 : Kp (fun _ => False) A1 (A1.alloc (.cells O90 90)) := (Kp.refl _ _).alloc _
  have s2 : (A1.alloc (.cells O90 90)).heap.size = w.heap.size + 2 := by rw [World.size_alloc, s1]
  have b2 := blk_alloc A1 O90 90
  rw [s1] at b2
  generalize A1.alloc (.cells O90 90) = A2 at *
  have k3 : Kp (fun _ => False) A2 (A2.alloc (.cells O69 69)) := (Kp.refl _ _).alloc _
  have b3 := blk_alloc A2 O69 69
  rw [s2] at b3
  generalize A2.alloc (.cells O69 69) = A3 at *
  have k13 := (k1.trans k2).trans k3
  have nf : ∀ {k : Nat}, ¬ (fun _ => False) k := fun h => h
  obtain ⟨F, x1, x2⟩ := h.x
  obtain ⟨K, y1, y2⟩ := h.st
  exact ⟨k13.mono (fun _ h => h.elim), ⟨F, x1.keep k13 (fun h => h), ⟨x2.f3, x2.f4, x2.f5, x2.f6, x2.f7, x2.f8, x2.f9, x2.fz⟩, fun i f hi => by simp at hi, fun _ _ e => by simp at e⟩, ⟨K, y1.keep k13 (fun h => h), y2⟩, ⟨_, (b1.keep k2 (fun h => h)).keep k3 (fun h => h)⟩, ⟨_, b2.keep k3 (fun h => h)⟩, ⟨_, b3⟩, h.mm.keep k13 (fun h => h) (fun h => h), h.hw.keep k13 (fun h => h) (fun h => h) (fun h => h) (fun _ _ h => h)⟩
set_option maxHeartbeats 8000000 in
theorem run_calls (hq : Xq w (nX N w.heap.size) C T) (hlen : ∀ (k : Nat) (ff : FF), C.fs[k]? = some ff → ff.cells.length ≤ 1000) (hTy : ∀ j : Nat, j < C.M.imports.length + C.M.funcs.length → ∃ t, C.M.typeOf (j : Int) = some t) (hfs : C.fs.length ≤ 8) (hx : Xz w N T ws S H)
    (hgo : Goes C R m fuel (enterX C ws [] f S H)) (hfu : fuel < 9223372036854775808) (hty : C.M.typeOf (f : Int) = some t) (hwl : ws.length = t.p.size) (henv : Env C ws S H) :
    Calls Tryz.prog 42 #[.pointer (some ⟨N.xb, 0, none⟩), .int .i64 f, .int .i64 ws.length, .int .i64 fuel] w (fun en w' => en = .returned (.tuple #[.int .i64 R.1, .int .i64 R.2.e]) ∧ ∃ ws' fr hd, Xr w w' (nX N w.heap.size) T ws' fr hd R.2.S R.2.H ∧ (R.2.e = 0 → ws' = R.2.out)) := by
  have hnp := (typeOf_ok hq.ok.mod hty).np
  have HX : Hid _ := Xr.start hx
  obtain ⟨F, x1, x2⟩ := hx.x
  have c9 := x1.cell (i := 9) (by decide)
  have c5 := x1.cell (i := 5) (by decide)
  rw [x2.f9] at c9
  rw [x2.f5] at c5
  obtain ⟨ia, icap, hmi⟩ := hq.kx.imp
  have hmi' : w.cell? ⟨N.mb, 1, none⟩ = some (.slice ia C.M.imports.length icap) := hmi
  have HQQ : Hid _ := hq
  have HL : Hid _ := hlen
  have HT : Hid _ := hTy
  have HGO : Hid _ := hgo
  have HTY : Hid _ := hty
  have HWL : Hid _ := hwl
  have HENV : Hid _ := henv
  obtain ⟨sp, hsp⟩ : ∃ sp, ws.length = sp := ⟨_, rfl⟩
  rw [hsp]
  have HSP : Hid _ := hsp
  clear hq hlen hTy hgo hty hwl henv hx x1 x2 hmi hsp
  go_enter Tryz.func42, Tryz.ntmps42
  repeat (first | (with_reducible refine xt_exit ?_) | (with_reducible refine xt_normal ?_) | (with_reducible refine xb_normal ?_) | (with_reducible refine xb_eq ?_) | (with_reducible refine xb_ne ?_ ?_; · decide) | (with_reducible refine xt_goto ?_) | (with_reducible refine xb_goto ?_) | go_values | go_skip | go_guarded | go_step | go_upon)
  have HFIN : Hid (∀ tmps w', Fin42 w w' (nX N w.heap.size) T R tmps → bodyPost Tryz.prog Tryz.f42 (fun en w' => en = .returned (.tuple #[.int .i64 R.1, .int .i64 R.2.e]) ∧ ∃ ws' fr hd, Xr w w' (nX N w.heap.size) T ws' fr hd R.2.S R.2.H ∧ (R.2.e = 0 → ws' = R.2.out)) .ret ⟨tmps, []⟩ w') := by
    intro tmps w' h
    have t8 := h.t8
    have t9 := h.t9
    rw [Array.getD_eq_getD_getElem?] at t8 t9
    refine bodyPost_ret (v := .tuple #[.int .i64 R.1, .int .i64 R.2.e]) (by simp [results, Tryz.results42, go_sem, t8, t9]) rfl ?_
    exact ⟨rfl, h.x⟩
  refine wp_code (c := .scope ((Tryz.f42.body.bind scopeB).getD .skip)) (by kernel_rfl) ?_
  refine wp_scope_n (J42 w (nX N w.heap.size) C T R) (labR Tryz.f42.body) ?_ ?_ ?_
  · intro l n a w' h
    rcases h with ⟨rfl, _⟩ | ⟨rfl, _⟩ | ⟨rfl, _⟩ | ⟨rfl, _⟩ <;> kernel_rfl
  · intro l n a w' h
    rcases h with ⟨rfl, m9, u, fuel9, s, ff, ci, rfl, rfl, h⟩ | ⟨rfl, m9, u, fuel9, s, ff, ci, c, rfl, rfl, h⟩ | ⟨rfl, m9, u, fuel9, s, ff, ci, rfl, rfl, h⟩ | ⟨rfl, m9, u, fuel9, ws9, cur, f9, S9, H9, t9, rfl, rfl, h⟩
    · exact pass1 HQQ.out HL.out HT.out h (fun l k a w' hk hJ => ⟨k, hk, hJ⟩) HFIN.out
    · exact pass2 HQQ.out HL.out h (fun a w' hJ => ⟨2 * m9 + 1, by omega, hJ⟩)
    · exact pass3 HQQ.out hfs h (fun a w' hJ => ⟨2 * m9 + 1, by omega, hJ⟩) HFIN.out
    · exact pass0 HQQ.out hfs h (fun a w' hJ => ⟨2 * m9 + 1, by omega, hJ⟩) HFIN.out
  conv => arg 2; whnf
  repeat (first | (with_reducible refine xt_exit ?_) | (with_reducible refine xt_normal ?_) | (with_reducible refine xb_normal ?_) | (with_reducible refine xb_eq ?_) | (with_reducible refine xb_ne ?_ ?_; · decide) | (with_reducible refine xt_goto ?_) | (with_reducible refine xb_goto ?_) | go_values | go_skip | go_guarded | go_step | go_step3 | go_upon)
  have hw4 : ws.length ≤ 4 := by rw [HWL.out]; exact hnp
  have hen : ∀ {tmps : Array Value} {w3 : World}, tmps.getD 1 undef = .int .i64 (f : Int) → tmps.getD 2 undef = .int .i64 (sp : Int) → tmps.getD 3 undef = .int .i64 (fuel : Int) → tmps.getD 22 undef = .int .i64 (-1) → (⟨tmps, []⟩ : Act) = ⟨fx (nX N w.heap.size) C (fun i => tmps.getD i undef), []⟩ → Xr w w3 (nX N w.heap.size) T ws [] none S H → ∃ k, J42 w (nX N w.heap.size) C T R 0 k ⟨tmps, []⟩ w3 := by
    intro tmps w3 h1 h2 h3 h22 heq hx
    exact ⟨2 * m + 2, .inr (.inr (.inr ⟨rfl, m, _, fuel, ws, [], f, S, H, t, rfl, heq, HGO.out, hfu, ⟨h1, by rw [h2, HSP.out], h3, by rw [h22]; rfl, .inl ⟨rfl, hx⟩⟩, HTY.out, by rw [HWL.out]; exact Nat.le_refl _, HENV.out, ⟨by simp, .inr ⟨rfl, hw4⟩⟩⟩))⟩
  exact hen (by kernel_rfl) (by kernel_rfl) (by kernel_rfl) (by kernel_rfl) (by kernel_rfl) HX.out
end
end Go.Proofs.Qxb6500275aGreatDoor
