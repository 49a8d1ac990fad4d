import Derived.Test.Qxb6500275aGreatDoorDec0
import Derived.Test.Qxb6500275aGreatDoorSec1
import Derived.Test.Qxb6500275aGreatDoorSec2
import Derived.Test.Qxb6500275aGreatDoorSec3
import Derived.Test.Qxb6500275aGreatDoorSec4
import Derived.Test.Qxb6500275aGreatDoorSec6
import Derived.Test.Qxb6500275aGreatDoorSec7
import Derived.Test.Qxb6500275aGreatDoorSec9
import Derived.Test.Qxb6500275aGreatDoorSec10
import Derived.Test.Qxb6500275aGreatDoorSec11
import Derived.Laws.EntriesVeiled
set_option maxRecDepth 100000
set_option linter.unusedVariables false
set_option linter.unusedSimpArgs false
set_option linter.unusedSectionVars false
namespace Go.Proofs.Qxb6500275aGreatDoor
open Go Go.RowKit
variable [Inhabited TV]
def secS (id : Nat) (s : ByteArray) (p e : Nat) (M : Mod) (ty : List Int) : RM :=
  if id = 1 then sec1 s p e M ty else if id = 2 then sec2 s p e M ty else if id = 3 then sec3 s p e M ty else if id = 4 then sec4 s p e M ty else if id = 5 then sec5 s p e M ty else if id = 6 then sec6 s p e M ty
  else if id = 7 then sec7 s p e M ty else if id = 8 then sec8 s p e M ty else if id = 9 then sec9 s p e M ty else if id = 10 then sec10 s p e M ty else sec11 s p e M ty
def secsL (s : ByteArray) : Nat → Nat → Nat → Mod → List Int → RM
  | 0, _, _, _, _ => .error (0, 0)
  | n + 1, last, q, M, ty => if q < s.size then bindR (nextS s q s.size) fun a => if a.1 ≤ last ∨ 11 < a.1 then .error (5, q) else bindR (enterS s a.2 s.size) fun w => bindR (secS a.1 s w.1 w.2 M ty) fun x =>
      if x.2.2 = w.2 then secsL s n a.1 x.2.2 x.1 x.2.1 else .error (6, w.1)
    else .ok (M, ty, q)
def decodeS (s : ByteArray) : Except (Int × Nat) Mod :=
  if 1024 < s.size then .error (1, 0) else if s.size < 8 then .error (3, s.size) else if ((s.extract 0 8).toList == [0, 97, 115, 109, 1, 0, 0, 0]) = true then
    bindR (secsL s (s.size - 8 + 1) 0 8 Mod.empty []) fun x => if x.2.1.length = x.1.funcs.length then .ok x.1 else .error (12, s.size)
  else .error (2, 0)
section
variable {w w' w1 w2 : World} {b : Nat} {s : ByteArray} {p q q2 e bb ib tb mb : Nat} {ty : List Int} {M : Mod}
theorem sec_calls (id : Nat) (h1 : 1 ≤ id) (h11 : id ≤ 11) (h3 : id = 3 → ty = []) (h : Dc w b s p e bb ib tb mb ty M) : Calls Tryz.prog (51 + id) #[.pointer (some ⟨b, 0, none⟩), .pointer (some ⟨mb, 0, none⟩)] w (SecP (secS id s p e M ty) b s e bb ib tb mb w) := by
  have : id = 1 ∨ id = 2 ∨ id = 3 ∨ id = 4 ∨ id = 5 ∨ id = 6 ∨ id = 7 ∨ id = 8 ∨ id = 9 ∨ id = 10 ∨ id = 11 := by omega
  rcases this with rfl | rfl | rfl | rfl | rfl | rfl | rfl | rfl | rfl | rfl | rfl
  · exact types_calls h
  · exact imports_calls h
  · have := h3 rfl
    subst this
    exact funcs_calls h
  · exact table_calls h
  · exact memory_calls h
  · exact globals_calls h
  · exact exports_calls h
  · exact start_calls h
  · exact elems_calls h
  · exact codes_calls h
  · exact datas_calls h
/- what Decode comes to -/
def DP (o : Except (Int × Nat) Mod) (s : ByteArray) (bb ib tb : Nat) (w : World) (en : Ending) (w' : World) : Prop :=
  Kp (fun k => k = bb ∨ k = ib ∨ k = tb) w w' ∧ (∃ ty, Bt w' bb ib tb ty) ∧ match o with
    | .ok M => ∃ mb, w.heap.size ≤ mb ∧ en = .returned (.tuple #[.pointer (some ⟨mb, 0, none⟩), .int .i64 s.size, .int .i64 0]) ∧ Md w' mb M
    | .error (c, a) => en = .returned (.tuple #[.pointer none, .int .i64 a, .int .i64 c])
theorem DP.mkOk {o : Except (Int × Nat) Mod} {en : Ending} {mb : Nat} (ho : o = .ok M) (h1 : Kp (fun k => k = bb ∨ k = ib ∨ k = tb) w w') (h2 : Bt w' bb ib tb ty) (h3 : w.heap.size ≤ mb) (h4 : en = .returned (.tuple #[.pointer (some ⟨mb, 0, none⟩), .int .i64 s.size, .int .i64 0])) (h5 : Md w' mb M) : DP o s bb ib tb w en w' := by
  subst ho; exact ⟨h1, ⟨_, h2⟩, mb, h3, h4, h5⟩
theorem DP.mkErr {o : Except (Int × Nat) Mod} {en : Ending} {c : Int} {a : Nat} (ho : o = .error (c, a)) (h1 : Kp (fun k => k = bb ∨ k = ib ∨ k = tb) w w') (h2 : Bt w' bb ib tb ty) (h4 : en = .returned (.tuple #[.pointer none, .int .i64 a, .int .i64 c])) : DP o s bb ib tb w en w' := by
  subst ho; exact ⟨h1, ⟨_, h2⟩, h4⟩
theorem res22 {tmps : Array Value} {n : Nat} {v0 v1 v2 : Value} (t4 : tmps.getD 4 undef = .pointer (some ⟨n, 0, none⟩)) (t5 : tmps.getD 5 undef = .pointer (some ⟨n + 1, 0, none⟩)) (t6 : tmps.getD 6 undef = .pointer (some ⟨n + 2, 0, none⟩)) (c0 : w.cell? ⟨n, 0, none⟩ = some v0) (c1 : w.cell? ⟨n + 1, 0, none⟩ = some v1) (c2 : w.cell? ⟨n + 2, 0, none⟩ = some v2) :
    (results Tryz.f22 tmps).run Tryz.prog w = .ok (.tuple #[v0, v1, v2]) w := by
  rw [Array.getD_eq_getD_getElem?] at t4 t5 t6
  simp [results, Tryz.results22, go_sem, t4, t5, t6, c0, c1, c2]
theorem blk_alloc (w : World) (C : Array Value) (t : TypeId) : Blk (w.alloc (.cells C t)) w.heap.size C.size (fun i => C[i]!) := by
  intro i hi
  rw [World.cell?_alloc_at _ _ _ _ rfl, World.frozen?_alloc_at _ _ _ _ rfl]
  exact ⟨by simp [hi], rfl⟩
/- amid the sections: the three results' variables n .. n + 2, the reader b, the module mb, the table of readers rb -/
structure Ds (w w1 : World) (n b mb rb : Nat) (s : ByteArray) (q e bb ib tb : Nat) (ty : List Int) (M : Mod) : Prop where
  dc : Dc w1 b s q e bb ib tb mb ty M
  c0 : w1.cell? ⟨n, 0, none⟩ = some (.pointer (some ⟨mb, 0, none⟩))
  f0 : w1.frozen? ⟨n, 0, none⟩ = false
  c1 : ∃ v, w1.cell? ⟨n + 1, 0, none⟩ = some v
  f1 : w1.frozen? ⟨n + 1, 0, none⟩ = false
  c2 : ∃ v, w1.cell? ⟨n + 2, 0, none⟩ = some v
  f2 : w1.frozen? ⟨n + 2, 0, none⟩ = false
  rr : ∀ id, 1 ≤ id → id ≤ 11 → w1.cell? ⟨rb, id, none⟩ = some (.func (.func (51 + id)) #[] #[])
  kp : Kp (fun k => k = bb ∨ k = ib ∨ k = tb) w w1
  hn : n = w.heap.size
  lt : bb < n ∧ ib < n ∧ tb < n ∧ n + 2 < b ∧ b < mb ∧ mb < rb
theorem Ds.step {q2 e2 : Nat} {ty2 : List Int} {M2 : Mod} {n rb : Nat} (h : Ds w w1 n b mb rb s q e bb ib tb ty M) (hk : Kp (Sd b bb ib tb mb) w1 w2) (hd : Dc w2 b s q2 e2 bb ib tb mb ty2 M2) : Ds w w2 n b mb rb s q2 e2 bb ib tb ty2 M2 := by
  have hlt := h.lt
  have l0 : n < w1.heap.size := lt_of_cell h.c0
  have l1 : n + 1 < w1.heap.size := by obtain ⟨v, hv⟩ := h.c1; exact lt_of_cell hv
  have l2 : n + 2 < w1.heap.size := by obtain ⟨v, hv⟩ := h.c2; exact lt_of_cell hv
  have l3 : rb < w1.heap.size := lt_of_cell (h.rr 1 (by omega) (by omega))
  have s0 : ¬ Sd b bb ib tb mb n := by unfold Sd; omega
  have s1 : ¬ Sd b bb ib tb mb (n + 1) := by unfold Sd; omega
  have s2 : ¬ Sd b bb ib tb mb (n + 2) := by unfold Sd; omega
  have s3 : ¬ Sd b bb ib tb mb rb := by unfold Sd; omega
  refine ⟨hd, (hk.cell (p := ⟨n, 0, none⟩) l0 s0).trans h.c0, (hk.frozen (p := ⟨n, 0, none⟩) l0 s0).trans h.f0, ?_, (hk.frozen (p := ⟨n + 1, 0, none⟩) l1 s1).trans h.f1, ?_, (hk.frozen (p := ⟨n + 2, 0, none⟩) l2 s2).trans h.f2, fun id h1 h2 => (hk.cell (p := ⟨rb, id, none⟩) l3 s3).trans (h.rr id h1 h2), ?_, h.hn, hlt⟩
  · obtain ⟨v, hv⟩ := h.c1
    exact ⟨v, (hk.cell (p := ⟨n + 1, 0, none⟩) l1 s1).trans hv⟩
  · obtain ⟨v, hv⟩ := h.c2
    exact ⟨v, (hk.cell (p := ⟨n + 2, 0, none⟩) l2 s2).trans hv⟩
  · have hs := h.hn
    refine ⟨hk.os.trans h.kp.os, hk.tape.trans h.kp.tape, hk.output.trans h.kp.output, Nat.le_trans h.kp.size hk.size, fun i hi hs => (hk.block i (Nat.lt_of_lt_of_le hi h.kp.size) ?_).trans (h.kp.block i hi hs)⟩
    unfold Sd
    omega
theorem Ds.read {q2 e2 : Nat} {n rb : Nat} (h : Ds w w1 n b mb rb s q e bb ib tb ty M) (hk : Kp (· = b) w1 w2) (hr : Rd w2 b s q2 e2 bb) : Ds w w2 n b mb rb s q2 e2 bb ib tb ty M :=
  h.step hk.sd ⟨hr, h.dc.btOf hk, h.dc.mdOf hk (fun k h => .inl h), h.dc.ne, h.dc.lt⟩
/- the door, a fault going through it -/
theorem door_err {X : Except (Int × Nat) Mod} {tmps : Array Value} {n rb : Nat} {c : Int} {a : Nat} (hX : X = .error (c, a)) (h : Ds w w1 n b mb rb s q e bb ib tb ty M) (hk : Kp (Sd b bb ib tb mb) w1 w2) {ty2 : List Int} (hB : Bt w2 bb ib tb ty2)
    (t4 : tmps.getD 4 undef = .pointer (some ⟨n, 0, none⟩)) (t5 : tmps.getD 5 undef = .pointer (some ⟨n + 1, 0, none⟩)) (t6 : tmps.getD 6 undef = .pointer (some ⟨n + 2, 0, none⟩)) :
    bodyPostD Tryz.prog Tryz.f22 (DP X s bb ib tb w) (Exit.panic [{ v := .iface 96 (.agg #[.int .i64 c, .int .i64 a]), recovered := false }]) { tmps := tmps, defers := [{ target := .fn (.func 51) #[.pointer (some ⟨n, 0, none⟩), .pointer (some ⟨n + 1, 0, none⟩), .pointer (some ⟨n + 2, 0, none⟩)], args := #[] }] } w2 := by
  have hlt := h.lt
  have hn := h.hn
  have l0 : n < w1.heap.size := lt_of_cell h.c0
  obtain ⟨v1, hv1⟩ := h.c1
  obtain ⟨v2, hv2⟩ := h.c2
  have l1 : n + 1 < w1.heap.size := lt_of_cell hv1
  have l2 : n + 2 < w1.heap.size := lt_of_cell hv2
  have s0 : ¬ Sd b bb ib tb mb n := by unfold Sd; omega
  have s1 : ¬ Sd b bb ib tb mb (n + 1) := by unfold Sd; omega
  have s2 : ¬ Sd b bb ib tb mb (n + 2) := by unfold Sd; omega
  refine leaves_cons (f := 51) (args := #[.pointer (some ⟨n, 0, none⟩), .pointer (some ⟨n + 1, 0, none⟩), .pointer (some ⟨n + 2, 0, none⟩)]) (by simp) (by simp [go_sem]) ?_
  refine (catch_fault n c a [] w2 ((hk.cell (p := ⟨n, 0, none⟩) l0 s0).trans h.c0) ((hk.cell (p := ⟨n + 1, 0, none⟩) l1 s1).trans hv1) ((hk.cell (p := ⟨n + 2, 0, none⟩) l2 s2).trans hv2) ((hk.frozen (p := ⟨n, 0, none⟩) l0 s0).trans h.f0) ((hk.frozen (p := ⟨n + 1, 0, none⟩) l1 s1).trans h.f1) ((hk.frozen (p := ⟨n + 2, 0, none⟩) l2 s2).trans h.f2)).mono ?_
  rintro e u' w'' ⟨rfl, rfl, hC⟩
  refine ⟨.tuple #[.pointer none, .int .i64 a, .int .i64 c], res22 t4 t5 t6 hC.c0 hC.c1 hC.c2, DP.mkErr hX ?_ (hB.keep hC.kp (by omega) (by omega) (by omega)) rfl⟩
  refine ⟨(hC.kp.os.trans hk.os).trans h.kp.os, (hC.kp.tape.trans hk.tape).trans h.kp.tape, (hC.kp.output.trans hk.output).trans h.kp.output, Nat.le_trans (Nat.le_trans h.kp.size hk.size) hC.kp.size, fun i hi hs => ?_⟩
  have hi1 := Nat.lt_of_lt_of_le hi h.kp.size
  rw [hC.kp.block i (Nat.lt_of_lt_of_le hi1 hk.size) (by omega), hk.block i hi1 (by unfold Sd; omega), h.kp.block i hi hs]
theorem md_empty {F : Nat → Value} {n : Nat} (hB : Blk w n 12 F) (h : ∀ i, i < 12 → F i = (#[Value.slice none 0 0, .slice none 0 0, .slice none 0 0, .int .i64 (-1), .int .i64 (-1), .int .i64 (-1), .int .i64 (-1), .slice none 0 0, .slice none 0 0, .int .i64 (-1), .slice none 0 0, .slice none 0 0] : Array Value)[i]!) : Md w n Mod.empty := by
  refine ⟨F, hB, ?_, ?_, ?_, ?_, ?_, ?_, ?_, ?_, ?_, ?_, ?_, ?_⟩
  · rw [h 0 (by decide)]; exact Ls.nil _ _ _ _
  · rw [h 1 (by decide)]; exact Ls.nil _ _ _ _
  · rw [h 2 (by decide)]; exact Ls.nil _ _ _ _
  · exact h 3 (by decide)
  · exact h 4 (by decide)
  · exact h 5 (by decide)
  · exact h 6 (by decide)
  · rw [h 7 (by decide)]; exact Ls.nil _ _ _ _
  · rw [h 8 (by decide)]; exact Ls.nil _ _ _ _
  · exact h 9 (by decide)
  · rw [h 10 (by decide)]; exact Ls.nil _ _ _ _
  · rw [h 11 (by decide)]; exact Ls.nil _ _ _ _
def O3 (s : ByteArray) (bb : Nat) : Array Value := #[.string s, .int .i64 8, .int .i64 s.size, .pointer (some ⟨bb, 0, none⟩)]
def O4 : Array Value := #[Value.slice none 0 0, .slice none 0 0, .slice none 0 0, .int .i64 (-1), .int .i64 (-1), .int .i64 (-1), .int .i64 (-1), .slice none 0 0, .slice none 0 0, .int .i64 (-1), .slice none 0 0, .slice none 0 0]
def O5 : Array Value := #[Value.nilFunc, .func (.func 52) #[] #[], .func (.func 53) #[] #[], .func (.func 54) #[] #[], .func (.func 55) #[] #[], .func (.func 56) #[] #[], .func (.func 57) #[] #[], .func (.func 58) #[] #[], .func (.func 59) #[] #[], .func (.func 60) #[] #[], .func (.func 61) #[] #[], .func (.func 62) #[] #[]]
def W6 (w : World) (n bb : Nat) (s : ByteArray) : World := ((((((w.setCell ⟨bb, 8, none⟩ (.int .i64 0)).alloc (.cells #[.pointer (some ⟨n + 4, 0, none⟩)] 48)).alloc (.cells #[.int .i64 0] 3)).alloc (.cells #[.int .i64 0] 31)).alloc (.cells (O3 s bb) 100)).alloc (.cells O4 85)).alloc (.cells O5 109)
theorem ds_first (hB : Bt w bb ib tb ty) (h8 : 8 ≤ s.size) (h1 : s.size ≤ 1024) : Ds w (W6 w w.heap.size bb s) w.heap.size (w.heap.size + 3) (w.heap.size + 4) (w.heap.size + 5) s 8 s.size bb ib tb [] Mod.empty := by
  obtain ⟨op, ins, t, hB⟩ := hB
  have hl := hB.lts
  have hBn : Bn (w.setCell ⟨bb, 8, none⟩ (.int .i64 0)) bb ib tb [] op ins t := hB.newTy (l := []) (by
    obtain ⟨⟨F, G, H, b1, _⟩, _⟩ := hB
    exact ⟨F, b1, fun i t h => by simp at h⟩) (by simp)
  have hkA : Kp (fun k => k = bb ∨ k = ib ∨ k = tb) w (w.setCell ⟨bb, 8, none⟩ (.int .i64 0)) := (Kp.refl _ w).setCell (p := ⟨bb, 8, none⟩) (.inl (.inl rfl)) _
  obtain ⟨n, hn⟩ : ∃ n, w.heap.size = n := ⟨_, rfl⟩
  have hA : (w.setCell ⟨bb, 8, none⟩ (.int .i64 0)).heap.size = n := by rw [World.size_setCell]; exact hn
  unfold W6
  rw [hn] at hl ⊢
  generalize w.setCell ⟨bb, 8, none⟩ (.int .i64 0) = A at *
  have z0 := blk_alloc A #[.pointer (some ⟨n + 4, 0, none⟩)] 48
  have a1 : (A.alloc (.cells #[.pointer (some ⟨n + 4, 0, none⟩)] 48)).heap.size = n + 1 := by rw [World.size_alloc, hA]
  have k1 : Kp (fun _ => False) A (A.alloc (.cells #[.pointer (some ⟨n + 4, 0, none⟩)] 48)) := (Kp.refl _ _).alloc _
  generalize A.alloc (.cells #[.pointer (some ⟨n + 4, 0, none⟩)] 48) = A1 at *
  have z1 := blk_alloc A1 #[.int .i64 0] 3
  have a2 : (A1.alloc (.cells #[.int .i64 0] 3)).heap.size = n + 2 := by rw [World.size_alloc, a1]
  have k2 : Kp (fun _ => False) A1 (A1.alloc (.cells #[.int .i64 0] 3)) := (Kp.refl _ _).alloc _
  generalize A1.alloc (.cells #[.int .i64 0] 3) = A2 at *
  have z2 := blk_alloc A2 #[.int .i64 0] 31
  have a3 : (A2.alloc (.cells #[.int .i64 0] 31)).heap.size = n + 3 := by rw [World.size_alloc, a2]
  have k3 : Kp (fun _ => False) A2 (A2.alloc (.cells #[.int .i64 0] 31)) := (Kp.refl _ _).alloc _
  generalize A2.alloc (.cells #[.int .i64 0] 31) = A3 at *
  have z3 := blk_alloc A3 (O3 s bb) 100
  have a4 : (A3.alloc (.cells (O3 s bb) 100)).heap.size = n + 4 := by rw [World.size_alloc, a3]
  have k4 : Kp (fun _ => False) A3 (A3.alloc (.cells (O3 s bb) 100)) := (Kp.refl _ _).alloc _
  generalize A3.alloc (.cells (O3 s bb) 100) = A4 at *
  have z4 := blk_alloc A4 O4 85
  have a5 : (A4.alloc (.cells O4 85)).heap.size = n + 5 := by rw [World.size_alloc, a4]
  have k5 : Kp (fun _ => False) A4 (A4.alloc (.cells O4 85)) := (Kp.refl _ _).alloc _
  generalize A4.alloc (.cells O4 85) = A5 at *
  have z5 := blk_alloc A5 O5 109
  have k6 : Kp (fun _ => False) A5 (A5.alloc (.cells O5 109)) := (Kp.refl _ _).alloc _
  generalize A5.alloc (.cells O5 109) = A6 at *
  rw [hA] at z0
  rw [a1] at z1
  rw [a2] at z2
  rw [a3] at z3
  rw [a4] at z4
  rw [a5] at z5
  have k26 := (((k2.trans k3).trans k4).trans k5).trans k6
  have k36 := ((k3.trans k4).trans k5).trans k6
  have k46 := (k4.trans k5).trans k6
  have k56 := k5.trans k6
  have k16 := k1.trans k26
  have y0 := z0.keep k26 (fun h => h)
  have y1 := z1.keep k36 (fun h => h)
  have y2 := z2.keep k46 (fun h => h)
  have y3 := z3.keep k56 (fun h => h)
  have y4 := z4.keep k6 (fun h => h)
  have hrd : Rd A6 (n + 3) s 8 s.size bb := ⟨y3.cell (i := 0) (by show 0 < 4; decide), y3.cell (i := 1) (by show 1 < 4; decide), y3.cell (i := 2) (by show 2 < 4; decide), y3.cell (i := 3) (by show 3 < 4; decide), y3.fz (i := 1) (by show 1 < 4; decide), y3.fz (i := 2) (by show 2 < 4; decide), h8, Nat.le_refl _, h1⟩
  refine ⟨⟨hrd, ⟨op, ins, t, hBn.keep k16 (fun h => h) (fun h => h) (fun h => h)⟩, md_empty y4 (fun i hi => rfl), ⟨by omega, by omega, by omega⟩, ⟨by omega, by omega, by omega, by omega⟩⟩, y0.cell (i := 0) (by show 0 < 1; decide), y0.fz (i := 0) (by show 0 < 1; decide), ⟨_, y1.cell (i := 0) (by decide)⟩, y1.fz (i := 0) (by decide), ⟨_, y2.cell (i := 0) (by decide)⟩, y2.fz (i := 0) (by decide), ?_, hkA.trans (k16.mono fun k h => h.elim), hn.symm, ⟨by omega, by omega, by omega, by omega, by omega, by omega⟩⟩
  intro id h1 h2
  have : id = 1 ∨ id = 2 ∨ id = 3 ∨ id = 4 ∨ id = 5 ∨ id = 6 ∨ id = 7 ∨ id = 8 ∨ id = 9 ∨ id = 10 ∨ id = 11 := by omega
  rcases this with rfl | rfl | rfl | rfl | rfl | rfl | rfl | rfl | rfl | rfl | rfl
  all_goals exact z5.cell (by decide)
theorem Ds.enterStep {β : Type} {X : Except (Int × Nat) β} {Post : Ending → World → Prop} {n rb : Nat} {kk : Nat × Nat → Except (Int × Nat) β} (h : Ds w w1 n b mb rb s q e bb ib tb ty M) (HS : Hid (X = bindR (enterS s q e) kk))
    (h1 : ∀ c a w4, X = .error (c, a) → Kp (Sd b bb ib tb mb) w1 w4 → (∃ ty, Bt w4 bb ib tb ty) → Post (fault c a) w4) (h2 : ∀ (q2 f : Nat) w4, Hid (enterS s q e = .ok (q2, f)) → Hid (X = kk (q2, f)) → Hid (Ds w w4 n b mb rb s q2 f bb ib tb ty M) → Post (.returned (.int .i64 q2)) w4) : Calls Tryz.prog 64 #[.pointer (some ⟨b, 0, none⟩)] w1 Post := by
  cases ho : enterS s q e with
  | error g =>
    obtain ⟨c, a⟩ := g
    refine (enter_err h.dc.rd ho).mono ?_
    rintro en w4 ⟨rfl, hK⟩
    exact h1 c a w4 (HS.out.trans (bindR_err ho kk)) hK.sd ⟨_, h.dc.btOf hK⟩
  | ok x =>
    obtain ⟨q2, f⟩ := x
    refine (enter_ok h.dc.rd ho).mono ?_
    rintro en w4 ⟨rfl, hr, hK⟩
    exact h2 q2 f w4 ho (HS.out.trans (bindR_ok ho kk)) (h.read hK hr)
theorem Ds.secStep {β : Type} {X : Except (Int × Nat) β} {Post : Ending → World → Prop} {n rb id : Nat} {kk : Mod × List Int × Nat → Except (Int × Nat) β} (h : Ds w w1 n b mb rb s q e bb ib tb ty M) (hid : 1 ≤ id ∧ id ≤ 11) (h3 : id = 3 → ty = []) (HS : Hid (X = bindR (secS id s q e M ty) kk))
    (h1 : ∀ c a w4, X = .error (c, a) → Kp (Sd b bb ib tb mb) w1 w4 → (∃ ty, Bt w4 bb ib tb ty) → Post (fault c a) w4) (h2 : ∀ M2 ty2 (q2 : Nat) w4, Hid (secS id s q e M ty = .ok (M2, ty2, q2)) → Hid (X = kk (M2, ty2, q2)) → Hid (Ds w w4 n b mb rb s q2 e bb ib tb ty2 M2) → Post (.returned (.tuple #[])) w4) : Calls Tryz.prog (51 + id) #[.pointer (some ⟨b, 0, none⟩), .pointer (some ⟨mb, 0, none⟩)] w1 Post := by
  refine (sec_calls id hid.1 hid.2 h3 h.dc).mono ?_
  rintro en w4 ⟨hK, hP⟩
  cases ho : secS id s q e M ty with
  | error g =>
    obtain ⟨c, a⟩ := g
    rw [ho] at hP
    obtain ⟨rfl, hb⟩ := hP
    exact h1 c a w4 (HS.out.trans (bindR_err ho kk)) hK hb
  | ok x =>
    obtain ⟨M2, ty2, q2⟩ := x
    rw [ho] at hP
    obtain ⟨rfl, hr, hb, hm⟩ := hP
    exact h2 M2 ty2 q2 w4 ho (HS.out.trans (bindR_ok ho kk)) (h.step hK ⟨hr, hb, hm, h.dc.ne, h.dc.lt⟩)
theorem Ds.leaveStep {β : Type} {X Y : Except (Int × Nat) β} {Post : Ending → World → Prop} {n rb f fr : Nat} (h : Ds w w1 n b mb rb s q f bb ib tb ty M) (HS : Hid (X = if q = f then Y else .error (6, fr))) (hf : f ≤ s.size) (hfr : fr ≤ 4096)
    (h1 : ∀ c a w4, X = .error (c, a) → Kp (Sd b bb ib tb mb) w1 w4 → (∃ ty, Bt w4 bb ib tb ty) → Post (fault c a) w4) (h2 : ∀ w4, Hid (q = f) → Hid (X = Y) → Hid (Ds w w4 n b mb rb s q s.size bb ib tb ty M) → Post (.returned (.tuple #[])) w4) : Calls Tryz.prog 65 #[.pointer (some ⟨b, 0, none⟩), .int .i64 fr, .int .i64 s.size] w1 Post := by
  by_cases hq : q = f
  · subst hq
    rw [if_pos rfl] at HS
    refine (leave_ok h.dc.rd fr s.size hfr hf (Nat.le_refl _)).mono ?_
    rintro en w4 ⟨rfl, hr, hK⟩
    exact h2 w4 rfl HS (h.read hK hr)
  · rw [if_neg hq] at HS
    refine (leave_err h.dc.rd hq fr (.int .i64 s.size) hfr).mono ?_
    rintro en w4 ⟨rfl, hK⟩
    exact h1 6 fr w4 HS.out hK.sd ⟨_, h.dc.btOf hK⟩
theorem secsL_same (s : ByteArray) : ∀ (n m last q : Nat) (M : Mod) (ty : List Int), s.size - q < n → s.size - q < m → secsL s n last q M ty = secsL s m last q M ty
  | 0, m, last, q, M, ty, h, _ => by omega
  | n + 1, 0, last, q, M, ty, _, h => by omega
  | n + 1, m + 1, last, q, M, ty, h1, h2 => by
    rw [secsL, secsL]
    by_cases hq : q < s.size
    · rw [if_pos hq, if_pos hq]
      cases hn : nextS s q s.size with
      | error f => rfl
      | ok a =>
        obtain ⟨a, q1⟩ := a
        have hq1 : q1 = q + 1 := by
          unfold nextS at hn
          rw [if_pos hq] at hn
          simp at hn; exact hn.2.symm
        dsimp only [bindR]
        by_cases hl : a ≤ last ∨ 11 < a
        · rw [if_pos hl, if_pos hl]
        · rw [if_neg hl, if_neg hl]
          cases he : enterS s q1 s.size with
          | error f => rfl
          | ok x =>
            obtain ⟨r, f⟩ := x
            have hf := enterS_ok he
            dsimp only
            cases hs : secS a s r f M ty with
            | error g => rfl
            | ok y =>
              obtain ⟨M2, ty2, q2⟩ := y
              dsimp only
              by_cases h3 : q2 = f
              · rw [if_pos h3, if_pos h3]
                exact secsL_same s n m a q2 M2 ty2 (by omega) (by omega)
              · rw [if_neg h3, if_neg h3]
    · rw [if_neg hq, if_neg hq]
theorem callSec (id : Nat) (h1 : 1 ≤ id) (h2 : id ≤ 11) (args : Array Value) (w : World) : (callFunc (51 + id) args).run Tryz.prog w = .ok (.enter (51 + id) args) w := by
  have : id = 1 ∨ id = 2 ∨ id = 3 ∨ id = 4 ∨ id = 5 ∨ id = 6 ∨ id = 7 ∨ id = 8 ∨ id = 9 ∨ id = 10 ∨ id = 11 := by omega
  rcases this with rfl | rfl | rfl | rfl | rfl | rfl | rfl | rfl | rfl | rfl | rfl
  · show (callFunc 52 args).run Tryz.prog w = .ok (.enter 52 args) w
    kernel_rfl
  · show (callFunc 53 args).run Tryz.prog w = .ok (.enter 53 args) w
    kernel_rfl
  · show (callFunc 54 args).run Tryz.prog w = .ok (.enter 54 args) w
    kernel_rfl
  · show (callFunc 55 args).run Tryz.prog w = .ok (.enter 55 args) w
    kernel_rfl
  · show (callFunc 56 args).run Tryz.prog w = .ok (.enter 56 args) w
    kernel_rfl
  · show (callFunc 57 args).run Tryz.prog w = .ok (.enter 57 args) w
    kernel_rfl
  · show (callFunc 58 args).run Tryz.prog w = .ok (.enter 58 args) w
    kernel_rfl
  · show (callFunc 59 args).run Tryz.prog w = .ok (.enter 59 args) w
    kernel_rfl
  · show (callFunc 60 args).run Tryz.prog w = .ok (.enter 60 args) w
    kernel_rfl
  · show (callFunc 61 args).run Tryz.prog w = .ok (.enter 61 args) w
    kernel_rfl
  · show (callFunc 62 args).run Tryz.prog w = .ok (.enter 62 args) w
    kernel_rfl
theorem bindR_ite {α β : Type} {c : Prop} [Decidable c] (A : Except (Int × Nat) α) (f : Int × Nat) (k : α → Except (Int × Nat) β) : bindR (if c then A else .error f) k = if c then bindR A k else .error f := by
  by_cases h : c
  · rw [if_pos h, if_pos h]
  · rw [if_neg h, if_neg h]; rfl
theorem sec12_ty {id : Nat} {M2 : Mod} {ty2 : List Int} (h : secS id s p e M ty = .ok (M2, ty2, q)) (hid : id = 1 ∨ id = 2) : ty2 = ty := by
  rcases hid with rfl | rfl
  · obtain ⟨x, _, h2⟩ := bindR_get (show sec1 s p e M ty = _ from h)
    simp at h2
    exact h2.2.1.symm
  · obtain ⟨x, _, h2⟩ := bindR_get (show sec2 s p e M ty = _ from h)
    simp at h2
    exact h2.2.1.symm
theorem Md.funcsCell (h : Md w mb M) : ∃ a, w.cell? ⟨mb, 2, none⟩ = some (.slice a M.funcs.length M.funcs.length) := by
  obtain ⟨F, h1, h2⟩ := h.is
  obtain ⟨G, ⟨a, h3, _⟩, _⟩ := h2.f
  exact ⟨a, by rw [h1.cell (by decide), h3]⟩
theorem door_ok {X : Except (Int × Nat) Mod} {tmps : Array Value} {n rb : Nat} (hX : X = .ok M) (h : Ds w w1 n b mb rb s q e bb ib tb ty M) (hk : Kp (fun k => k = n ∨ k = n + 1 ∨ k = n + 2) w1 w2)
    (c0 : w2.cell? ⟨n, 0, none⟩ = some (.pointer (some ⟨mb, 0, none⟩))) (c1 : w2.cell? ⟨n + 1, 0, none⟩ = some (.int .i64 s.size)) (c2 : w2.cell? ⟨n + 2, 0, none⟩ = some (.int .i64 0))
    (t4 : tmps.getD 4 undef = .pointer (some ⟨n, 0, none⟩)) (t5 : tmps.getD 5 undef = .pointer (some ⟨n + 1, 0, none⟩)) (t6 : tmps.getD 6 undef = .pointer (some ⟨n + 2, 0, none⟩)) :
    bodyPostD Tryz.prog Tryz.f22 (DP X s bb ib tb w) Exit.ret { tmps := tmps, defers := [{ target := .fn (.func 51) #[.pointer (some ⟨n, 0, none⟩), .pointer (some ⟨n + 1, 0, none⟩), .pointer (some ⟨n + 2, 0, none⟩)], args := #[] }] } w2 := by
  have hlt := h.lt
  have hn := h.hn
  refine leaves_cons (f := 51) (args := #[.pointer (some ⟨n, 0, none⟩), .pointer (some ⟨n + 1, 0, none⟩), .pointer (some ⟨n + 2, 0, none⟩)]) (by simp) (by simp [go_sem]) ?_
  refine (catch_idle ⟨n, 0, none⟩ ⟨n + 1, 0, none⟩ ⟨n + 2, 0, none⟩ w2).mono ?_
  rintro e u' w'' ⟨rfl, rfl, rfl⟩
  refine ⟨.tuple #[.pointer (some ⟨mb, 0, none⟩), .int .i64 s.size, .int .i64 0], res22 t4 t5 t6 c0 c1 c2, DP.mkOk (mb := mb) hX ?_ (h.dc.bt.keep hk (by omega) (by omega) (by omega)) (by omega) rfl (h.dc.md.keep hk (fun k hk => by omega))⟩
  refine ⟨hk.os.trans h.kp.os, hk.tape.trans h.kp.tape, hk.output.trans h.kp.output, Nat.le_trans h.kp.size hk.size, fun i hi hs => ?_⟩
  rw [hk.block i (Nat.lt_of_lt_of_le hi h.kp.size) (by omega), h.kp.block i hi hs]
set_option maxHeartbeats 4000000 in
theorem decode_calls (hB : Bt w bb ib tb ty) : Calls Tryz.prog 22 #[.pointer (some ⟨bb, 0, none⟩), .string s] w (DP (decodeS s) s bb ib tb w) := by
  have hmf : ∀ (fn : Go.Fn) (first cap : Array Value) (w : World), (Instr.makeFunc fn first cap).run Tryz.prog w = .ok (.func fn first cap) w := fun _ _ _ _ => rfl
  obtain ⟨X, hX⟩ : ∃ X, decodeS s = X := ⟨_, rfl⟩
  have HS : Hid (X = decodeS s) := hX.symm
  unfold decodeS at HS
  rw [hX]
  clear hX
  have HB : Hid (Bt w bb ib tb ty) := hB
  have hbb : bb < w.heap.size := by
    obtain ⟨_, _, _, h⟩ := hB
    exact h.lts.1
  clear hB
  by_cases h1 : 1024 < s.size
  · rw [if_pos h1] at HS
    go_enter_defers Tryz.func22, Tryz.ntmps22
    go_wp2
    go_light
    refine ⟨.tuple #[.pointer none, .int .i64 0, .int .i64 1], by simp [results, Tryz.results22, go_sem], ?_⟩
    exact DP.mkErr HS.out ((((Kp.refl _ w).alloc _).alloc _).alloc _) (HB.out.keep (S := fun _ => False) ((((Kp.refl _ w).alloc _).alloc _).alloc _) (fun h => h) (fun h => h) (fun h => h)) rfl
  · rw [if_neg h1] at HS
    by_cases h8 : s.size < 8
    · rw [if_pos h8] at HS
      go_enter_defers Tryz.func22, Tryz.ntmps22
      go_wp2
      go_light
      refine ⟨.tuple #[.pointer none, .int .i64 s.size, .int .i64 3], by simp [results, Tryz.results22, go_sem], ?_⟩
      exact DP.mkErr HS.out ((((Kp.refl _ w).alloc _).alloc _).alloc _) (HB.out.keep (S := fun _ => False) ((((Kp.refl _ w).alloc _).alloc _).alloc _) (fun h => h) (fun h => h) (fun h => h)) rfl
    · rw [if_neg h8] at HS
      have h8' : (8 : Int) ≤ (s.size : Int) := by omega
      by_cases hm : ((s.extract 0 8).toList == [0, 97, 115, 109, 1, 0, 0, 0]) = true
      · rw [if_pos hm] at HS
        have hb1 : bb < w.heap.size + 1 := by omega
        have hb2 : bb < w.heap.size + 1 + 1 := by omega
        have hb3 : bb < w.heap.size + 1 + 1 + 1 := by omega
        have hb4 : bb < w.heap.size + 1 + 1 + 1 + 1 := by omega
        obtain ⟨⟨z8, hz8⟩, hg8⟩ := HB.out.bbCell (i := 8) (by decide)
        go_enter_defers Tryz.func22, Tryz.ntmps22
        go_wp2
        have hD0 := ds_first HB.out (s := s) (by omega) (by omega)
        have hW : W6 w w.heap.size bb s = ((((((w.setCell ⟨bb, 8, none⟩ (.int .i64 0)).alloc (.cells #[.pointer (some ⟨w.heap.size + 1 + 1 + 1 + 1, 0, none⟩)] 48)).alloc (.cells #[.int .i64 0] 3)).alloc (.cells #[.int .i64 0] 31)).alloc (.cells #[.string s, .int .i64 8, .int .i64 s.size, .pointer (some ⟨bb, 0, none⟩)] 100)).alloc (.cells #[Value.slice none 0 0, .slice none 0 0, .slice none 0 0, .int .i64 (-1), .int .i64 (-1), .int .i64 (-1), .int .i64 (-1), .slice none 0 0, .slice none 0 0, .int .i64 (-1), .slice none 0 0, .slice none 0 0] 85)).alloc (.cells #[Value.nilFunc, .func (.func 52) #[] #[], .func (.func 53) #[] #[], .func (.func 54) #[] #[], .func (.func 55) #[] #[], .func (.func 56) #[] #[], .func (.func 57) #[] #[], .func (.func 58) #[] #[], .func (.func 59) #[] #[], .func (.func 60) #[] #[], .func (.func 61) #[] #[], .func (.func 62) #[] #[]] 109) := rfl
        rw [← hW]
        clear hW hz8 hg8 hb1 hb2 hb3 hb4
        generalize W6 w w.heap.size bb s = w0 at *
        obtain ⟨n, hn⟩ : ∃ n, w.heap.size = n := ⟨_, rfl⟩
        rw [hn] at hD0 hbb
        obtain ⟨rb, hrb⟩ : ∃ rb, n + 1 + 1 + 1 + 1 + 1 = rb := ⟨_, rfl⟩
        obtain ⟨mb, hmb⟩ : ∃ mb, n + 1 + 1 + 1 + 1 = mb := ⟨_, rfl⟩
        obtain ⟨b, hb⟩ : ∃ b, n + 1 + 1 + 1 = b := ⟨_, rfl⟩
        have hD1 : Ds w w0 n b mb rb s 8 s.size bb ib tb [] Mod.empty := by rw [← hrb, ← hmb, ← hb]; exact hD0
        rw [hn, hrb, hmb, hb]
        have HNN : Hid _ := hn
        clear hD0 hrb hmb hb hn
        go_loopw [9] (fun ll w1 => ∃ (last q : Nat) (ty : List Int) (M : Mod), ll = .int .i64 last ∧ last ≤ 11 ∧ Ds w w1 n b mb rb s q s.size bb ib tb ty M ∧ (3 ≤ last ∨ ty = []) ∧ Hid (X = bindR (secsL s (s.size - q + 1) last q M ty) fun x => if x.2.1.length = x.1.funcs.length then .ok x.1 else .error (12, s.size))) (fun _ w1 => s.size - posOf w1 b)
        case atStart => exact ⟨0, 8, [], Mod.empty, rfl, by omega, hD1, .inr rfl, HS⟩
        case round =>
          clear hD1 HS HB hm
          obtain ⟨last, q, ty, M, rfl, hla, hDi, h3, HS⟩ := hrel
          have HD : Hid _ := hDi
          have c1 := hDi.dc.rd.c1
          have hpos : Hid (posOf wr b = q) := posOf_rd hDi.dc.rd
          have hqs := hDi.dc.rd.le
          have H3 : Hid _ := h3
          clear hDi h3
          by_cases hq : q < s.size
          · rw [secsL, if_pos hq, bindR_assoc] at HS
            go_wp2_with fail
            refine RP.step HS (next_calls HD.out.dc.rd) (fun c a w4 hX hK => door_err hX HD.out hK.sd (HD.out.dc.btOf hK) rfl rfl rfl) ?_
            clear HS
            intro id q1 w2 hid HS hK2 hR2
            unfold encB
            dsimp only at HS
            have hD2 := HD.out.read hK2 hR2
            have hq1 : q1 = q + 1 ∧ id < 256 := by
              have := hid.out
              unfold nextS at this
              rw [if_pos hq] at this
              simp at this
              obtain ⟨rfl, rfl⟩ := this
              exact ⟨rfl, bAt_lt _ _⟩
            clear HD hK2 hR2 hid c1
            have HD : Hid _ := hD2
            clear hD2
            by_cases hb1 : id ≤ last
            · rw [if_pos (.inl hb1)] at HS
              go_wp2
              go_light
              exact door_err HS.out HD.out (Kp.refl _ _) HD.out.dc.bt rfl rfl rfl
            · by_cases hb2 : 11 < id
              · rw [if_pos (.inr hb2)] at HS
                go_wp2
                go_light
                exact door_err HS.out HD.out (Kp.refl _ _) HD.out.dc.bt rfl rfl rfl
              · rw [if_neg (by omega), bindR_assoc] at HS
                go_wp2_with fail
                refine HD.out.enterStep HS (fun c a w4 hX hK ⟨ty, hB⟩ => door_err hX HD.out hK hB rfl rfl rfl) ?_
                clear HS
                intro q2 f w3 hen HS HD3
                clear HD
                dsimp only at HS
                rw [bindR_assoc] at HS
                have hef := enterS_ok hen.out
                have hrr := HD3.out.rr id (by omega) (by omega)
                have c0 := HD3.out.c0
                have hid12 : (id : Int) < 12 := by omega
                go_wp2_with fail
                rw [callSec id (by omega) (by omega), Oper.upon_enter]
                refine HD3.out.secStep (by omega) (fun h => H3.out.elim (fun h3 => absurd h3 (by omega)) (fun h3 => h3)) HS (fun c a w4 hX hK ⟨ty, hB⟩ => door_err hX HD3.out hK hB rfl rfl rfl) ?_
                clear HS
                intro M2 ty2 q3 w4 hse HS HD4
                dsimp only at HS
                rw [bindR_ite] at HS
                have HT : Hid (3 ≤ id ∨ ty2 = []) := by
                  show _ ∨ _
                  by_cases h3 : 3 ≤ id
                  · exact .inl h3
                  · have e1 := sec12_ty hse.out (by omega)
                    rw [e1]
                    rcases H3.out with h | h
                    · omega
                    · exact .inr h
                have hq3 := HD4.out.dc.rd.le
                clear HD3 hrr c0 hse
                go_wp2_with fail
                refine HD4.out.leaveStep HS (by omega) (by omega) (fun c a w4 hX hK ⟨ty, hB⟩ => door_err hX HD4.out hK hB rfl rfl rfl) ?_
                clear HS
                intro w5 hqf HS HD5
                have hpos5 : Hid (posOf w5 b = q3) := posOf_rd HD5.out.dc.rd
                have hq13 : Hid (q < q3) := by
                  show _ < _
                  have := hqf.out
                  omega
                clear HD4
                go_wp2
                go_light
                refine ⟨⟨id, q3, ty2, M2, rfl, by omega, HD5.out, HT.out, ?_⟩, ?_⟩
                · show _ = _
                  rw [HS.out, secsL_same s (s.size - q) (s.size - q3 + 1) id q3 M2 ty2 (by have := hq13.out; omega) (by omega)]
                · rw [hpos5.out, hpos.out]
                  have := hq13.out
                  omega
          · have hqe : q = s.size := by omega
            rw [secsL, if_neg hq] at HS
            have HS2 : Hid (X = if ty.length = M.funcs.length then .ok M else .error (12, s.size)) := HS
            clear HS
            obtain ⟨fa, hfa⟩ := HD.out.dc.md.funcsCell
            have hn8 := HD.out.dc.bt.tyN
            have c0 := HD.out.c0
            obtain ⟨hn8, hn88⟩ := hn8
            obtain ⟨z1, hz1⟩ := HD.out.c1
            obtain ⟨z2, hz2⟩ := HD.out.c2
            have f0 := HD.out.f0
            have f1 := HD.out.f1
            have f2 := HD.out.f2
            by_cases hc : ty.length = M.funcs.length
            · rw [if_pos hc] at HS2
              have hcb : ((ty.length : Int) != (M.funcs.length : Int)) = false := by simp [hc]
              clear hc
              go_wp2
              go_region
              all_goals
                go_wp2
                go_light
                have hlt := HD.out.lt
                refine door_ok HS2.out HD.out ((((Kp.refl _ _).setCell (p := ⟨n, 0, none⟩) (.inl (.inl rfl)) _).setCell (p := ⟨n + 1, 0, none⟩) (.inl (.inr (.inl rfl))) _).setCell (p := ⟨n + 2, 0, none⟩) (.inl (.inr (.inr rfl))) _).drew ?_ ?_ ?_ rfl rfl rfl
                all_goals simp [go_sem, c0, hz1, hz2]
            · rw [if_neg hc] at HS2
              have hcb : ((ty.length : Int) != (M.funcs.length : Int)) = true := by rw [bne_iff_ne]; omega
              go_wp2
              go_region
              all_goals
                go_wp2
                go_light
                exact door_err HS2.out HD.out (Kp.refl _ _).drew (HD.out.dc.bt.keep (S := fun _ => False) (Kp.refl _ _).drew (fun h => h) (fun h => h) (fun h => h)) rfl rfl rfl
      · rw [if_neg hm] at HS
        have hmb : ((s.extract 0 8).toList == [0, 97, 115, 109, 1, 0, 0, 0]) = false := by simpa using hm
        go_enter_defers Tryz.func22, Tryz.ntmps22
        go_wp2
        go_light
        refine ⟨.tuple #[.pointer none, .int .i64 0, .int .i64 2], by simp [results, Tryz.results22, go_sem], ?_⟩
        exact DP.mkErr HS.out ((((Kp.refl _ w).alloc _).alloc _).alloc _) (HB.out.keep (S := fun _ => False) ((((Kp.refl _ w).alloc _).alloc _).alloc _) (fun h => h) (fun h => h) (fun h => h)) rfl
end
end Go.Proofs.Qxb6500275aGreatDoor
