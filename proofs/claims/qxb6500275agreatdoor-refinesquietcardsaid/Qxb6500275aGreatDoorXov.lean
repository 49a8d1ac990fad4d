import Derived.Test.Qxb6500275aGreatDoorXot
import Derived.Test.Qxb6500275aGreatDoorXgt
set_option maxRecDepth 100000
set_option linter.unusedVariables false
set_option linter.unusedSimpArgs false
namespace Go.Proofs.Qxb6500275aGreatDoor
open Go Go.RowKit
section
variable {w0 w u : World} {N0 N : EN} {q : MQ} {g cap : Nat} {q0 q1 : List (MF × FT3)} {x b : MF × FT3}
set_option maxHeartbeats 16000000 in
theorem st_deed (h : Ew w0 N0 w N q g cap (q1 ++ [b]) x) (hM : ModOk N.m.mod) (hB : FB x.1) {k : Nat} (hfk : x.1.f = (k : Int)) (hn : q1.length ≤ 8) {y : Fn × Value × Value} (hyk : N.m.fs[k]? = some y) (hpc : x.1.pc < y.1.body.length) {X Y : Int} {op : Nat} (hi : opAt y.1 x.1.pc = ⟨op, X, Y⟩) (ho : op ≠ 2 ∧ op ≠ 3 ∧ op ≠ 5 ∧ op ≠ 11) {fu : Nat} (hfu : q.fuel = fu + 1) (hf63 : q.fuel < 9223372036854775808) (hop : ∀ l, l ∈ x.1.labs → l.1 < y.1.body.length) (hS : SmOk q.S) (hH : HmOk q.H) (hbd : q.H.bd.length = N.m.mod.imports.length) (hgl : q.S.gl.length = N.m.mod.globals.length) (htab : ∀ x, x ∈ q.S.tab → x < ((N.m.mod.imports.length + N.m.mod.funcs.length : Nat) : Int)) {e : Nat} {q' : MQ} (hr : deedM numI N.m.mod y.1 { q.top { x.1 with pc := x.1.pc + 1 } with fuel := fu } ⟨op, X, Y⟩ = some (e, q')) :
    Calls Tryz.prog 199 #[.pointer (some ⟨N.xb, 0, none⟩)] w (Ez w0 N0 (e : Int) q') := by
  obtain ⟨n, hnn⟩ : ∃ n, q1.length + 1 = n := ⟨_, rfl⟩
  have HNN : Hid ((q1 ++ [b]).length = n) := by show _ = _; rw [← hnn]; simp
  have hn10 : n ≤ 10 := by omega
  obtain ⟨p, hp⟩ : ∃ p, x.1.pc = p := ⟨_, rfl⟩
  rw [hp] at hpc hi
  have HP : Hid (x.1.pc = p) := hp
  have hFn := hM.funcs y.1 (by unfold MT.mod; exact List.mem_map.2 ⟨y, List.mem_of_getElem? hyk, rfl⟩)
  obtain ⟨nb, hnb⟩ : ∃ n, y.1.body.length = n := ⟨_, rfl⟩
  have hnb96 : nb ≤ 96 := hnb ▸ hFn.nb.2
  have hat : y.1.body[p]? = some ⟨op, X, Y⟩ := by rw [← hi]; exact opAt_get hpc
  have HYK : Hid _ := hyk
  have HFK : Hid (x.1.f = (k : Int)) := hfk
  have HNB : Hid (y.1.body.length = nb) := hnb
  have hpn : p < nb := by omega
  have HW : Hid (Ew w0 N0 w N q g cap (q1 ++ [b]) x) := h
  have HM : Hid (ModOk N.m.mod) := hM
  have HB : Hid _ := hB
  have HOP : Hid (∀ i, i ∈ y.1.body → i.op < 256) := fun i hi => by have := (hFn.body i hi).op; unfold opOk at this; omega
  have hmi : ((n + 1 : Nat) : Int) - 1 = (n : Int) := by omega
  have hpi : (p : Int) < (nb : Int) := by omega
  have hok := hFn.body _ (List.mem_of_getElem? hat)
  have hX := hok.x
  have hY := hok.y
  unfold u32R at hX
  unfold u64R at hY
  dsimp only at hX hY
  have HOK : Hid _ := hok
  have hop2 : op < 256 := by have := HOK.out.op; unfold opOk at this; dsimp only at this; omega
  obtain ⟨FF, hFF⟩ : ∃ F, q.fuel = F := ⟨_, rfl⟩
  have HFU : Hid (q.fuel = FF) := hFF
  rw [hp] at hr
  have hB9 : FB { x.1 with pc := p + 1 } := ⟨by dsimp only; omega, hB.loc, hB.ops, hB.labs, hB.ok, hB.fl, hB.lab, hB.f⟩
  have HDEED : Hid (∀ W, Ew w0 N0 W { N with fs := q1 ++ [b] ++ [({ x.1 with pc := p + 1 }, x.2)] } ({ q with fuel := fu }.top { x.1 with pc := p + 1 }) g cap (q1 ++ [b]) ({ x.1 with pc := p + 1 }, x.2) → Calls Tryz.prog 261 #[.pointer (some ⟨N.xb, 0, none⟩), .pointer (some ⟨g, n * 5, none⟩), y.2.1, .agg #[.int .u8 (op : Int), .int .u32 X, .int .u64 Y]] W (Ez w0 N0 (e : Int) q')) := fun W hW => by
    have := deed_w hW hM hB9 (k := k) hfk hn hyk ⟨by dsimp only; omega, by dsimp only; omega⟩ hop hB.labs hS hH hbd hgl htab hok hr
    rw [hnn] at this
    exact this
  have hfi : (FF : Int) - 1 = (fu : Int) := by omega
  have hfz : ((FF : Int) == 0) = false := by rw [beq_eq_false_iff_ne]; omega
  have hfi2 : FF ≤ 9223372036854775807 := by omega
  have t2 : ((op : Int) == 2) = false := by rw [beq_eq_false_iff_ne]; omega
  have t3 : ((op : Int) == 3) = false := by rw [beq_eq_false_iff_ne]; omega
  have t5 : ((op : Int) == 5) = false := by rw [beq_eq_false_iff_ne]; omega
  have t11 : ((op : Int) == 11) = false := by rw [beq_eq_false_iff_ne]; omega
  obtain ⟨x0, x1, x2, x3, x4, y3, y4, f0, f1, f2, f3, f4, fz, ap, fcp⟩ := h.cells HNN.out
  rw [hfk] at f0
  obtain ⟨fg, fcap, fv, g1, g2, g3, fc⟩ := h.mk_.atFn hyk
  have m2 := h.mk_.c2
  obtain ⟨nf, hnf⟩ : ∃ n, N.m.fs.length = n := ⟨_, rfl⟩
  have hkn : k < nf := by rw [← hnf]; exact (List.getElem?_eq_some_iff.1 hyk).1
  rw [fv, hnf] at m2
  have z2 := fc 2 y.2.1 rfl
  obtain ⟨kb, kc, hkv, k1, k2, k3, k4, k5⟩ := (h.mk_.body (List.mem_of_getElem? hyk)).1.ptr (by omega)
  rw [hkv, hnb] at z2
  have HKV : Hid (y.2.1 = .slice (some ⟨kb, 0, none⟩) nb kc) := by show _ = _; rw [hkv, hnb]
  have hki : (k : Int) < (nf : Int) := by omega
  have hgf : nf ≤ fcap := by rw [← hnf]; exact g2
  have hkc : nb ≤ kc := by rw [← hnb]; exact k2
  have HIC : Hid (∀ U, Kp (fun _ => False) w U → U.cell? ⟨kb, p * 3, none⟩ = some (.int .u8 (op : Int)) ∧ U.cell? ⟨kb, p * 3 + 1, none⟩ = some (.int .u32 X) ∧ U.cell? ⟨kb, p * 3 + 2, none⟩ = some (.int .u64 Y)) := fun U hU => by
    have hic := insC_at hat
    have e0 := k4 _ _ hic.1
    have e1 := k4 _ _ hic.2.1
    have e2 := k4 _ _ hic.2.2
    exact ⟨(hU.cell (p := ⟨kb, p * 3, none⟩) (lt_of_cell e0) (fun h => h)).trans e0, (hU.cell (p := ⟨kb, p * 3 + 1, none⟩) (lt_of_cell e1) (fun h => h)).trans e1, (hU.cell (p := ⟨kb, p * 3 + 2, none⟩) (lt_of_cell e2) (fun h => h)).trans e2⟩
  clear h hM hB hfk hyk hpc hi hp hFn hnb hat hok fc fv hnf hkv k1 k2 k3 k4 k5 g1 g2 g3 x1 x2 x4 y3 y4 f1 f2 f3 f4 fz ap ho hfu hf63 hFF hop hS hH hbd hgl htab hr hB9
  go_enter Tryz.func199, Tryz.ntmps199
  go_wp2_with fail
  go_quiet (fail)
  go_wp2_with fail
  go_quiet (fail)
  refine wp_genT ?_
  intro U hKU
  have hKU2 : Kp (fun _ => False) w U := ((Kp.refl _ _).drewM _).trans hKU
  have HE : Hid (Ew w0 N0 U N q g cap (q1 ++ [b]) x) := HW.out.quiet hKU2
  obtain ⟨e0, e1, e2⟩ := HIC.out U hKU2
  clear hKU hKU2 x0 x3 f0 m2 z2 fcp HIC HW
  obtain ⟨x0, x1, x2, x3, x4, y3, y4, f0, f1, f2, f3, f4, fz, ap, fcp⟩ := HE.out.cells HNN.out
  rw [HP.out] at f1
  rw [HFK.out] at f0
  obtain ⟨W, hW⟩ : ∃ W, U.alloc (.cells #[.int .u8 (op : Int), .int .u32 X, .int .u64 Y] 129) = W := ⟨_, rfl⟩
  have hKW : Kp (fun _ => False) U W := by rw [← hW]; exact (Kp.refl _ _).alloc _
  have HEW : Hid _ := HE.out.quiet hKW
  have hI := C3.new U (.int .u8 (op : Int)) (.int .u32 X) (.int .u64 Y) 129
  rw [hW] at hI
  have HNA : Hid (¬ N.all U.heap.size) := fun hk => Nat.lt_irrefl _ (HE.out.all_lt hk)
  have HI : Hid _ := hI
  have j0 := hI.c0
  obtain ⟨w0', w1', w2', w3', w4, w5', w6', w7', w8, w9', w10', w11', wz, w12', w13'⟩ := HEW.out.cells HNN.out
  have w6z := w6'
  rw [HFU.out] at w4
  have hap := w12'
  have fz1 := wz (n * 5 + 1)
  rw [HP.out] at w8
  clear x0 x1 x2 x3 x4 y3 y4 f0 f2 f3 f4 fz ap fcp hI hKW w0' w1' w2' w3' w5' w7' w9' w10' w11' wz w12' w13' w6'
  have hE8 := HEW.out.setFuel fu
  have hE9 := hE8.setPc HNN.out (p + 1) (z := (p : Int) + 1) (by omega)
  have hC9 := (HI.out.keep (kp_set1 (P := N.all) W (.int .i64 (fu : Int)) (g := N.xb) (i := 4) ⟨0, rfl⟩) HNA.out).keep (kp_set1 (P := N.all) _ (.int .i64 ((p : Int) + 1)) (g := g) (i := n * 5 + 1) ⟨4, .inl HEW.out.own⟩) HNA.out
  have HD := HDEED.out _ hE9
  rw [HKV.out] at HD
  have i0 := hC9.c0
  have i1 := hC9.c1
  have i2 := hC9.c2
  obtain ⟨W9, hW9⟩ : ∃ W9, (W.setCell ⟨N.xb, 4, none⟩ (.int .i64 (fu : Int))).setCell ⟨g, n * 5 + 1, none⟩ (.int .i64 ((p : Int) + 1)) = W9 := ⟨_, rfl⟩
  rw [hW9] at HD i0 i1 i2
  have HDD : Hid (Calls Tryz.prog 261 #[.pointer (some ⟨N.xb, 0, none⟩), .pointer (some ⟨g, n * 5, none⟩), .slice (some ⟨kb, 0, none⟩) nb kc, .agg #[.int .u8 (op : Int), .int .u32 X, .int .u64 Y]] W9 (Ez w0 N0 (e : Int) q')) := HD
  clear hE8 hE9 hC9 HD
  go_wp2_with fail
  refine HDD.out.mono ?_
  rintro en5 u9 ⟨rfl, HZ⟩
  go_wp2
  go_ret
  exact ⟨rfl, HZ⟩
end
end Go.Proofs.Qxb6500275aGreatDoor
