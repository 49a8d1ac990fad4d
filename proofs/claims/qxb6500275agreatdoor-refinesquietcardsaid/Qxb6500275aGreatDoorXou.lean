import Derived.Test.Qxb6500275aGreatDoorXor
import Derived.Test.Qxb6500275aGreatDoorXgt
set_option maxRecDepth 100000
set_option linter.unusedVariables false
set_option linter.unusedSimpArgs false
namespace Go.Proofs.Qxb6500275aGreatDoor
open Go Go.RowKit
section
variable {w0 w u : World} {N0 N : EN} {q : MQ} {g cap : Nat} {q0 q1 : List (MF × FT3)} {x b : MF × FT3}
set_option maxHeartbeats 16000000 in
theorem st_open2 (h : Ew w0 N0 w N q g cap (q1 ++ [b]) x) (hM : ModOk N.m.mod) (hB : FB x.1) {k : Nat} (hfk : x.1.f = (k : Int)) (hn : q1.length ≤ 8) {y : Fn × Value × Value} (hyk : N.m.fs[k]? = some y) (hpc : x.1.pc < y.1.body.length) {X Y : Int} (hi : opAt y.1 x.1.pc = ⟨2, X, Y⟩) :
    Calls Tryz.prog 199 #[.pointer (some ⟨N.xb, 0, none⟩)] w (Ez w0 N0 0 (q.top { x.1 with labs := x.1.labs ++ [(x.1.pc, x.1.ops.length)], pc := x.1.pc + 1 })) := by
  obtain ⟨n, hnn⟩ : ∃ n, q1.length + 1 = n := ⟨_, rfl⟩
  have HNN : Hid ((q1 ++ [b]).length = n) := by show _ = _; rw [← hnn]; simp
  have hn10 : n ≤ 10 := by omega
  obtain ⟨p, hp⟩ : ∃ p, x.1.pc = p := ⟨_, rfl⟩
  rw [hp] at hpc hi
  have HP : Hid (x.1.pc = p) := hp
  have hFn := hM.funcs y.1 (by unfold MT.mod; exact List.mem_map.2 ⟨y, List.mem_of_getElem? hyk, rfl⟩)
  obtain ⟨nb, hnb⟩ : ∃ n, y.1.body.length = n := ⟨_, rfl⟩
  have hnb96 : nb ≤ 96 := hnb ▸ hFn.nb.2
  have hat : y.1.body[p]? = some ⟨2, X, Y⟩ := by rw [← hi]; exact opAt_get hpc
  have HYK : Hid _ := hyk
  have HFK : Hid (x.1.f = (k : Int)) := hfk
  have HNB : Hid (y.1.body.length = nb) := hnb
  have hpn : p < nb := by omega
  have HW : Hid (Ew w0 N0 w N q g cap (q1 ++ [b]) x) := h
  have HM : Hid (ModOk N.m.mod) := hM
  have HB : Hid _ := hB
  have HOP : Hid (∀ i, i ∈ y.1.body → i.op < 256) := fun i hi => by have := (hFn.body i hi).op; unfold opOk at this; omega
  have hmi : ((n + 1 : Nat) : Int) - 1 = (n : Int) := by omega
  have hpi : (p : Int) < (nb : Int) := by omega
  have hok := hFn.body _ (List.mem_of_getElem? hat)
  have hX := hok.x
  have hY := hok.y
  unfold u32R at hX
  unfold u64R at hY
  dsimp only at hX hY
  have HOK : Hid _ := hok
  obtain ⟨x0, x1, x2, x3, x4, y3, y4, f0, f1, f2, f3, f4, fz, ap, fcp⟩ := h.cells HNN.out
  rw [hfk] at f0
  obtain ⟨fg, fcap, fv, g1, g2, g3, fc⟩ := h.mk_.atFn hyk
  have m2 := h.mk_.c2
  obtain ⟨nf, hnf⟩ : ∃ n, N.m.fs.length = n := ⟨_, rfl⟩
  have hkn : k < nf := by rw [← hnf]; exact (List.getElem?_eq_some_iff.1 hyk).1
  rw [fv, hnf] at m2
  have z2 := fc 2 y.2.1 rfl
  obtain ⟨kb, kc, hkv, k1, k2, k3, k4, k5⟩ := (h.mk_.body (List.mem_of_getElem? hyk)).1.ptr (by omega)
  rw [hkv, hnb] at z2
  have HKV : Hid (y.2.1 = .slice (some ⟨kb, 0, none⟩) nb kc) := by show _ = _; rw [hkv, hnb]
  have hki : (k : Int) < (nf : Int) := by omega
  have hgf : nf ≤ fcap := by rw [← hnf]; exact g2
  have hkc : nb ≤ kc := by rw [← hnb]; exact k2
  have HIC : Hid (∀ U, Kp (fun _ => False) w U → U.cell? ⟨kb, p * 3, none⟩ = some (.int .u8 2) ∧ U.cell? ⟨kb, p * 3 + 1, none⟩ = some (.int .u32 X) ∧ U.cell? ⟨kb, p * 3 + 2, none⟩ = some (.int .u64 Y)) := fun U hU => by
    have hic := insC_at hat
    have e0 := k4 _ _ hic.1
    have e1 := k4 _ _ hic.2.1
    have e2 := k4 _ _ hic.2.2
    exact ⟨(hU.cell (p := ⟨kb, p * 3, none⟩) (lt_of_cell e0) (fun h => h)).trans e0, (hU.cell (p := ⟨kb, p * 3 + 1, none⟩) (lt_of_cell e1) (fun h => h)).trans e1, (hU.cell (p := ⟨kb, p * 3 + 2, none⟩) (lt_of_cell e2) (fun h => h)).trans e2⟩
  clear h hM hB hfk hyk hpc hi hp hFn hnb hat hok fc fv hnf hkv k1 k2 k3 k4 k5 g1 g2 g3 x1 x2 x4 y3 y4 f1 f2 f3 f4 fz ap 
  go_enter Tryz.func199, Tryz.ntmps199
  go_wp2_with fail
  go_quiet (fail)
  go_wp2_with fail
  go_quiet (fail)
  refine wp_genT ?_
  intro U hKU
  have hKU2 : Kp (fun _ => False) w U := ((Kp.refl _ _).drewM _).trans hKU
  have HE : Hid (Ew w0 N0 U N q g cap (q1 ++ [b]) x) := HW.out.quiet hKU2
  obtain ⟨e0, e1, e2⟩ := HIC.out U hKU2
  clear hKU hKU2 x0 x3 f0 m2 z2 fcp HIC HW
  obtain ⟨x0, x1, x2, x3, x4, y3, y4, f0, f1, f2, f3, f4, fz, ap, fcp⟩ := HE.out.cells HNN.out
  rw [HP.out] at f1
  rw [HFK.out] at f0
  obtain ⟨W, hW⟩ : ∃ W, U.alloc (.cells #[.int .u8 2, .int .u32 X, .int .u64 Y] 129) = W := ⟨_, rfl⟩
  have hKW : Kp (fun _ => False) U W := by rw [← hW]; exact (Kp.refl _ _).alloc _
  have HEW : Hid _ := HE.out.quiet hKW
  obtain ⟨no, hno⟩ : ∃ n, x.1.ops.length = n := ⟨_, rfl⟩
  have hno10 : no ≤ 10 := hno ▸ HB.out.ops
  have HNO : Hid (x.1.ops.length = no) := hno
  have HRL : Hid (x.1.labs.length ≤ 1000) := by show _ ≤ _; have := HB.out.labs; omega
  clear x0 x1 x2 x3 x4 y3 y4 f0 f2 f3 f4 fz ap fcp
  have hI := C3.new U (.int .u8 2) (.int .u32 X) (.int .u64 Y) 129
  rw [hW] at hI
  have j0 := hI.c0
  obtain ⟨v', w6, rr1, ⟨rr2, rr3⟩, ⟨va, vn, vc, hvo⟩, hE7, hG7⟩ := HEW.out.pushL HNN.out HRL.out p no
  subst hvo
  obtain ⟨x0, x1, x2, x3, x4, y3, y4, f0, f1', f2, f3, f4, fz, ap, fcp⟩ := HEW.out.cells HNN.out
  rw [HP.out] at f1'
  obtain ⟨ba, bc, hbv⟩ := HEW.out.frm.b.slice
  obtain ⟨oa, oc, hov⟩ := HEW.out.frm.o.slice
  rw [hov, hno] at f3
  rw [hbv] at f4 rr1 rr2
  obtain ⟨nl, hnl⟩ : ∃ n, x.1.labs.length = n := ⟨_, rfl⟩
  rw [hnl] at f4 rr1 rr2
  have hgl : g < W.heap.size := lt_of_cell f1'
  obtain ⟨V, hV⟩ : ∃ V, W.drew.alloc (.cells #[.int .i64 (p : Int), .int .i64 (no : Int)] 347) = V := ⟨_, rfl⟩
  have hKV : Kp (fun _ => False) W V := by rw [← hV]; exact ((Kp.refl _ _).drew).alloc _
  have c1 : V.cell? ⟨g, n * 5 + 1, none⟩ = some (.int .i64 (p : Int)) := by rw [hKV.cell (p := ⟨g, n * 5 + 1, none⟩) hgl (fun h => h)]; exact f1'
  have c3 : V.cell? ⟨g, n * 5 + 3, none⟩ = some (.slice oa no oc) := by rw [hKV.cell (p := ⟨g, n * 5 + 3, none⟩) hgl (fun h => h)]; exact f3
  have c4 : V.cell? ⟨g, n * 5 + 4, none⟩ = some (.slice ba nl bc) := by rw [hKV.cell (p := ⟨g, n * 5 + 4, none⟩) hgl (fun h => h)]; exact f4
  have hVV : (W.alloc (.cells #[.int .i64 (p : Int), .int .i64 (no : Int)] 347)).drew = V := by rw [← hV]; rfl
  rw [hV] at rr1
  have HR1 : Hid _ := rr1
  have HE7 : Hid _ := hE7
  clear x0 x1 x2 x3 x4 y3 y4 f0 f2 fz ap fcp hE7 hG7 hKV rr1 hnl hbv hov hV HRL hno hI hKW
  go_wp2_with fail
  try rw [hW]
  clear hW e0 e1 e2 f1 j0
  apply region_one
  case walk =>
    go_region_law (refine step_apq rfl _ _ 299 rfl HR1.out ?_)
    all_goals exact ⟨rfl, rfl⟩
  case key =>
    skip
    obtain ⟨w7, hw7⟩ : ∃ w7, w6.setCell ⟨g, n * 5 + 4, none⟩ (.slice va vn vc) = w7 := ⟨_, rfl⟩
    rw [hw7] at HE7 ⊢
    clear hw7 HR1 rr2 rr3 f3 f4 c1 c3 c4 hVV hgl
    obtain ⟨x0, x1, x2, x3, x4, y3, y4, f0, f1, f2, f3, f4, fz, ap, fcp⟩ := HE7.out.cells HNN.out
    try dsimp only at f1
    rw [HP.out] at f1
    have fz1 := fz (n * 5 + 1)
    have HE8 : Hid _ := HE7.out.setPc HNN.out (p + 1) (z := (p : Int) + 1) (by omega)
    clear x0 x1 x2 x3 x4 y3 y4 f0 f2 f3 f4 fz ap fcp HE7 f1'
    go_wp2
    go_ret
    refine ⟨rfl, ?_⟩
    rw [HP.out, HNO.out]
    exact ⟨_, HE8.out.end_⟩
set_option maxHeartbeats 16000000 in
theorem st_open3 (h : Ew w0 N0 w N q g cap (q1 ++ [b]) x) (hM : ModOk N.m.mod) (hB : FB x.1) {k : Nat} (hfk : x.1.f = (k : Int)) (hn : q1.length ≤ 8) {y : Fn × Value × Value} (hyk : N.m.fs[k]? = some y) (hpc : x.1.pc < y.1.body.length) {X Y : Int} (hi : opAt y.1 x.1.pc = ⟨3, X, Y⟩) :
    Calls Tryz.prog 199 #[.pointer (some ⟨N.xb, 0, none⟩)] w (Ez w0 N0 0 (q.top { x.1 with labs := x.1.labs ++ [(x.1.pc, x.1.ops.length)], pc := x.1.pc + 1 })) := by
  obtain ⟨n, hnn⟩ : ∃ n, q1.length + 1 = n := ⟨_, rfl⟩
  have HNN : Hid ((q1 ++ [b]).length = n) := by show _ = _; rw [← hnn]; simp
  have hn10 : n ≤ 10 := by omega
  obtain ⟨p, hp⟩ : ∃ p, x.1.pc = p := ⟨_, rfl⟩
  rw [hp] at hpc hi
  have HP : Hid (x.1.pc = p) := hp
  have hFn := hM.funcs y.1 (by unfold MT.mod; exact List.mem_map.2 ⟨y, List.mem_of_getElem? hyk, rfl⟩)
  obtain ⟨nb, hnb⟩ : ∃ n, y.1.body.length = n := ⟨_, rfl⟩
  have hnb96 : nb ≤ 96 := hnb ▸ hFn.nb.2
  have hat : y.1.body[p]? = some ⟨3, X, Y⟩ := by rw [← hi]; exact opAt_get hpc
  have HYK : Hid _ := hyk
  have HFK : Hid (x.1.f = (k : Int)) := hfk
  have HNB : Hid (y.1.body.length = nb) := hnb
  have hpn : p < nb := by omega
  have HW : Hid (Ew w0 N0 w N q g cap (q1 ++ [b]) x) := h
  have HM : Hid (ModOk N.m.mod) := hM
  have HB : Hid _ := hB
  have HOP : Hid (∀ i, i ∈ y.1.body → i.op < 256) := fun i hi => by have := (hFn.body i hi).op; unfold opOk at this; omega
  have hmi : ((n + 1 : Nat) : Int) - 1 = (n : Int) := by omega
  have hpi : (p : Int) < (nb : Int) := by omega
  have hok := hFn.body _ (List.mem_of_getElem? hat)
  have hX := hok.x
  have hY := hok.y
  unfold u32R at hX
  unfold u64R at hY
  dsimp only at hX hY
  have HOK : Hid _ := hok
  obtain ⟨x0, x1, x2, x3, x4, y3, y4, f0, f1, f2, f3, f4, fz, ap, fcp⟩ := h.cells HNN.out
  rw [hfk] at f0
  obtain ⟨fg, fcap, fv, g1, g2, g3, fc⟩ := h.mk_.atFn hyk
  have m2 := h.mk_.c2
  obtain ⟨nf, hnf⟩ : ∃ n, N.m.fs.length = n := ⟨_, rfl⟩
  have hkn : k < nf := by rw [← hnf]; exact (List.getElem?_eq_some_iff.1 hyk).1
  rw [fv, hnf] at m2
  have z2 := fc 2 y.2.1 rfl
  obtain ⟨kb, kc, hkv, k1, k2, k3, k4, k5⟩ := (h.mk_.body (List.mem_of_getElem? hyk)).1.ptr (by omega)
  rw [hkv, hnb] at z2
  have HKV : Hid (y.2.1 = .slice (some ⟨kb, 0, none⟩) nb kc) := by show _ = _; rw [hkv, hnb]
  have hki : (k : Int) < (nf : Int) := by omega
  have hgf : nf ≤ fcap := by rw [← hnf]; exact g2
  have hkc : nb ≤ kc := by rw [← hnb]; exact k2
  have HIC : Hid (∀ U, Kp (fun _ => False) w U → U.cell? ⟨kb, p * 3, none⟩ = some (.int .u8 3) ∧ U.cell? ⟨kb, p * 3 + 1, none⟩ = some (.int .u32 X) ∧ U.cell? ⟨kb, p * 3 + 2, none⟩ = some (.int .u64 Y)) := fun U hU => by
    have hic := insC_at hat
    have e0 := k4 _ _ hic.1
    have e1 := k4 _ _ hic.2.1
    have e2 := k4 _ _ hic.2.2
    exact ⟨(hU.cell (p := ⟨kb, p * 3, none⟩) (lt_of_cell e0) (fun h => h)).trans e0, (hU.cell (p := ⟨kb, p * 3 + 1, none⟩) (lt_of_cell e1) (fun h => h)).trans e1, (hU.cell (p := ⟨kb, p * 3 + 2, none⟩) (lt_of_cell e2) (fun h => h)).trans e2⟩
  clear h hM hB hfk hyk hpc hi hp hFn hnb hat hok fc fv hnf hkv k1 k2 k3 k4 k5 g1 g2 g3 x1 x2 x4 y3 y4 f1 f2 f3 f4 fz ap 
  go_enter Tryz.func199, Tryz.ntmps199
  go_wp2_with fail
  go_quiet (fail)
  go_wp2_with fail
  go_quiet (fail)
  refine wp_genT ?_
  intro U hKU
  have hKU2 : Kp (fun _ => False) w U := ((Kp.refl _ _).drewM _).trans hKU
  have HE : Hid (Ew w0 N0 U N q g cap (q1 ++ [b]) x) := HW.out.quiet hKU2
  obtain ⟨e0, e1, e2⟩ := HIC.out U hKU2
  clear hKU hKU2 x0 x3 f0 m2 z2 fcp HIC HW
  obtain ⟨x0, x1, x2, x3, x4, y3, y4, f0, f1, f2, f3, f4, fz, ap, fcp⟩ := HE.out.cells HNN.out
  rw [HP.out] at f1
  rw [HFK.out] at f0
  obtain ⟨W, hW⟩ : ∃ W, U.alloc (.cells #[.int .u8 3, .int .u32 X, .int .u64 Y] 129) = W := ⟨_, rfl⟩
  have hKW : Kp (fun _ => False) U W := by rw [← hW]; exact (Kp.refl _ _).alloc _
  have HEW : Hid _ := HE.out.quiet hKW
  obtain ⟨no, hno⟩ : ∃ n, x.1.ops.length = n := ⟨_, rfl⟩
  have hno10 : no ≤ 10 := hno ▸ HB.out.ops
  have HNO : Hid (x.1.ops.length = no) := hno
  have HRL : Hid (x.1.labs.length ≤ 1000) := by show _ ≤ _; have := HB.out.labs; omega
  clear x0 x1 x2 x3 x4 y3 y4 f0 f2 f3 f4 fz ap fcp
  have hI := C3.new U (.int .u8 3) (.int .u32 X) (.int .u64 Y) 129
  rw [hW] at hI
  have j0 := hI.c0
  obtain ⟨v', w6, rr1, ⟨rr2, rr3⟩, ⟨va, vn, vc, hvo⟩, hE7, hG7⟩ := HEW.out.pushL HNN.out HRL.out p no
  subst hvo
  obtain ⟨x0, x1, x2, x3, x4, y3, y4, f0, f1', f2, f3, f4, fz, ap, fcp⟩ := HEW.out.cells HNN.out
  rw [HP.out] at f1'
  obtain ⟨ba, bc, hbv⟩ := HEW.out.frm.b.slice
  obtain ⟨oa, oc, hov⟩ := HEW.out.frm.o.slice
  rw [hov, hno] at f3
  rw [hbv] at f4 rr1 rr2
  obtain ⟨nl, hnl⟩ : ∃ n, x.1.labs.length = n := ⟨_, rfl⟩
  rw [hnl] at f4 rr1 rr2
  have hgl : g < W.heap.size := lt_of_cell f1'
  obtain ⟨V, hV⟩ : ∃ V, W.drew.alloc (.cells #[.int .i64 (p : Int), .int .i64 (no : Int)] 347) = V := ⟨_, rfl⟩
  have hKV : Kp (fun _ => False) W V := by rw [← hV]; exact ((Kp.refl _ _).drew).alloc _
  have c1 : V.cell? ⟨g, n * 5 + 1, none⟩ = some (.int .i64 (p : Int)) := by rw [hKV.cell (p := ⟨g, n * 5 + 1, none⟩) hgl (fun h => h)]; exact f1'
  have c3 : V.cell? ⟨g, n * 5 + 3, none⟩ = some (.slice oa no oc) := by rw [hKV.cell (p := ⟨g, n * 5 + 3, none⟩) hgl (fun h => h)]; exact f3
  have c4 : V.cell? ⟨g, n * 5 + 4, none⟩ = some (.slice ba nl bc) := by rw [hKV.cell (p := ⟨g, n * 5 + 4, none⟩) hgl (fun h => h)]; exact f4
  have hVV : (W.alloc (.cells #[.int .i64 (p : Int), .int .i64 (no : Int)] 347)).drew = V := by rw [← hV]; rfl
  rw [hV] at rr1
  have HR1 : Hid _ := rr1
  have HE7 : Hid _ := hE7
  clear x0 x1 x2 x3 x4 y3 y4 f0 f2 fz ap fcp hE7 hG7 hKV rr1 hnl hbv hov hV HRL hno hI hKW
  go_wp2_with fail
  try rw [hW]
  clear hW e0 e1 e2 f1 j0
  apply region_one
  case walk =>
    go_region_law (refine step_apq rfl _ _ 299 rfl HR1.out ?_)
    all_goals exact ⟨rfl, rfl⟩
  case key =>
    skip
    obtain ⟨w7, hw7⟩ : ∃ w7, w6.setCell ⟨g, n * 5 + 4, none⟩ (.slice va vn vc) = w7 := ⟨_, rfl⟩
    rw [hw7] at HE7 ⊢
    clear hw7 HR1 rr2 rr3 f3 f4 c1 c3 c4 hVV hgl
    obtain ⟨x0, x1, x2, x3, x4, y3, y4, f0, f1, f2, f3, f4, fz, ap, fcp⟩ := HE7.out.cells HNN.out
    try dsimp only at f1
    rw [HP.out] at f1
    have fz1 := fz (n * 5 + 1)
    have HE8 : Hid _ := HE7.out.setPc HNN.out (p + 1) (z := (p : Int) + 1) (by omega)
    clear x0 x1 x2 x3 x4 y3 y4 f0 f2 f3 f4 fz ap fcp HE7 f1'
    go_wp2
    go_ret
    refine ⟨rfl, ?_⟩
    rw [HP.out, HNO.out]
    exact ⟨_, HE8.out.end_⟩
set_option maxHeartbeats 16000000 in
theorem st_dry (h : Ew w0 N0 w N q g cap (q1 ++ [b]) x) (hM : ModOk N.m.mod) (hB : FB x.1) {k : Nat} (hfk : x.1.f = (k : Int)) (hn : q1.length ≤ 8) {y : Fn × Value × Value} (hyk : N.m.fs[k]? = some y) (hpc : x.1.pc < y.1.body.length) {X Y : Int} {op : Nat} (hi : opAt y.1 x.1.pc = ⟨op, X, Y⟩) (ho : op ≠ 2 ∧ op ≠ 3 ∧ op ≠ 5 ∧ op ≠ 11) (hfu : q.fuel = 0) :
    Calls Tryz.prog 199 #[.pointer (some ⟨N.xb, 0, none⟩)] w (Ez w0 N0 46 q) := by
  obtain ⟨n, hnn⟩ : ∃ n, q1.length + 1 = n := ⟨_, rfl⟩
  have HNN : Hid ((q1 ++ [b]).length = n) := by show _ = _; rw [← hnn]; simp
  have hn10 : n ≤ 10 := by omega
  obtain ⟨p, hp⟩ : ∃ p, x.1.pc = p := ⟨_, rfl⟩
  rw [hp] at hpc hi
  have HP : Hid (x.1.pc = p) := hp
  have hFn := hM.funcs y.1 (by unfold MT.mod; exact List.mem_map.2 ⟨y, List.mem_of_getElem? hyk, rfl⟩)
  obtain ⟨nb, hnb⟩ : ∃ n, y.1.body.length = n := ⟨_, rfl⟩
  have hnb96 : nb ≤ 96 := hnb ▸ hFn.nb.2
  have hat : y.1.body[p]? = some ⟨op, X, Y⟩ := by rw [← hi]; exact opAt_get hpc
  have HYK : Hid _ := hyk
  have HFK : Hid (x.1.f = (k : Int)) := hfk
  have HNB : Hid (y.1.body.length = nb) := hnb
  have hpn : p < nb := by omega
  have HW : Hid (Ew w0 N0 w N q g cap (q1 ++ [b]) x) := h
  have HM : Hid (ModOk N.m.mod) := hM
  have HB : Hid _ := hB
  have HOP : Hid (∀ i, i ∈ y.1.body → i.op < 256) := fun i hi => by have := (hFn.body i hi).op; unfold opOk at this; omega
  have hmi : ((n + 1 : Nat) : Int) - 1 = (n : Int) := by omega
  have hpi : (p : Int) < (nb : Int) := by omega
  have hok := hFn.body _ (List.mem_of_getElem? hat)
  have hX := hok.x
  have hY := hok.y
  unfold u32R at hX
  unfold u64R at hY
  dsimp only at hX hY
  have HOK : Hid _ := hok
  have hop : op < 256 := by have := HOK.out.op; unfold opOk at this; dsimp only at this; omega
  have HFU : Hid (q.fuel = 0) := hfu
  have t2 : ((op : Int) == 2) = false := by rw [beq_eq_false_iff_ne]; omega
  have t3 : ((op : Int) == 3) = false := by rw [beq_eq_false_iff_ne]; omega
  have t5 : ((op : Int) == 5) = false := by rw [beq_eq_false_iff_ne]; omega
  have t11 : ((op : Int) == 11) = false := by rw [beq_eq_false_iff_ne]; omega
  obtain ⟨x0, x1, x2, x3, x4, y3, y4, f0, f1, f2, f3, f4, fz, ap, fcp⟩ := h.cells HNN.out
  rw [hfk] at f0
  obtain ⟨fg, fcap, fv, g1, g2, g3, fc⟩ := h.mk_.atFn hyk
  have m2 := h.mk_.c2
  obtain ⟨nf, hnf⟩ : ∃ n, N.m.fs.length = n := ⟨_, rfl⟩
  have hkn : k < nf := by rw [← hnf]; exact (List.getElem?_eq_some_iff.1 hyk).1
  rw [fv, hnf] at m2
  have z2 := fc 2 y.2.1 rfl
  obtain ⟨kb, kc, hkv, k1, k2, k3, k4, k5⟩ := (h.mk_.body (List.mem_of_getElem? hyk)).1.ptr (by omega)
  rw [hkv, hnb] at z2
  have HKV : Hid (y.2.1 = .slice (some ⟨kb, 0, none⟩) nb kc) := by show _ = _; rw [hkv, hnb]
  have hki : (k : Int) < (nf : Int) := by omega
  have hgf : nf ≤ fcap := by rw [← hnf]; exact g2
  have hkc : nb ≤ kc := by rw [← hnb]; exact k2
  have HIC : Hid (∀ U, Kp (fun _ => False) w U → U.cell? ⟨kb, p * 3, none⟩ = some (.int .u8 (op : Int)) ∧ U.cell? ⟨kb, p * 3 + 1, none⟩ = some (.int .u32 X) ∧ U.cell? ⟨kb, p * 3 + 2, none⟩ = some (.int .u64 Y)) := fun U hU => by
    have hic := insC_at hat
    have e0 := k4 _ _ hic.1
    have e1 := k4 _ _ hic.2.1
    have e2 := k4 _ _ hic.2.2
    exact ⟨(hU.cell (p := ⟨kb, p * 3, none⟩) (lt_of_cell e0) (fun h => h)).trans e0, (hU.cell (p := ⟨kb, p * 3 + 1, none⟩) (lt_of_cell e1) (fun h => h)).trans e1, (hU.cell (p := ⟨kb, p * 3 + 2, none⟩) (lt_of_cell e2) (fun h => h)).trans e2⟩
  clear h hM hB hfk hyk hpc hi hp hFn hnb hat hok fc fv hnf hkv k1 k2 k3 k4 k5 g1 g2 g3 x1 x2 x4 y3 y4 f1 f2 f3 f4 fz ap ho hfu
  go_enter Tryz.func199, Tryz.ntmps199
  go_wp2_with fail
  go_quiet (fail)
  go_wp2_with fail
  go_quiet (fail)
  refine wp_genT ?_
  intro U hKU
  have hKU2 : Kp (fun _ => False) w U := ((Kp.refl _ _).drewM _).trans hKU
  have HE : Hid (Ew w0 N0 U N q g cap (q1 ++ [b]) x) := HW.out.quiet hKU2
  obtain ⟨e0, e1, e2⟩ := HIC.out U hKU2
  clear hKU hKU2 x0 x3 f0 m2 z2 fcp HIC HW
  obtain ⟨x0, x1, x2, x3, x4, y3, y4, f0, f1, f2, f3, f4, fz, ap, fcp⟩ := HE.out.cells HNN.out
  rw [HP.out] at f1
  rw [HFK.out] at f0
  obtain ⟨W, hW⟩ : ∃ W, U.alloc (.cells #[.int .u8 (op : Int), .int .u32 X, .int .u64 Y] 129) = W := ⟨_, rfl⟩
  have hKW : Kp (fun _ => False) U W := by rw [← hW]; exact (Kp.refl _ _).alloc _
  have HEW : Hid _ := HE.out.quiet hKW
  have hI := C3.new U (.int .u8 (op : Int)) (.int .u32 X) (.int .u64 Y) 129
  rw [hW] at hI
  have j0 := hI.c0
  have w4 := (HEW.out.cells HNN.out).x4
  rw [HFU.out] at w4
  clear x0 x1 x2 x3 x4 y3 y4 f0 f2 f3 f4 fz ap fcp hI hKW
  go_wp2
  go_ret
  exact ⟨rfl, _, HEW.out.end_⟩
end
end Go.Proofs.Qxb6500275aGreatDoor
