import Derived.Test.Qxb6500275aGreatDoorXor
import Derived.Test.Qxb6500275aGreatDoorXgt
set_option maxRecDepth 100000
set_option linter.unusedVariables false
set_option linter.unusedSimpArgs false
namespace Go.Proofs.Qxb6500275aGreatDoor
open Go Go.RowKit
section
variable {w0 w u : World} {N0 N : EN} {q : MQ} {g cap : Nat} {q0 q1 : List (MF × FT3)} {x b : MF × FT3}
set_option maxHeartbeats 16000000 in
theorem st_end0 (h : Ew w0 N0 w N q g cap (q1 ++ [b]) x) (hM : ModOk N.m.mod) (hB : FB x.1) {k : Nat} (hfk : x.1.f = (k : Int)) (hn : q1.length ≤ 8) {y : Fn × Value × Value} (hyk : N.m.fs[k]? = some y) (hpc : x.1.pc < y.1.body.length) {X Y : Int} (hi : opAt y.1 x.1.pc = ⟨11, X, Y⟩) (hl0 : x.1.labs = []) {t : Ty} (hto : N.m.mod.typeOf ((N.m.mod.imports.length : Int) + x.1.f) = some t) (hlen : x.1.ops.length = t.q.size) {q' : MQ} (hr : retM N.m.mod q = some (0, q')) :
    Calls Tryz.prog 199 #[.pointer (some ⟨N.xb, 0, none⟩)] w (Ez w0 N0 0 q') := by
  obtain ⟨n, hnn⟩ : ∃ n, q1.length + 1 = n := ⟨_, rfl⟩
  have HNN : Hid ((q1 ++ [b]).length = n) := by show _ = _; rw [← hnn]; simp
  have hn10 : n ≤ 10 := by omega
  obtain ⟨p, hp⟩ : ∃ p, x.1.pc = p := ⟨_, rfl⟩
  rw [hp] at hpc hi
  have HP : Hid (x.1.pc = p) := hp
  have hFn := hM.funcs y.1 (by unfold MT.mod; exact List.mem_map.2 ⟨y, List.mem_of_getElem? hyk, rfl⟩)
  obtain ⟨nb, hnb⟩ : ∃ n, y.1.body.length = n := ⟨_, rfl⟩
  have hnb96 : nb ≤ 96 := hnb ▸ hFn.nb.2
  have hat : y.1.body[p]? = some ⟨11, X, Y⟩ := by rw [← hi]; exact opAt_get hpc
  have HYK : Hid _ := hyk
  have HFK : Hid (x.1.f = (k : Int)) := hfk
  have HNB : Hid (y.1.body.length = nb) := hnb
  have hpn : p < nb := by omega
  have HW : Hid (Ew w0 N0 w N q g cap (q1 ++ [b]) x) := h
  have HM : Hid (ModOk N.m.mod) := hM
  have HB : Hid _ := hB
  have HOP : Hid (∀ i, i ∈ y.1.body → i.op < 256) := fun i hi => by have := (hFn.body i hi).op; unfold opOk at this; omega
  have hmi : ((n + 1 : Nat) : Int) - 1 = (n : Int) := by omega
  have hpi : (p : Int) < (nb : Int) := by omega
  have hok := hFn.body _ (List.mem_of_getElem? hat)
  have hX := hok.x
  have hY := hok.y
  unfold u32R at hX
  unfold u64R at hY
  dsimp only at hX hY
  have HOK : Hid _ := hok
  obtain ⟨ia, icp, hiv⟩ := h.mk_.slIm
  obtain ⟨ni, hni⟩ : ∃ n, N.m.imports.length = n := ⟨_, rfl⟩
  have hni4 : ni ≤ 4 := hni ▸ hM.ni
  have hni' : N.m.mod.imports.length = ni := hni
  rw [hni] at hiv
  have HIV : Hid (N.m.vi = .slice ia ni icp) := hiv
  rw [hni', hfk] at hto
  have hk8 : k < 100 := by have := hB.f; omega
  have hT := typeOf_ok hM hto
  have HT : Hid (∀ (U : World) (j : Nat), Mw U N.mb N.m → Calls Tryz.prog 85 #[.pointer (some ⟨N.mb, 0, none⟩), .int .i64 ((ni : Int) + (k : Int))] (U.drewN j) (fun en w' => en = .returned (.tuple #[.string t.text, .bool true]) ∧ ∃ k', w' = (U.drewN j).drewN k')) := fun U j hU => by
    have := typeOf_m (hU.keep ((Kp.refl (fun _ => False) U).drewM j) (fun _ _ h => h)) hM ((ni : Int) + (k : Int)) (by omega)
    rw [hto] at this
    exact this
  have HSp := fun u => split_kp t hT.p hT.np hT.nq u
  have HRet : Hid (∀ U, Ew w0 N0 U N q g cap (q1 ++ [b]) x → Calls Tryz.prog 260 #[.pointer (some ⟨N.xb, 0, none⟩)] U (Ez w0 N0 0 q')) := fun U hU => ret_w hU hM hB (by omega) (by omega) hr
  have HL0 : Hid (x.1.labs.length = 0) := by show _ = _; rw [hl0]; rfl
  obtain ⟨no, hno⟩ : ∃ n, x.1.ops.length = n := ⟨_, rfl⟩
  have hno10 : no ≤ 10 := hno ▸ hB.ops
  have HNO : Hid (x.1.ops.length = no) := hno
  have HTQ : Hid (t.q.size = no) := by show _ = _; omega
  obtain ⟨x0, x1, x2, x3, x4, y3, y4, f0, f1, f2, f3, f4, fz, ap, fcp⟩ := h.cells HNN.out
  rw [hfk] at f0
  obtain ⟨fg, fcap, fv, g1, g2, g3, fc⟩ := h.mk_.atFn hyk
  have m2 := h.mk_.c2
  obtain ⟨nf, hnf⟩ : ∃ n, N.m.fs.length = n := ⟨_, rfl⟩
  have hkn : k < nf := by rw [← hnf]; exact (List.getElem?_eq_some_iff.1 hyk).1
  rw [fv, hnf] at m2
  have z2 := fc 2 y.2.1 rfl
  obtain ⟨kb, kc, hkv, k1, k2, k3, k4, k5⟩ := (h.mk_.body (List.mem_of_getElem? hyk)).1.ptr (by omega)
  rw [hkv, hnb] at z2
  have HKV : Hid (y.2.1 = .slice (some ⟨kb, 0, none⟩) nb kc) := by show _ = _; rw [hkv, hnb]
  have hki : (k : Int) < (nf : Int) := by omega
  have hgf : nf ≤ fcap := by rw [← hnf]; exact g2
  have hkc : nb ≤ kc := by rw [← hnb]; exact k2
  have HIC : Hid (∀ U, Kp (fun _ => False) w U → U.cell? ⟨kb, p * 3, none⟩ = some (.int .u8 11) ∧ U.cell? ⟨kb, p * 3 + 1, none⟩ = some (.int .u32 X) ∧ U.cell? ⟨kb, p * 3 + 2, none⟩ = some (.int .u64 Y)) := fun U hU => by
    have hic := insC_at hat
    have e0 := k4 _ _ hic.1
    have e1 := k4 _ _ hic.2.1
    have e2 := k4 _ _ hic.2.2
    exact ⟨(hU.cell (p := ⟨kb, p * 3, none⟩) (lt_of_cell e0) (fun h => h)).trans e0, (hU.cell (p := ⟨kb, p * 3 + 1, none⟩) (lt_of_cell e1) (fun h => h)).trans e1, (hU.cell (p := ⟨kb, p * 3 + 2, none⟩) (lt_of_cell e2) (fun h => h)).trans e2⟩
  clear h hM hB hfk hyk hpc hi hp hFn hnb hat hok fc fv hnf hkv k1 k2 k3 k4 k5 g1 g2 g3 x1 x2 x4 y3 y4 f1 f2 f3 f4 fz ap hl0 hto hlen hr hiv hni hni' hT hno
  go_enter Tryz.func199, Tryz.ntmps199
  go_wp2_with fail
  go_quiet (fail)
  go_wp2_with fail
  go_quiet (fail)
  refine wp_genT ?_
  intro U hKU
  have hKU2 : Kp (fun _ => False) w U := ((Kp.refl _ _).drewM _).trans hKU
  have HE : Hid (Ew w0 N0 U N q g cap (q1 ++ [b]) x) := HW.out.quiet hKU2
  obtain ⟨e0, e1, e2⟩ := HIC.out U hKU2
  clear hKU hKU2 x0 x3 f0 m2 z2 fcp HIC HW
  obtain ⟨x0, x1, x2, x3, x4, y3, y4, f0, f1, f2, f3, f4, fz, ap, fcp⟩ := HE.out.cells HNN.out
  rw [HP.out] at f1
  rw [HFK.out] at f0
  obtain ⟨W, hW⟩ : ∃ W, U.alloc (.cells #[.int .u8 11, .int .u32 X, .int .u64 Y] 129) = W := ⟨_, rfl⟩
  have hKW : Kp (fun _ => False) U W := by rw [← hW]; exact (Kp.refl _ _).alloc _
  have HEW : Hid _ := HE.out.quiet hKW
  have hI := C3.new U (.int .u8 11) (.int .u32 X) (.int .u64 Y) 129
  rw [hW] at hI
  have j0 := hI.c0
  obtain ⟨w0', w1', w2', w3', w4', w5', w6', w7', w8, w9', w10', w11', wz, w12', w13'⟩ := HEW.out.cells HNN.out
  obtain ⟨ba, bc, hbv⟩ := HEW.out.frm.b.slice
  rw [HL0.out] at hbv
  rw [hbv] at w11'
  rw [HFK.out] at w7'
  have i1 := HEW.out.mk_.c1
  rw [HIV.out] at i1
  clear x0 x1 x2 x3 x4 y3 y4 f0 f2 f3 f4 fz ap fcp hI hKW w1' w2' w3' w4' w5' w6' w9' w10' wz w12' w13' hbv
  go_wp2_with fail
  try rw [hW]
  clear hW
  go_quiet ((go_at_call 85; exact Calls.quiet_of (HT.out _ _ HEW.out.mk_)))
  go_wp2_with fail
  refine (HSp _).mono ?_
  rintro en U2 ⟨rfl, hK2⟩
  have HE2 : Hid (Ew w0 N0 U2 N q g cap (q1 ++ [b]) x) := (HEW.out.quiet ((Kp.refl _ _).drewM _)).quiet hK2
  clear w0' w7' w8 w11' i1 hK2
  obtain ⟨x0, x1, x2, x3, x4, y3, y4, f0, f1, f2, f3, f4, fz, ap, fcp⟩ := HE2.out.cells HNN.out
  obtain ⟨oa, oc, hov⟩ := HE2.out.frm.o.slice
  rw [HNO.out] at hov
  rw [hov] at f3
  clear x0 x1 x2 x3 x4 y3 y4 f0 f1 f2 f4 fz ap fcp hov
  have htq := HTQ.out
  have hne1 : ((no : Int) != (no : Int)) = false := by simp
  go_wp2_with fail
  refine (HRet.out _ HE2.out).mono ?_
  rintro en u9 ⟨rfl, HZ⟩
  go_wp2
  go_ret
  exact ⟨rfl, HZ⟩
end
end Go.Proofs.Qxb6500275aGreatDoor
