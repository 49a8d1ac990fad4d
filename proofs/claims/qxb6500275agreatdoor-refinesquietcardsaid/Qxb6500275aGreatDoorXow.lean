import Derived.Test.Qxb6500275aGreatDoorXor
import Derived.Test.Qxb6500275aGreatDoorXgt
set_option maxRecDepth 100000
set_option linter.unusedVariables false
set_option linter.unusedSimpArgs false
namespace Go.Proofs.Qxb6500275aGreatDoor
open Go Go.RowKit
section
variable {w0 w u : World} {N0 N : EN} {q : MQ} {g cap : Nat} {q0 q1 : List (MF × FT3)} {x b : MF × FT3}
set_option maxHeartbeats 16000000 in
theorem st_else (h : Ew w0 N0 w N q g cap (q1 ++ [b]) x) (hM : ModOk N.m.mod) (hB : FB x.1) {k : Nat} (hfk : x.1.f = (k : Int)) (hn : q1.length ≤ 8) {y : Fn × Value × Value} (hyk : N.m.fs[k]? = some y) (hpc : x.1.pc < y.1.body.length) {X Y : Int} (hi : opAt y.1 x.1.pc = ⟨5, X, Y⟩) {lab : Nat × Nat} (hlab : x.1.labs.getLast? = some lab) (hop : ∀ l, l ∈ x.1.labs → l.1 < y.1.body.length) :
    Calls Tryz.prog 199 #[.pointer (some ⟨N.xb, 0, none⟩)] w (Ez w0 N0 0 (q.top { x.1 with pc := endF y.1 (lab.1 + 1) })) := by
  obtain ⟨n, hnn⟩ : ∃ n, q1.length + 1 = n := ⟨_, rfl⟩
  have HNN : Hid ((q1 ++ [b]).length = n) := by show _ = _; rw [← hnn]; simp
  have hn10 : n ≤ 10 := by omega
  obtain ⟨p, hp⟩ : ∃ p, x.1.pc = p := ⟨_, rfl⟩
  rw [hp] at hpc hi
  have HP : Hid (x.1.pc = p) := hp
  have hFn := hM.funcs y.1 (by unfold MT.mod; exact List.mem_map.2 ⟨y, List.mem_of_getElem? hyk, rfl⟩)
  obtain ⟨nb, hnb⟩ : ∃ n, y.1.body.length = n := ⟨_, rfl⟩
  have hnb96 : nb ≤ 96 := hnb ▸ hFn.nb.2
  have hat : y.1.body[p]? = some ⟨5, X, Y⟩ := by rw [← hi]; exact opAt_get hpc
  have HYK : Hid _ := hyk
  have HFK : Hid (x.1.f = (k : Int)) := hfk
  have HNB : Hid (y.1.body.length = nb) := hnb
  have hpn : p < nb := by omega
  have HW : Hid (Ew w0 N0 w N q g cap (q1 ++ [b]) x) := h
  have HM : Hid (ModOk N.m.mod) := hM
  have HB : Hid _ := hB
  have HOP : Hid (∀ i, i ∈ y.1.body → i.op < 256) := fun i hi => by have := (hFn.body i hi).op; unfold opOk at this; omega
  have hmi : ((n + 1 : Nat) : Int) - 1 = (n : Int) := by omega
  have hpi : (p : Int) < (nb : Int) := by omega
  have hok := hFn.body _ (List.mem_of_getElem? hat)
  have hX := hok.x
  have hY := hok.y
  unfold u32R at hX
  unfold u64R at hY
  dsimp only at hX hY
  have HOK : Hid _ := hok
  obtain ⟨ls, hls⟩ : ∃ ls, x.1.labs = ls ++ [lab] := by
    rcases List.eq_nil_or_concat x.1.labs with e | ⟨ls, l2, e⟩
    · rw [e] at hlab; simp at hlab
    · rw [e] at hlab; simp at hlab; subst hlab; exact ⟨ls, by rw [e, List.concat_eq_append]⟩
  obtain ⟨nl, hnl⟩ : ∃ nl, ls.length = nl := ⟨_, rfl⟩
  have hnb1 : x.1.labs.length = nl + 1 := by rw [hls]; simp [hnl]
  have hl8 := hB.labs
  have hlat := labC_at (l := x.1.labs) (i := nl) (v := lab) (by rw [hls, ← hnl]; simp)
  have hopn := hop lab (by rw [hls]; simp)
  have hlbB := hB.lab lab (by rw [hls]; simp)
  obtain ⟨la, lh⟩ := lab
  dsimp only at hopn hlbB hlat
  have hlh : lh ≤ 10 := by have := hB.fl; have := hB.ops; omega
  have hlan : la < nb := by omega
  have HLS : Hid (x.1.labs = ls ++ [(la, lh)]) := hls
  have HNL : Hid (ls.length = nl) := hnl
  have HLB : Hid (∀ U N' q', Ew w0 N0 U N' q' g cap (q1 ++ [b]) x → ∃ gb bc, x.2.b = .slice (some ⟨gb, 0, none⟩) (nl + 1) bc ∧ nl + 1 ≤ bc ∧ bc ≤ 9223372036854775807 ∧ U.cell? ⟨gb, nl * 2, none⟩ = some (.int .i64 (la : Int)) ∧ U.cell? ⟨gb, nl * 2 + 1, none⟩ = some (.int .i64 (lh : Int))) := fun U N' q' hU => by
    obtain ⟨gb, bc, hbv, b1, b2, b3, b4, b5⟩ := hU.frm.b.ptr (by omega)
    rw [hnb1] at hbv b2
    exact ⟨gb, bc, hbv, b2, b3, b4 _ _ hlat.1, b4 _ _ hlat.2⟩
  obtain ⟨en, hen⟩ : ∃ e, endF y.1 (la + 1) = e := ⟨_, rfl⟩
  obtain ⟨el, hel⟩ : ∃ e, elsF y.1 (la + 1) = e := ⟨_, rfl⟩
  have hen2 : en ≤ 96 := by have := endF_le y.1 (s := la + 1) (by omega); omega
  have HEN : Hid (endF y.1 (la + 1) = en) := hen
  have HMA : Hid (∀ (U : World) (j : Nat), Ew w0 N0 U N q g cap (q1 ++ [b]) x → Calls Tryz.prog 259 #[y.2.1, .int .i64 (la : Int)] (U.drewN j) (Qm (U.drewN j) (.tuple #[.int .i64 (en : Int), .int .i64 el]))) := fun U j hU => by
    have := match_m (((hU.quiet ((Kp.refl _ _).drewM j)).mk_.body (List.mem_of_getElem? hyk)).1) (by omega) (fun i hi => by have := (hFn.body i hi).op; unfold opOk at this; omega) la (by omega)
    rw [← hen, ← hel]
    exact this
  obtain ⟨x0, x1, x2, x3, x4, y3, y4, f0, f1, f2, f3, f4, fz, ap, fcp⟩ := h.cells HNN.out
  rw [hfk] at f0
  obtain ⟨fg, fcap, fv, g1, g2, g3, fc⟩ := h.mk_.atFn hyk
  have m2 := h.mk_.c2
  obtain ⟨nf, hnf⟩ : ∃ n, N.m.fs.length = n := ⟨_, rfl⟩
  have hkn : k < nf := by rw [← hnf]; exact (List.getElem?_eq_some_iff.1 hyk).1
  rw [fv, hnf] at m2
  have z2 := fc 2 y.2.1 rfl
  obtain ⟨kb, kc, hkv, k1, k2, k3, k4, k5⟩ := (h.mk_.body (List.mem_of_getElem? hyk)).1.ptr (by omega)
  rw [hkv, hnb] at z2
  have HKV : Hid (y.2.1 = .slice (some ⟨kb, 0, none⟩) nb kc) := by show _ = _; rw [hkv, hnb]
  have hki : (k : Int) < (nf : Int) := by omega
  have hgf : nf ≤ fcap := by rw [← hnf]; exact g2
  have hkc : nb ≤ kc := by rw [← hnb]; exact k2
  have HIC : Hid (∀ U, Kp (fun _ => False) w U → U.cell? ⟨kb, p * 3, none⟩ = some (.int .u8 5) ∧ U.cell? ⟨kb, p * 3 + 1, none⟩ = some (.int .u32 X) ∧ U.cell? ⟨kb, p * 3 + 2, none⟩ = some (.int .u64 Y)) := fun U hU => by
    have hic := insC_at hat
    have e0 := k4 _ _ hic.1
    have e1 := k4 _ _ hic.2.1
    have e2 := k4 _ _ hic.2.2
    exact ⟨(hU.cell (p := ⟨kb, p * 3, none⟩) (lt_of_cell e0) (fun h => h)).trans e0, (hU.cell (p := ⟨kb, p * 3 + 1, none⟩) (lt_of_cell e1) (fun h => h)).trans e1, (hU.cell (p := ⟨kb, p * 3 + 2, none⟩) (lt_of_cell e2) (fun h => h)).trans e2⟩
  clear h hM hB hfk hyk hpc hi hp hFn hnb hat hok fc fv hnf hkv k1 k2 k3 k4 k5 g1 g2 g3 x1 x2 x4 y3 y4 f1 f2 f3 f4 fz ap hop hls hnl hnb1 hl8 hlat hopn hlbB hen hel
  go_enter Tryz.func199, Tryz.ntmps199
  go_wp2_with fail
  go_quiet (fail)
  go_wp2_with fail
  go_quiet (fail)
  refine wp_genT ?_
  intro U hKU
  have hKU2 : Kp (fun _ => False) w U := ((Kp.refl _ _).drewM _).trans hKU
  have HE : Hid (Ew w0 N0 U N q g cap (q1 ++ [b]) x) := HW.out.quiet hKU2
  obtain ⟨e0, e1, e2⟩ := HIC.out U hKU2
  clear hKU hKU2 x0 x3 f0 m2 z2 fcp HIC HW
  obtain ⟨x0, x1, x2, x3, x4, y3, y4, f0, f1, f2, f3, f4, fz, ap, fcp⟩ := HE.out.cells HNN.out
  rw [HP.out] at f1
  rw [HFK.out] at f0
  obtain ⟨W, hW⟩ : ∃ W, U.alloc (.cells #[.int .u8 5, .int .u32 X, .int .u64 Y] 129) = W := ⟨_, rfl⟩
  have hKW : Kp (fun _ => False) U W := by rw [← hW]; exact (Kp.refl _ _).alloc _
  have HEW : Hid _ := HE.out.quiet hKW
  have hI := C3.new U (.int .u8 5) (.int .u32 X) (.int .u64 Y) 129
  rw [hW] at hI
  have j0 := hI.c0
  obtain ⟨w0', w1', w2', w3', w4', w5', w6', w7', w8, w9', w10', w11', wz, w12', w13'⟩ := HEW.out.cells HNN.out
  obtain ⟨gb, bc, hbv, hb2, hb3, l0, l1⟩ := HLB.out _ _ _ HEW.out
  rw [hbv] at w11'
  have fz1 := wz (n * 5 + 1)
  have hnli : ((nl + 1 : Nat) : Int) - 1 = (nl : Int) := by omega
  have hnlt : (nl : Int) < ((nl + 1 : Nat) : Int) := by omega
  have hnz : (((nl + 1 : Nat) : Int) == 0) = false := by rw [beq_eq_false_iff_ne]; omega
  have HMA2 : Hid (∀ (U : World) (j : Nat), Ew w0 N0 U N q g cap (q1 ++ [b]) x → Calls Tryz.prog 259 #[.slice (some ⟨kb, 0, none⟩) nb kc, .int .i64 (la : Int)] (U.drewN j) (Qm (U.drewN j) (.tuple #[.int .i64 (en : Int), .int .i64 el]))) := fun U j hU => by
    have := HMA.out U j hU
    rw [HKV.out] at this
    exact this
  clear x0 x1 x2 x3 x4 y3 y4 f0 f2 f3 f4 fz ap fcp hI hKW w0' w1' w2' w3' w4' w5' w6' w7' w9' w10' wz w12' w13' hbv HMA
  go_wp2_with fail
  try rw [hW]
  clear hW
  go_quiet ((go_at_call 259; exact Calls.quiet_of_same (HMA2.out _ _ HEW.out)))
  have HEP : Hid (∀ j, Ew w0 N0 ((W.drewN j).setCell ⟨g, n * 5 + 1, none⟩ (.int .i64 (en : Int))) { N with fs := q1 ++ [b] ++ [({ x.1 with pc := en }, x.2)] } (q.top { x.1 with pc := en }) g cap (q1 ++ [b]) ({ x.1 with pc := en }, x.2)) := fun j => (HEW.out.quiet ((Kp.refl _ _).drewM j)).setPc HNN.out en rfl
  go_wp2_with fail
  go_ret
  refine ⟨rfl, ?_⟩
  rw [HEN.out]
  exact ⟨_, (HEP.out _).end_⟩
end
end Go.Proofs.Qxb6500275aGreatDoor
