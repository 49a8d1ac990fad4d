import Derived.Test.Qxb6500275aGreatDoorXo4
set_option maxRecDepth 100000
set_option linter.unusedVariables false
set_option linter.unusedSimpArgs false
namespace Go.Proofs.Qxb6500275aGreatDoor
open Go Go.RowKit
section
variable {w0 w u : World} {N0 N : EN} {q : MQ} {g cap : Nat} {q0 q1 : List (MF × FT3)} {x b : MF × FT3}
set_option maxHeartbeats 8000000 in
theorem branch_w (h : Ew w0 N0 w N q g cap (q1 ++ [b]) x) (hM : ModOk N.m.mod) (hB : FB x.1) (hf0 : 0 ≤ x.1.f) (hn : q1.length ≤ 10) {k : Nat} {y : Fn × Value × Value} (hy : N.m.fs[k]? = some y) (hop : ∀ l, l ∈ x.1.labs → l.1 < y.1.body.length) {l : Nat} (hl32 : l < 4294967296) {q' : MQ} (hr : branchM N.m.mod y.1 q l = some (0, q')) :
    Calls Tryz.prog 273 #[.pointer (some ⟨N.xb, 0, none⟩), .pointer (some ⟨g, (q1.length + 1) * 5, none⟩), y.2.1, .int .u32 (l : Int)] w (Ez w0 N0 0 q') := by
  have HRet : Hid (∀ U, Ew w0 N0 U N q g cap (q1 ++ [b]) x → retM N.m.mod q = some (0, q') → Calls Tryz.prog 260 #[.pointer (some ⟨N.xb, 0, none⟩)] U (Ez w0 N0 0 q')) := fun U hU h => ret_w hU hM hB hf0 hn h
  have hlen : (q1 ++ [b]).length = q1.length + 1 := by simp
  obtain ⟨n, hnn⟩ : ∃ n, q1.length + 1 = n := ⟨_, rfl⟩
  have HNN : Hid ((q1 ++ [b]).length = n) := by show _ = _; rw [hlen, hnn]
  rw [hnn]
  have hn11 : n ≤ 11 := by omega
  unfold branchM at hr
  rw [h.fr] at hr
  dsimp only at hr
  obtain ⟨nl, hnl⟩ : ∃ n, x.1.labs.length = n := ⟨_, rfl⟩
  have hnl8 : nl ≤ 8 := hnl ▸ hB.labs
  rw [hnl] at hr
  obtain ⟨ba, bcap, hbv⟩ := h.frm.b.slice
  rw [hnl] at hbv
  have HBV : Hid (x.2.b = .slice ba nl bcap) := hbv
  have HW : Hid (Ew w0 N0 w N q g cap (q1 ++ [b]) x) := h
  have HB : Hid _ := hB
  have HNL : Hid (x.1.labs.length = nl) := hnl
  obtain ⟨x0, x1, x2, x3, x4, y3, y4, f0, f1, f2, f3, f4, fz, ap, fcp⟩ := h.cells HNN.out
  rw [hbv] at f4
  by_cases c1 : nl < l
  · rw [if_pos c1] at hr; simp at hr
  rw [if_neg c1] at hr
  have c1i : ¬ (nl : Int) < (l : Int) := by omega
  by_cases c2 : l = nl
  · rw [if_pos c2] at hr
    have HR2 : Hid _ := hr
    subst c2
    clear h hr hM hB hbv hnl hlen hnn x0 x1 x2 x3 x4 y3 y4 f0 f1 f2 f3 fz ap fcp hop hy
    obtain ⟨bv, hbv⟩ : ∃ v, y.2.1 = v := ⟨_, rfl⟩
    rw [hbv]
    clear hbv
    go_enter Tryz.func273, Tryz.ntmps273
    go_wp2_with fail
    refine (HRet.out _ HW.out HR2.out).mono ?_
    rintro en u ⟨rfl, hE⟩
    go_wp2
    go_ret
    exact ⟨rfl, hE⟩
  rw [if_neg c2] at hr
  have c2i : ((l : Int) == (nl : Int)) = false := by rw [beq_eq_false_iff_ne]; omega
  obtain ⟨j, hj⟩ : ∃ j, nl - 1 - l = j := ⟨_, rfl⟩
  have hjl : j < nl := by omega
  obtain ⟨lab, hlab⟩ : ∃ lab, x.1.labs[j]? = some lab := ⟨_, List.getElem?_eq_getElem (by omega)⟩
  rw [hj, hlab] at hr
  dsimp only at hr
  have hla := hop lab (List.mem_of_getElem? hlab)
  have hlb := (hB.lab lab (List.mem_of_getElem? hlab)).2
  have hfl := hB.fl
  have hops := hB.ops
  obtain ⟨gb, bc2, hbv2, g1, g2, g3, g4, g5⟩ := h.frm.b.ptr (by omega)
  have hla2 := labC_at hlab
  have d0 := g4 _ _ hla2.1
  have d1 := g4 _ _ hla2.2
  rw [hbv] at hbv2
  simp at hbv2
  obtain ⟨rfl, hlx, rfl⟩ := hbv2
  clear hlx
  obtain ⟨a, ha⟩ : ∃ a, lab.1 = a := ⟨_, rfl⟩
  obtain ⟨hh, hhe⟩ : ∃ a, lab.2 = a := ⟨_, rfl⟩
  rw [ha] at hr hla d0
  rw [hhe] at hr hlb d1
  obtain ⟨no, hno⟩ : ∃ n, x.1.ops.length = n := ⟨_, rfl⟩
  obtain ⟨oa, oc, hov⟩ := h.frm.o.slice
  rw [hno] at hov hops hfl
  have hoc : no ≤ oc ∧ oc ≤ 9223372036854775807 := OR.capR h.frm.o hov
  have HOV : Hid (x.2.o = .slice oa no oc) := hov
  rw [hov] at f3
  have hhno : hh ≤ no := by omega
  -- the opener
  obtain ⟨nb, hnb⟩ : ∃ n, y.1.body.length = n := ⟨_, rfl⟩
  have hnb96 : nb ≤ 96 := hnb ▸ (hM.funcs y.1 (by unfold MT.mod; exact List.mem_map.2 ⟨y, List.mem_of_getElem? hy, rfl⟩)).nb.2
  have hbo := (h.mk_.body (List.mem_of_getElem? hy)).1
  obtain ⟨kb, kc, hkv, k1, k2, k3, k4, k5⟩ := hbo.ptr (by omega)
  have hat : y.1.body[a]? = some (opAt y.1 a) := opAt_get (by omega)
  have hic := insC_at hat
  have e0 := k4 _ _ hic.1
  have e1 := k4 _ _ hic.2.1
  have e2 := k4 _ _ hic.2.2
  have hok := (hM.funcs y.1 (by unfold MT.mod; exact List.mem_map.2 ⟨y, List.mem_of_getElem? hy, rfl⟩)).body _ (List.mem_of_getElem? hat)
  rw [hnb] at hkv hla k2
  obtain ⟨⟨iop, ix, iy⟩, hins⟩ : ∃ i, opAt y.1 a = i := ⟨_, rfl⟩
  rw [hins] at hr e0 e1 e2 hok
  dsimp only at hr e0 e1 e2
  have HKV : Hid (y.2.1 = .slice (some ⟨kb, 0, none⟩) nb kc) := hkv
  have HYM : Hid (y ∈ N.m.fs) := List.mem_of_getElem? hy
  have HMO : Hid (ModOk N.m.mod) := hM
  have HNB : Hid (y.1.body.length = nb) := hnb
  have HAL : Hid (∀ k, N.all k → k < w.heap.size) := fun k hk => h.all_lt hk
  have HINS : Hid (∀ i, i ∈ y.1.body → i.op < 256) := fun i hi => by
    have := ((hM.funcs y.1 (by unfold MT.mod; exact List.mem_map.2 ⟨y, List.mem_of_getElem? hy, rfl⟩)).body i hi).op
    unfold opOk at this
    omega
  rw [hkv]
  have hai : (a : Int) < (nb : Int) := by omega
  have hji : (nl : Int) - 1 - (l : Int) = (j : Int) := by omega
  have hjn : (j : Int) < (nl : Int) := by omega
  have hiop : iop < 256 := by have := hok.op; unfold opOk at this; dsimp only at this; omega
  have hix := hok.x
  unfold u32R at hix
  dsimp only at hix
  -- the two copies
  obtain ⟨W1, hW1⟩ : ∃ W, w.alloc (.cells #[.int .i64 (a : Int), .int .i64 (hh : Int)] 347) = W := ⟨_, rfl⟩
  obtain ⟨W2, hW2⟩ : ∃ W, W1.alloc (.cells #[.int .u8 (iop : Int), .int .u32 ix, .int .u64 iy] 129) = W := ⟨_, rfl⟩
  have hK1 : Kp (fun _ => False) w W1 := by rw [← hW1]; exact (Kp.refl _ _).alloc _
  have hK2 : Kp (fun _ => False) W1 W2 := by rw [← hW2]; exact (Kp.refl _ _).alloc _
  have hVL1 : Vb W1 N w.heap.size (.int .i64 (a : Int)) (.int .i64 (hh : Int)) := by rw [← hW1]; exact Vb.new h _ _ _
  have hVI : C3 W2 W1.heap.size (.int .u8 (iop : Int)) (.int .u32 ix) (.int .u64 iy) := by rw [← hW2]; exact C3.new W1 _ _ _ _
  have HE2 : Hid (Ew w0 N0 W2 N q g cap (q1 ++ [b]) x) := h.quiet (hK1.trans hK2)
  have HVL : Hid (Vb W2 N w.heap.size (.int .i64 (a : Int)) (.int .i64 (hh : Int))) := hVL1.quiet hK2
  have HVI : Hid _ := hVI
  have l0 := hVL1.c0
  have m0 := HVL.out.c0
  have m1 := HVL.out.c1
  have i0 := hVI.c0
  have i1 := hVI.c1
  have i2 := hVI.c2
  have p0 : W1.cell? ⟨kb, a * 3, none⟩ = some (.int .u8 (iop : Int)) := (hK1.cell (p := ⟨kb, a * 3, none⟩) (lt_of_cell e0) (fun h => h)).trans e0
  have p1 : W1.cell? ⟨kb, a * 3 + 1, none⟩ = some (.int .u32 ix) := (hK1.cell (p := ⟨kb, a * 3 + 1, none⟩) (lt_of_cell e1) (fun h => h)).trans e1
  have p2 : W1.cell? ⟨kb, a * 3 + 2, none⟩ = some (.int .u64 iy) := (hK1.cell (p := ⟨kb, a * 3 + 2, none⟩) (lt_of_cell e2) (fun h => h)).trans e2
  have HW1e : Hid _ := hW1
  have HW2e : Hid _ := hW2
  clear hW1 hW2
  have HF0 : Hid (Fkm W2 W2 N.vf (q1 ++ [b]) x x.1 x.2) := Fkm.start HE2.out.fk
  have hgo : N.vf.ownBlock = some g := h.own
  have HGO : Hid _ := hgo
  have HOP : Hid (x.1.ops = x.1.ops.take hh ++ x.1.ops.drop hh) := (List.take_append_drop hh x.1.ops).symm
  have HTK : Hid ((x.1.ops.take hh).length = hh) := by show _ = _; rw [List.length_take, hno]; omega
  have HNO : Hid (x.1.ops.length = no) := hno
  clear g4 g5 k4 k5 hic hat hla2 hlab hbo hVL1 hVI hK1 hK2 hkv hnb hno hov ha hhe hj hnn hop hy hB hbv hgo
  obtain ⟨z0, z1, z2, z3, z4, zy3, zy4, zf0, zf1, zf2, zf3, zf4, zfz, zap, zfcp⟩ := HE2.out.cells HNN.out
  rw [HOV.out] at zf3
  rw [HBV.out] at zf4
  have zz1 := zfz (n * 5 + 1)
  have zz3 := zfz (n * 5 + 3)
  have zz4 := zfz (n * 5 + 4)
  by_cases c3 : iop = 3
  · rw [if_pos c3] at hr
    simp at hr
    have HR2 : Hid _ := hr
    have c3b : ((iop : Int) == 3) = true := by rw [beq_iff_eq]; omega
    clear hr h c1 c2 c3 z0 z1 z2 z3 z4 zy3 zy4 zf0 zf2 zfz zap zfcp fcp x0 x1 x2 x3 x4 y3 y4 f0 f1 f2 fz ap hM
    obtain ⟨c, hc⟩ : ∃ c, nl - l = c := ⟨_, rfl⟩
    have hci : (nl : Int) - (l : Int) = (c : Int) := by omega
    have hcn : c ≤ nl := by omega
    have HC : Hid _ := hc
    have HF1 : Hid (Fkm W2 _ N.vf (q1 ++ [b]) x _ _) := (HF0.out.cutO (a := oa) (cap := oc) (l0 := x.1.ops.take hh) (l1 := x.1.ops.drop hh) (n := 0) (by rw [← HOP.out, HNO.out]; exact HOV.out) HOP.out HGO.out).quiet (Kp.refl _ _).drew
    rw [HTK.out, HNN.out] at HF1
    have HL2 : Hid (x.1.labs = x.1.labs.take c ++ x.1.labs.drop c) := (List.take_append_drop c x.1.labs).symm
    have HLc : Hid ((x.1.labs.take c).length = c) := by show _ = _; rw [List.length_take, HNL.out]; omega
    have HF2 : Hid (Fkm W2 _ N.vf (q1 ++ [b]) x _ _) := HF1.out.cutL (a := some ⟨gb, 0, none⟩) (cap := bcap) (l0 := x.1.labs.take c) (l1 := x.1.labs.drop c) (by rw [← HL2.out, HNL.out]; exact HBV.out) HL2.out HGO.out
    rw [HLc.out, HNN.out] at HF2
    have HF3 : Hid (Fkm W2 _ N.vf (q1 ++ [b]) x _ _) := HF2.out.setPc (a + 1) HGO.out
    rw [HNN.out] at HF3
    clear hc
    go_enter Tryz.func273, Tryz.ntmps273
    go_wp2_with fail
    rw [HW1e.out, HW2e.out]
    go_region
    go_wp2
    go_ret
    refine ⟨rfl, ?_⟩
    have hE := (HE2.out.setTop HF3.out).end_
    rw [← HR2.out, ← HC.out] at *
    exact ⟨_, hE⟩
  · rw [if_neg c3] at hr
    have c3b : ((iop : Int) == 3) = false := by rw [beq_eq_false_iff_ne]; omega
    obtain ⟨W3, hW3⟩ : ∃ W, W2.alloc (.cells #[.int .u8 0, .int .u64 0] 229) = W := ⟨_, rfl⟩
    have hK3 : Kp (fun _ => False) W2 W3 := by rw [← hW3]; exact (Kp.refl _ _).alloc _
    have HE3 : Hid (Ew w0 N0 W3 N q g cap (q1 ++ [b]) x) := HE2.out.quiet hK3
    have HV3 : Hid (Vb W3 N W2.heap.size (.int .u8 0) (.int .u64 0)) := by rw [← hW3]; exact Vb.new HE2.out _ _ _
    have HVL3 : Hid _ := HVL.out.quiet hK3
    have HVI3 : Hid _ := HVI.out.keep hK3 (fun h => h)
    have HW3e : Hid _ := hW3
    have hgw : g < w.heap.size := lt_of_cell f1
    have hw12 : w.heap.size < W1.heap.size := by rw [← HW1e.out, World.size_alloc]; omega
    have hgw1 : g < W1.heap.size := by omega
    have HS1 : Hid (W1.heap.size = w.heap.size + 1) := by show _ = _; rw [← HW1e.out, World.size_alloc]
    have HS2 : Hid (W2.heap.size = w.heap.size + 1 + 1) := by show _ = _; rw [← HW2e.out, World.size_alloc, HS1.out]
    have HOVn : Hid (x.2.o = .slice oa x.1.ops.length oc) := by show _ = _; rw [HNO.out]; exact HOV.out
    clear hW3 hK3 HF0 z0 z1 z2 z3 z4 zy3 zy4 zf0 zf1 zf2 zf3 zf4 zfz zap zfcp zz1 zz3 zz4 i1 i2 x0 x1 x2 x3 x4 y3 y4 f0 f1 f2 fz ap fcp h hM c1 c2 c3 m0 m1
    have HF0 : Hid (Fkm W3 W3 N.vf (q1 ++ [b]) x x.1 x.2) := Fkm.start HE3.out.fk
    by_cases c4 : ix = 64
    · rw [if_pos c4] at hr
      simp at hr
      have HR2 : Hid _ := hr
      clear hr
      have HF1 : Hid (Fkm W3 _ N.vf (q1 ++ [b]) x _ _) := (HF0.out.cutO (a := oa) (cap := oc) (l0 := x.1.ops.take hh) (l1 := x.1.ops.drop hh) (n := 0) (by rw [List.take_append_drop]; exact HOVn.out) (List.take_append_drop hh x.1.ops).symm HGO.out).quiet (Kp.refl _ _).drew
      rw [HTK.out, HNN.out] at HF1
      have HLc : Hid ((x.1.labs.take j).length = j) := by show _ = _; rw [List.length_take, HNL.out]; omega
      have HF2 : Hid (Fkm W3 _ N.vf (q1 ++ [b]) x _ _) := HF1.out.cutL (a := some ⟨gb, 0, none⟩) (cap := bcap) (l0 := x.1.labs.take j) (l1 := x.1.labs.drop j) (by rw [List.take_append_drop, HNL.out]; exact HBV.out) (by rw [List.take_append_drop]) HGO.out
      rw [HLc.out, HNN.out] at HF2
      obtain ⟨en, hen⟩ : ∃ e, endF y.1 (a + 1) = e := ⟨_, rfl⟩
      have hen96 : en ≤ 96 := by rw [← hen]; have := endF_le y.1 (s := a + 1) (by rw [HNB.out]; omega); rw [HNB.out] at this; omega
      have HF3 : Hid (Fkm W3 _ N.vf (q1 ++ [b]) x _ _) := HF2.out.setPc (en + 1) HGO.out
      rw [HNN.out] at HF3
      have HMT := match_m ((HE3.out.setTop HF2.out).mk_.body HYM.out).1 (by rw [HNB.out]; exact hnb96) HINS.out a (by rw [HNB.out]; omega)
      rw [HKV.out, show (matchL (y.1.body.drop (a + 1)) (a + 1) 0 (-1)) = matchF y.1 (a + 1) from rfl, show (matchF y.1 (a + 1)).1 = endF y.1 (a + 1) from rfl, hen] at HMT
      obtain ⟨el, hel⟩ : ∃ e, (matchF y.1 (a + 1)).2 = e := ⟨_, rfl⟩
      rw [hel] at HMT
      have HEN : Hid _ := hen
      clear hel hen
      have m0 := HVL3.out.c0
      have m1 := HVL3.out.c1
      have i1 := HVI3.out.c1
      rw [HS1.out] at i1
      obtain ⟨z0, z1, z2, z3, z4, zy3, zy4, zf0, zf1, zf2, zf3, zf4, zfz, zap, zfcp⟩ := HE3.out.cells HNN.out
      rw [HOV.out] at zf3
      rw [HBV.out] at zf4
      have zz1 := zfz (n * 5 + 1)
      have zz3 := zfz (n * 5 + 3)
      have zz4 := zfz (n * 5 + 4)
      clear z0 z1 z2 z3 z4 zy3 zy4 zf0 zf2 zfz zap zfcp
      have c4b : (ix == 64) = true := by rw [beq_iff_eq]; exact c4
      have c4c : (ix != 64) = false := by simp [bne, c4b]
      clear c4
      go_enter Tryz.func273, Tryz.ntmps273
      go_wp2_with fail
      rw [HW1e.out, HW2e.out, HW3e.out]
      go_region
      go_wp2_with fail
      refine HMT.mono ?_
      rintro en2 u ⟨rfl, rfl⟩
      go_wp2
      go_ret
      refine ⟨rfl, ?_⟩
      have hE := (HE3.out.setTop HF3.out).end_
      rw [← HR2.out, ← HEN.out] at *
      exact ⟨_, hE⟩
    · rw [if_neg c4] at hr
      have c4b : (ix == 64) = false := by rw [beq_eq_false_iff_ne]; exact c4
      have c4c : (ix != 64) = true := by simp [bne, c4b]
      obtain ⟨xt, hxt⟩ : ∃ t, ix.toNat % 256 = t := ⟨_, rfl⟩
      have hxt2 : xt < 256 := by omega
      have hwx : IntKind.u8.wrap ix = (xt : Int) := by
        obtain ⟨ixn, rfl⟩ := Int.eq_ofNat_of_zero_le hix.1
        rw [Int.toNat_natCast] at hxt
        rw [← hxt]
        simp only [IntKind.wrap, IntKind.bits, IntKind.signed]
        simp
      rw [hxt] at hr
      cases hp : popM x.1 xt with
      | none => rw [hp] at hr; simp at hr
      | some pr =>
      obtain ⟨v, r'⟩ := pr
      rw [hp] at hr
      dsimp only at hr
      obtain ⟨hBp, hvt, hvb⟩ := HB.out.pop hp
      obtain ⟨lr, hlr, hlf, hlw, rfl⟩ := popM_some hp
      have HP : Hid (∀ U, Ew w0 N0 U N q g cap (q1 ++ [b]) x → Calls Tryz.prog 257 #[.pointer (some ⟨g, n * 5, none⟩), .int .u8 (xt : Int)] U (fun en u => en = .returned (.tuple #[.agg #[.int .u8 (v.t : Int), .int .u64 (v.b : Int)], .bool true]) ∧ ∃ t', Fkm U u N.vf (q1 ++ [b]) x { x.1 with ops := lr } t')) := fun U hU => by
        have := pop_w hU HB.out hxt2 hp
        rw [HNN.out] at this
        exact this
      have hhl : hh ≤ lr.length := by have := HB.out.lab; omega
      have HTK5 : Hid ((lr.take hh).length = hh) := by show _ = _; rw [List.length_take]; omega
      unfold layM at hr
      cases hpu : pushM { ({ x.1 with ops := lr } : MF) with ops := lr.take hh, labs := x.1.labs.take j, pc := endF y.1 (a + 1) + 1 } v with
      | none => rw [hpu] at hr; simp at hr
      | some bn =>
      rw [hpu] at hr
      simp at hr
      have HR2 : Hid _ := hr
      have HPU : Hid _ := hpu
      have m0 := HVL3.out.c0
      have m1 := HVL3.out.c1
      have i1 := HVI3.out.c1
      rw [HS1.out] at i1
      obtain ⟨z0, z1, z2, z3, z4, zy3, zy4, zf0, zf1, zf2, zf3, zf4, zfz, zap, zfcp⟩ := HE3.out.cells HNN.out
      clear z0 z1 z2 z3 z4 zy3 zy4 zf0 zf2 zfz zap zfcp zf1 zf3 zf4 hr hpu hp hxt c4 hlr hBp
      go_enter Tryz.func273, Tryz.ntmps273
      go_wp2_with fail
      rw [HW1e.out, HW2e.out, HW3e.out]
      refine (HP.out _ HE3.out).mono ?_
      rintro en U4 ⟨rfl, t4, hF⟩
      have HE4 : Hid _ := HE3.out.setTop hF
      have hgG := HE3.out.topGw hF
      have HV4 : Hid _ := HV3.out.gw hgG
      have HVL4 : Hid _ := HVL3.out.gw hgG
      have HVI4 : Hid _ := HVI3.out.keep hgG.kp (fun hk => by have := HAL.out _ hk; omega)
      have hs0 : w0.heap.size ≤ W2.heap.size := HE2.out.gw.kp.size
      have hkS := kp_set2 U4 W2.heap.size (.int .u8 (v.t : Int)) (.int .u64 (v.b : Int))
      have HE5 : Hid _ := HE4.out.scratch hs0 HV4.out.fo hkS
      have HV5 : Hid _ := HV4.out.set (.int .u8 (v.t : Int)) (.int .u64 (v.b : Int))
      have HVL5 : Hid _ := HVL4.out.keep hkS (by have := HS2.out; omega) HVL4.out.fo
      have HVI5 : Hid _ := HVI4.out.keep hkS (by have := HS2.out; have := HS1.out; omega)
      have b0 := HV4.out.c0
      have b1 := HV4.out.c1
      have bz0 := HV4.out.z0
      have bz1 := HV4.out.z1
      rw [HS2.out] at b0 b1 bz0 bz1 HE5 HV5 HVL5 HVI5
      have i1 := HVI4.out.c1
      rw [HS1.out] at i1
      have m0 := HVL4.out.c0
      have m1 := HVL4.out.c1
      clear hF hgG HE4 HV4 HVL4 HVI4 hkS
      go_wp2_with fail
      clear b0 b1 bz0 bz1 i1 m0 m1
      generalize (U4.setCell ⟨w.heap.size + 1 + 1, 0, none⟩ (.int .u8 (v.t : Int))).setCell ⟨w.heap.size + 1 + 1, 1, none⟩ (.int .u64 (v.b : Int)) = U5 at HE5 HV5 HVL5 HVI5 ⊢
      obtain ⟨oa5, oc5, ho5⟩ := HE5.out.frm.o.slice
      obtain ⟨ba5, bc5, hb5⟩ := HE5.out.frm.b.slice
      have hoc5 := OR.capR HE5.out.frm.o ho5
      have hbc5 := OR.capR HE5.out.frm.b hb5
      dsimp only at ho5 hb5
      have HOV5 : Hid (t4.o = .slice oa5 lr.length oc5) := ho5
      have HBV5 : Hid (t4.b = .slice ba5 nl bc5) := by show _ = _; rw [hb5, HNL.out]
      have HF5 : Hid (Fkm U5 U5 N.vf (q1 ++ [b]) ({ x.1 with ops := lr }, t4) { x.1 with ops := lr } t4) := Fkm.start HE5.out.fk
      have HF1 : Hid (Fkm U5 _ N.vf (q1 ++ [b]) ({ x.1 with ops := lr }, t4) _ _) := (HF5.out.cutO (a := oa5) (cap := oc5) (l0 := lr.take hh) (l1 := lr.drop hh) (n := 0) (by rw [List.take_append_drop]; exact HOV5.out) (List.take_append_drop hh lr).symm HGO.out).quiet (Kp.refl _ _).drew
      rw [HTK5.out, HNN.out] at HF1
      have HLc : Hid ((x.1.labs.take j).length = j) := by show _ = _; rw [List.length_take, HNL.out]; omega
      have HF2 : Hid (Fkm U5 _ N.vf (q1 ++ [b]) ({ x.1 with ops := lr }, t4) _ _) := HF1.out.cutL (a := ba5) (cap := bc5) (l0 := x.1.labs.take j) (l1 := x.1.labs.drop j) (by rw [List.take_append_drop, HNL.out]; exact HBV5.out) (by rw [List.take_append_drop]) HGO.out
      rw [HLc.out, HNN.out] at HF2
      obtain ⟨en, hen⟩ : ∃ e, endF y.1 (a + 1) = e := ⟨_, rfl⟩
      have hen96 : en ≤ 96 := by rw [← hen]; have := endF_le y.1 (s := a + 1) (by rw [HNB.out]; omega); rw [HNB.out] at this; omega
      have HF3 : Hid (Fkm U5 _ N.vf (q1 ++ [b]) ({ x.1 with ops := lr }, t4) _ _) := HF2.out.setPc (en + 1) HGO.out
      rw [HNN.out] at HF3
      have HMT := match_m ((HE5.out.setTop HF2.out).mk_.body HYM.out).1 (by rw [HNB.out]; exact hnb96) HINS.out a (by rw [HNB.out]; omega)
      rw [HKV.out, show (matchL (y.1.body.drop (a + 1)) (a + 1) 0 (-1)) = matchF y.1 (a + 1) from rfl, show (matchF y.1 (a + 1)).1 = endF y.1 (a + 1) from rfl, hen] at HMT
      obtain ⟨el, hel⟩ : ∃ e, (matchF y.1 (a + 1)).2 = e := ⟨_, rfl⟩
      rw [hel] at HMT
      have HEN : Hid _ := hen
      clear hel
      rw [hen] at HPU
      have HE6 : Hid (Ew w0 N0 _ _ _ g cap (q1 ++ [b]) _) := HE5.out.setTop HF3.out
      have HPP := push_w HE6.out HPU.out hvt hvb
      rw [HNN.out] at HPP
      obtain ⟨z0, z1, z2, z3, z4, zy3, zy4, zf0, zf1, zf2, zf3, zf4, zfz, zap, zfcp⟩ := HE5.out.cells HNN.out
      dsimp only at zf1 zf3 zf4
      rw [HOV5.out] at zf3
      rw [HBV5.out] at zf4
      have zz1 := zfz (n * 5 + 1)
      have zz3 := zfz (n * 5 + 3)
      have zz4 := zfz (n * 5 + 4)
      clear z0 z1 z2 z3 z4 zy3 zy4 zf0 zf2 zfz zap zfcp hen ho5 hb5
      obtain ⟨nr, hnr⟩ : ∃ n, lr.length = n := ⟨_, rfl⟩
      rw [hnr] at zf3 hhl
      have hnr2 : nr ≤ oc5 ∧ oc5 ≤ 9223372036854775807 := by rw [← hnr]; exact hoc5
      have b0 := HV5.out.c0
      have b1 := HV5.out.c1
      have i1 := HVI5.out.c1
      rw [HS1.out] at i1
      have m0 := HVL5.out.c0
      have m1 := HVL5.out.c1
      have hjb : j ≤ bc5 := by
        have h1 : x.1.labs.length ≤ bc5 := hbc5.1
        rw [HNL.out] at h1
        omega
      have HS := fun w => stuck_m true w
      clear hnr hoc5 hbc5
      go_region
      go_wp2_with fail
      refine HMT.mono ?_
      rintro en2 u ⟨rfl, rfl⟩
      go_wp2_with fail
      refine HPP.mono ?_
      rintro en3 U8 ⟨rfl, t8, hF8⟩
      have HE8 : Hid _ := HE6.out.setTop hF8
      clear hF8
      go_wp2_with fail
      refine (HS _).mono ?_
      rintro en4 u9 ⟨rfl, rfl⟩
      go_wp2
      go_ret
      refine ⟨rfl, ?_⟩
      have hE := HE8.out.end_
      rw [← HR2.out]
      exact ⟨_, hE⟩
end
end Go.Proofs.Qxb6500275aGreatDoor
