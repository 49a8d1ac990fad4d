import Derived.Test.Qxb6500275aGreatDoorXo3
set_option maxRecDepth 100000
set_option linter.unusedVariables false
set_option linter.unusedSimpArgs false
namespace Go.Proofs.Qxb6500275aGreatDoor
open Go Go.RowKit
section
variable {w0 w u : World} {N0 N : EN} {q : MQ} {g cap : Nat} {q0 q1 : List (MF × FT3)} {x b : MF × FT3}
set_option maxHeartbeats 8000000 in
theorem ret_w (h : Ew w0 N0 w N q g cap (q1 ++ [b]) x) (hM : ModOk N.m.mod) (hB : FB x.1) (hf0 : 0 ≤ x.1.f) (hn : q1.length ≤ 10) {q' : MQ} (hr : retM N.m.mod q = some (0, q')) :
    Calls Tryz.prog 260 #[.pointer (some ⟨N.xb, 0, none⟩)] w (Ez w0 N0 0 q') := by
  have hfr := h.fr
  rw [List.map_append, List.reverse_append] at hfr
  have hfr2 : q.fr = x.1 :: b.1 :: (q1.map (·.1)).reverse := hfr
  unfold retM at hr
  rw [hfr2] at hr
  dsimp only at hr
  have hl : (q1 ++ [b]).length = q1.length + 1 := by simp
  obtain ⟨m, hm⟩ : ∃ m, q1.length = m := ⟨_, rfl⟩
  have HNN : Hid ((q1 ++ [b]).length = m + 1) := by show _ = _; rw [hl, hm]
  have HNM : Hid (q1.length = m) := hm
  have hn11 : m ≤ 10 := by omega
  obtain ⟨ia, icp, hiv⟩ := h.mk_.slIm
  obtain ⟨ni, hni⟩ : ∃ n, N.m.imports.length = n := ⟨_, rfl⟩
  have hni4 : ni ≤ 4 := hni ▸ hM.ni
  have hni' : N.m.mod.imports.length = ni := hni
  rw [hni] at hiv
  have HIV : Hid (N.m.vi = .slice ia ni icp) := hiv
  rw [hni'] at hr
  have hff := hB.f
  obtain ⟨kf, hkf⟩ : ∃ k : Nat, x.1.f = k := ⟨x.1.f.toNat, by omega⟩
  have HKF : Hid (x.1.f = (kf : Int)) := hkf
  rw [hkf] at hr
  have hk100 : kf < 100 := by omega
  cases hto : N.m.mod.typeOf ((ni : Int) + (kf : Int)) with
  | none => rw [hto] at hr; simp at hr
  | some t =>
  rw [hto] at hr
  dsimp only at hr
  have hT := typeOf_ok hM hto
  have HT : Hid (∀ (U : World) (k : Nat), Mw U N.mb N.m → Calls Tryz.prog 85 #[.pointer (some ⟨N.mb, 0, none⟩), .int .i64 ((ni : Int) + (kf : Int))] (U.drewN k) (fun en w' => en = .returned (.tuple #[.string t.text, .bool true]) ∧ ∃ k', w' = (U.drewN k).drewN k')) := fun U k hU => by
    have := typeOf_m (hU.keep ((Kp.refl (fun _ => False) U).drewM k) (fun _ _ h => h)) hM ((ni : Int) + (kf : Int)) (by omega)
    rw [hto] at this
    exact this
  have HSp := fun u => split_kp t hT.p hT.np hT.nq u
  have HW : Hid (Ew w0 N0 w N q g cap (q1 ++ [b]) x) := h
  have HR : Hid _ := hr
  have HB : Hid _ := hB
  have hnq := hT.nq
  have HTQ : Hid (Vals t.q) := hT.q
  have hmi : ((m + 1 + 1 : Nat) : Int) - 1 = ((m + 1 : Nat) : Int) := by omega
  clear h hr hM hB hto hT hfr hfr2 hiv hni hni' hkf hff hm hl hn
  obtain ⟨x0, x1, x2, x3, x4, y3, y4, f0, f1, f2, f3, f4, fz, ap, fcp⟩ := HW.out.cells HNN.out
  have i1 := HW.out.mk_.c1
  rw [HIV.out] at i1
  go_enter Tryz.func260, Tryz.ntmps260
  go_wp2_with fail
  go_quiet (fail)
  go_wp2_with fail
  clear x0 x1 x2 x3 x4 y3 y4 f0 f1 f2 f3 f4 fz ap fcp i1
  refine wp_genX ?_
  intro U1 hKU
  have HW1 : Hid _ := HW.out.quiet hKU
  clear hKU
  obtain ⟨x0, x1, x2, x3, x4, y3, y4, f0, f1, f2, f3, f4, fz, ap, fcp⟩ := HW1.out.cells HNN.out
  have i1 := HW1.out.mk_.c1
  rw [HIV.out] at i1
  rw [HKF.out] at f0
  go_quiet ((go_at_call 85; exact Calls.quiet_of (HT.out _ _ HW1.out.mk_)))
  go_wp2_with fail
  refine (HSp _).mono ?_
  rintro en U2 ⟨rfl, hK2⟩
  clear x0 x1 x2 x3 x4 y3 y4 f0 f1 f2 f3 f4 fz ap fcp i1
  have HW2 : Hid (Ew w0 N0 U2 N q g cap (q1 ++ [b]) x) := (HW1.out.quiet ((Kp.refl _ _).drewM _)).quiet hK2
  have hs2 : w0.heap.size ≤ U2.heap.size := HW2.out.gw.kp.size
  clear hK2
  by_cases hq1 : t.q.size = 1
  · have hr := HR.out
    rw [if_pos hq1] at hr
    have hqi : (t.q.size : Int) = 1 := by omega
    have hv0 := HTQ.out 0 (by omega)
    have hcc : (t.q[0].toNat : Int) = (bAt t.q 0 : Int) := by rw [bAt_get t.q 0 (by omega)]
    obtain ⟨tv, htv⟩ : ∃ c, bAt t.q 0 = c := ⟨_, rfl⟩
    rw [htv] at hr hv0 hcc
    unfold isVal at hv0
    cases hp : popM x.1 tv with
    | none => rw [hp] at hr; simp at hr
    | some pr =>
    obtain ⟨v, r'⟩ := pr
    rw [hp] at hr
    dsimp only at hr
    cases hpu : pushM b.1 v with
    | none => rw [hpu] at hr; simp at hr
    | some bn =>
    rw [hpu] at hr
    simp at hr
    obtain ⟨hBp, hvt, hvb⟩ := HB.out.pop hp
    have HP : Hid (∀ U, Ew w0 N0 U N q g cap (q1 ++ [b]) x → Calls Tryz.prog 257 #[.pointer (some ⟨g, (m + 1) * 5, none⟩), .int .u8 (tv : Int)] U (fun en u => en = .returned (.tuple #[.agg #[.int .u8 (v.t : Int), .int .u64 (v.b : Int)], .bool true]) ∧ ∃ t', Fkm U u N.vf (q1 ++ [b]) x r' t')) := fun U hU => by
      have := pop_w hU HB.out (want := tv) (by omega) hp
      rw [HNN.out] at this
      exact this
    have HPU : Hid _ := hpu
    have HR2 : Hid _ := hr
    obtain ⟨W3, hW3⟩ : ∃ W3, U2.alloc (.cells #[.int .u8 0, .int .u64 0] 229) = W3 := ⟨_, rfl⟩
    have HE3 : Hid (Ew w0 N0 W3 N q g cap (q1 ++ [b]) x) := by rw [← hW3]; exact HW2.out.quiet ((Kp.refl _ _).alloc _)
    have HV3 : Hid (Vb W3 N U2.heap.size (.int .u8 0) (.int .u64 0)) := by rw [← hW3]; exact Vb.new HW2.out _ _ _
    clear hr hp hpu htv hBp
    go_wp2_with fail
    try rw [hW3]
    clear hW3
    refine (HP.out _ HE3.out).mono ?_
    rintro en U4 ⟨rfl, t', hF⟩
    have HE4 : Hid _ := HE3.out.setTop hF
    have HV4 : Hid _ := HV3.out.gw (HE3.out.topGw hF)
    have HV5 : Hid _ := HV4.out.set (.int .u8 (v.t : Int)) (.int .u64 (v.b : Int))
    have HE5 : Hid _ := HE4.out.scratch hs2 HV4.out.fo (kp_set2 U4 U2.heap.size (.int .u8 (v.t : Int)) (.int .u64 (v.b : Int)))
    obtain ⟨b0, b1, bz0, bz1, _⟩ := HV4.out
    clear hF HE3 HV3
    go_wp2_with fail
    clear b0 b1 bz0 bz1
    generalize (U4.setCell ⟨U2.heap.size, 0, none⟩ (.int .u8 (v.t : Int))).setCell ⟨U2.heap.size, 1, none⟩ (.int .u64 (v.b : Int)) = U5 at HE5 HV5 ⊢
    obtain ⟨x0, x1, x2, x3, x4, y3, y4, f0, f1, f2, f3, f4, fz, ap, fcp⟩ := HE5.out.cells HNN.out
    dsimp only at x0 x1 x2 x3 x4 y3 y4 ap
    have HE6 : Hid _ := HE5.out.dropTop.quiet (Kp.refl _ _).drew
    have HV6 : Hid _ := (HV5.out.gw HE5.out.dropGw).quiet (Kp.refl _ _).drew
    rw [HNM.out] at HE6 HV6
    dsimp only at HE6 HV6
    have hfc1 : m + 1 ≤ cap := by omega
    have hcap : cap ≤ 9223372036854775807 := fcp.2
    clear x0 x1 x2 x4 y4 f0 f1 f2 f3 f4 fz ap fcp
    go_region
    go_wp2_with fail
    clear x3 y3
    generalize (U5.setCell ⟨N.xb, 3, none⟩ (.slice (some ⟨g, 0, none⟩) (m + 1) cap)).drew = U6 at HE6 HV6 ⊢
    obtain ⟨x0, x1, x2, x3, x4, y3, y4, f0, f1, f2, f3, f4, fz, ap, fcp⟩ := HE6.out.cells HNM.out
    dsimp only at x0 x1 x2 x3 x4 y3 y4 ap
    obtain ⟨b0, b1, bz0, bz1, _⟩ := HV6.out
    have HPP : Hid (∀ U, Kp (fun _ => False) U6 U → Calls Tryz.prog 271 #[.pointer (some ⟨g, m * 5, none⟩), .int .u8 (v.t : Int), .int .u64 (v.b : Int)] U (fun en u => en = .returned (.bool true) ∧ ∃ t', Fkm U u (.slice (some ⟨g, 0, none⟩) (m + 1) cap) q1 b bn t')) := fun U hU => by
      have := push_w (HE6.out.quiet hU) HPU.out hvt hvb
      rw [HNM.out] at this
      exact this
    have HS := fun w => stuck_m true w
    obtain ⟨k6, hk6⟩ : ∃ k, m + 1 = k := ⟨_, rfl⟩
    rw [hk6] at x3
    have hki : (k6 : Int) - 1 = (m : Int) := by omega
    have hkm : m < k6 := by omega
    have hkmi : (m : Int) < (k6 : Int) := by omega
    have hk20 : (k6 : Int) ≤ 20 := by omega
    have hwm := wrap_i64_nat m (by omega)
    clear hk6 hmi
    clear x0 x1 x2 x4 y3 y4 f0 f1 f2 f3 f4 fz ap fcp
    go_still_tail 15, (by kernel_rfl)
    go_wp2_with fail
    refine (HPP.out _ (Kp.refl _ _).drew).mono ?_
    rintro en U8 ⟨rfl, t8, hF8⟩
    have HE8 : Hid _ := (HE6.out.quiet (Kp.refl _ _).drew).setTop hF8
    clear hF8 x3 b0 b1 bz0 bz1
    go_wp2_with fail
    refine (HS _).mono ?_
    rintro en u9 ⟨rfl, rfl⟩
    go_wp2
    go_ret
    refine ⟨rfl, ?_⟩
    have hE := HE8.out.end_
    rw [← HR2.out]
    exact ⟨_, hE⟩
  · have hr := HR.out
    rw [if_neg hq1] at hr
    simp at hr
    have hqi : ((t.q.size : Int) == 1) = false := by rw [beq_eq_false_iff_ne]; omega
    have HR2 : Hid _ := hr
    obtain ⟨W3, hW3⟩ : ∃ W3, U2.alloc (.cells #[.int .u8 0, .int .u64 0] 229) = W3 := ⟨_, rfl⟩
    have HE5 : Hid (Ew w0 N0 W3 N q g cap (q1 ++ [b]) x) := by rw [← hW3]; exact HW2.out.quiet ((Kp.refl _ _).alloc _)
    clear hr
    go_wp2_with fail
    try rw [hW3]
    clear hW3
    obtain ⟨x0, x1, x2, x3, x4, y3, y4, f0, f1, f2, f3, f4, fz, ap, fcp⟩ := HE5.out.cells HNN.out
    have HE6 : Hid _ := HE5.out.dropTop.quiet (Kp.refl _ _).drew
    rw [HNM.out] at HE6
    have hfc1 : m + 1 ≤ cap := by omega
    have hcap : cap ≤ 9223372036854775807 := fcp.2
    clear x0 x1 x2 x4 y4 f0 f1 f2 f3 f4 fz ap fcp
    go_region
    go_wp2
    go_ret
    refine ⟨rfl, ?_⟩
    have hE := HE6.out.end_
    rw [← HR2.out]
    exact ⟨_, hE⟩
end
end Go.Proofs.Qxb6500275aGreatDoor
