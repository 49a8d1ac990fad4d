import Derived.Test.Qxb6500275aGreatDoorXo8
import Derived.Test.Qxb6500275aGreatDoorVn0
import Derived.Test.Qxb6500275aGreatDoorRm3
set_option maxRecDepth 100000
set_option linter.unusedVariables false
set_option linter.unusedSimpArgs false
namespace Go.Proofs.Qxb6500275aGreatDoor
open Go Go.RowKit
section
variable {w0 w u : World} {N0 N : EN} {q : MQ} {g cap : Nat} {q0 q1 : List (MF × FT3)} {x b : MF × FT3}
set_option maxHeartbeats 8000000 in
theorem mload_w (h : Ew w0 N0 w N q g cap q0 x) (hB : FB x.1) (hn : q0.length ≤ 10) (hS : SmOk q.S) (hm0 : ¬ N.m.mod.memMin < 0) (hmr : limR N.m.mod.memMin) {op : Nat} {X Y : Int} (ho : 40 ≤ op ∧ op ≤ 53) (hx : u32R X) (hy : u64R Y) {e : Nat} {q' : MQ} (hr : memoryM N.m.mod q x.1 ⟨op, X, Y⟩ = some (e, q')) :
    Calls Tryz.prog 277 #[.pointer (some ⟨N.xb, 0, none⟩), .pointer (some ⟨g, q0.length * 5, none⟩), .agg #[.int .u8 (op : Int), .int .u32 X, .int .u64 Y]] w (Ez w0 N0 (e : Int) q') := by
  obtain ⟨n, hnn⟩ : ∃ n, q0.length = n := ⟨_, rfl⟩
  have HNN : Hid (q0.length = n) := hnn
  rw [hnn]
  unfold memoryM at hr
  rw [if_neg hm0] at hr
  dsimp only at hr
  have hmr2 : -1 ≤ N.m.memMin ∧ N.m.memMin < 4294967296 := hmr
  have hm1 : ¬ N.m.memMin < 0 := hm0
  obtain ⟨W1, hW1⟩ : ∃ W, w.alloc (.cells #[.int .u8 (op : Int), .int .u32 X, .int .u64 Y] 129) = W := ⟨_, rfl⟩
  have hK1 : Kp (fun _ => False) w W1 := by rw [← hW1]; exact (Kp.refl _ _).alloc _
  have hC1 : C3 W1 w.heap.size (.int .u8 (op : Int)) (.int .u32 X) (.int .u64 Y) := by rw [← hW1]; exact C3.new w _ _ _ _
  have HE1 : Hid (Ew w0 N0 W1 N q g cap q0 x) := h.quiet hK1
  have HWB : Hid (¬ N.all w.heap.size) := fun hk => Nat.lt_irrefl _ (h.all_lt hk)
  have hw0 : w0.heap.size ≤ w.heap.size := h.gw.kp.size
  have HC1 : Hid _ := hC1
  have i0 := hC1.c0
  have i1 := hC1.c1
  have i2 := hC1.c2
  have HS : Hid _ := hS
  have HB : Hid _ := hB
  have HSt := fun w => stuck_m true w
  obtain ⟨x0, x1, x2, x3, x4, y3, y4, f0, f1, f2, f3, f4, fz, ap, fcp⟩ := HE1.out.cells HNN.out
  have c5 : W1.cell? ⟨N.mb, 5, none⟩ = some (.int .i64 N.m.memMin) := HE1.out.mk_.c5
  clear x2 x3 x4 y3 y4 f0 f1 f2 f3 f4 fz ap fcp hnn hK1 hC1 hmr hm0
  rw [if_neg (by omega), if_neg (by omega), if_pos (by omega)] at hr
  cases hp : popM x.1 127 with
  | none => rw [hp] at hr; simp at hr
  | some pr =>
  obtain ⟨d, r1⟩ := pr
  rw [hp] at hr
  dsimp only at hr
  obtain ⟨hB1, hdt, hdb⟩ := HB.out.pop hp
  have hsa := memSig_all2 op (by omega) (by omega)
  obtain ⟨⟨mw, mt, ms⟩, hsg⟩ : ∃ z, memSig op = z := ⟨_, rfl⟩
  rw [hsg] at hsa hr
  dsimp only at hsa hr
  have HMS := fun u => memSig_e op (by omega) u
  rw [hsg] at HMS
  unfold encM at HMS
  dsimp only at HMS
  have b63 : ((op : Int) == 63) = false := by rw [beq_eq_false_iff_ne]; omega
  have b64 : ((op : Int) == 64) = false := by rw [beq_eq_false_iff_ne]; omega
  have b53 : (op : Int) ≤ 53 := by omega
  have hmt : mt < 256 := by omega
  have HPo := pop_w HE1.out HB.out (by decide) hp
  rw [HNN.out] at HPo
  obtain ⟨dl, hdl⟩ : ∃ d', lo32 d.b = d' := ⟨_, rfl⟩
  have hdl32 : dl < 4294967296 := hdl ▸ lo32_lt _
  have hwd : IntKind.u32.wrap (d.b : Int) = (dl : Int) := by rw [w32lo, hdl]
  unfold u64R at hy
  obtain ⟨Yn, rfl⟩ := Int.eq_ofNat_of_zero_le hy.1
  obtain ⟨yl, hyl⟩ : ∃ d', lo32 Yn = d' := ⟨_, rfl⟩
  have hyl32 : yl < 4294967296 := hyl ▸ lo32_lt _
  have hwy : IntKind.u32.wrap (Yn : Int) = (yl : Int) := by rw [w32lo, hyl]
  have hym : ((Yn : Int) % 4294967296).toNat = yl := by rw [← hyl]; unfold lo32; omega
  rw [hdl, hym] at hr
  have HLd : Hid (∀ (W : World) (k : Nat), Ms W N.sb N.vm N.vt N.vg q.S → Calls Tryz.prog 282 #[.pointer (some ⟨N.sb, 0, none⟩), .int .i64 (op : Int), .int .u32 (dl : Int), .int .u32 (yl : Int)] (W.drewN k) (Qm (W.drewN k) (encLd (loadS q.S op dl yl)))) := fun W k hW => mload_m (hW.keep ((Kp.refl (fun _ => False) W).drewM k) (fun _ _ h => h)) HS.out op dl yl ho.1 ho.2 hdl32 hyl32
  have HLR : Hid (∀ v, loadS q.S op dl yl = some v → 0 ≤ v ∧ v < 18446744073709551616) := fun v hv => loadS_r HS.out hv
  have HQ : Hid (∀ t2 : FT3, ({ N with fs := q0 ++ [(r1, t2)] } : EN).sb = N.sb) := fun _ => rfl
  clear h hS hB hp hdl hyl hym hsg
  have hop : op < 256 := by omega
  cases hld : loadS q.S op dl yl with
  | none =>
    rw [hld] at hr HLd
    simp at hr
    obtain ⟨rfl, hrr⟩ := hr
    have HRR : Hid _ := hrr
    unfold encLd at HLd
    dsimp only at HLd
    clear hrr hld HLR ho
    go_enter Tryz.func277, Tryz.ntmps277
    go_wp2_with fail
    try rw [hW1]
    clear hW1
    refine (HMS _).mono ?_
    rintro en u ⟨rfl, rfl⟩
    go_wp2_with fail
    refine HPo.mono ?_
    rintro en U2 ⟨rfl, t2, hF2⟩
    have HE2 : Hid _ := HE1.out.setTop hF2
    have HC2 : Hid _ := HC1.out.keep (HE1.out.topGw hF2).kp HWB.out
    have HFO2 : Hid _ := fo_gw HWB.out (HE1.out.topGw hF2) HC1.out.lt
    obtain ⟨W3, hW3⟩ : ∃ W, U2.alloc (.cells #[.int .u8 (d.t : Int), .int .u64 (d.b : Int)] 229) = W := ⟨_, rfl⟩
    have hK3 : Kp (fun _ => False) U2 W3 := by rw [← hW3]; exact (Kp.refl _ _).alloc _
    have HE3 : Hid _ := HE2.out.quiet hK3
    have hV3 := Vb.new HE2.out (.int .u8 (d.t : Int)) (.int .u64 (d.b : Int)) 229
    rw [hW3] at hV3
    have HV3 : Hid _ := hV3
    have HC3 : Hid _ := HC2.out.keep hK3 (fun h => h)
    have b1 := HV3.out.c1
    have j2 := HC3.out.c2
    have z1 := HE3.out.em.c.2.1
    dsimp only at z1
    clear hF2 x0 x1 c5 i0 i1 i2 hV3 hK3
    go_wp2_with fail
    try rw [hW3]
    clear hW3
    go_quiet ((go_at_call 282; exact Calls.quiet_of_same (HLd.out _ _ HE3.out.em.st)))
    go_wp2
    go_ret
    refine ⟨rfl, ?_⟩
    rw [← HRR.out]
    exact ⟨_, (HE3.out.quiet ((Kp.refl _ _).drewM _)).end_⟩
  | some v =>
    rw [hld] at hr HLd
    dsimp only at hr
    obtain ⟨r', hpu, rfl, hrr⟩ := layM_some hr
    have hvr := HLR.out v hld
    obtain ⟨vn, rfl⟩ := Int.eq_ofNat_of_zero_le hvr.1
    rw [Int.toNat_natCast] at hpu
    have hvn : vn < 18446744073709551616 := by omega
    have HRR : Hid _ := hrr
    have HPU : Hid _ := hpu
    unfold encLd at HLd
    dsimp only at HLd
    clear hr hrr hpu hld HLR ho hvr
    go_enter Tryz.func277, Tryz.ntmps277
    go_wp2_with fail
    try rw [hW1]
    clear hW1
    refine (HMS _).mono ?_
    rintro en u ⟨rfl, rfl⟩
    go_wp2_with fail
    refine HPo.mono ?_
    rintro en U2 ⟨rfl, t2, hF2⟩
    have HE2 : Hid _ := HE1.out.setTop hF2
    have HC2 : Hid _ := HC1.out.keep (HE1.out.topGw hF2).kp HWB.out
    have HFO2 : Hid _ := fo_gw HWB.out (HE1.out.topGw hF2) HC1.out.lt
    obtain ⟨W3, hW3⟩ : ∃ W, U2.alloc (.cells #[.int .u8 (d.t : Int), .int .u64 (d.b : Int)] 229) = W := ⟨_, rfl⟩
    have hK3 : Kp (fun _ => False) U2 W3 := by rw [← hW3]; exact (Kp.refl _ _).alloc _
    have HE3 : Hid _ := HE2.out.quiet hK3
    have hV3 := Vb.new HE2.out (.int .u8 (d.t : Int)) (.int .u64 (d.b : Int)) 229
    rw [hW3] at hV3
    have HV3 : Hid _ := hV3
    have HC3 : Hid _ := HC2.out.keep hK3 (fun h => h)
    have b1 := HV3.out.c1
    have j2 := HC3.out.c2
    have z1 := HE3.out.em.c.2.1
    dsimp only at z1
    clear hF2 x0 x1 c5 i0 i1 i2 hV3 hK3
    go_wp2_with fail
    try rw [hW3]
    clear hW3
    go_quiet ((go_at_call 282; exact Calls.quiet_of_same (HLd.out _ _ HE3.out.em.st)))
    go_wp2_with fail
    have HPP : Hid (∀ k, _) := fun k => push_w (HE3.out.quiet ((Kp.refl _ _).drewM k)) HPU.out (by dsimp only; omega) (by dsimp only; omega)
    rw [HNN.out] at HPP
    dsimp only at HPP
    refine (HPP.out _).mono ?_
    rintro en U8 ⟨rfl, t8, hF8⟩
    have HE8 : Hid _ := (HE3.out.quiet ((Kp.refl _ _).drewM _)).setTop hF8
    clear hF8
    go_wp2_with fail
    refine (HSt _).mono ?_
    rintro en u9 ⟨rfl, rfl⟩
    go_wp2
    go_ret
    refine ⟨rfl, ?_⟩
    have hE := HE8.out.end_
    rw [← HRR.out]
    exact ⟨_, hE⟩
end
end Go.Proofs.Qxb6500275aGreatDoor
