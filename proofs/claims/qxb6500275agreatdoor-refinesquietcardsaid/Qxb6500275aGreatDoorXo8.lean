import Derived.Test.Qxb6500275aGreatDoorXo6
import Derived.Test.Qxb6500275aGreatDoorRm5
import Derived.Test.Qxb6500275aGreatDoorBns
set_option maxRecDepth 100000
set_option linter.unusedVariables false
set_option linter.unusedSimpArgs false
namespace Go.Proofs.Qxb6500275aGreatDoor
open Go Go.RowKit
section
variable {w0 w u : World} {N0 N : EN} {q : MQ} {g cap : Nat} {q0 q1 : List (MF × FT3)} {x b : MF × FT3}
theorem layM_some {q q' : MQ} {o : Option MF} {e : Nat} (h : layM q o = some (e, q')) : ∃ r', o = some r' ∧ e = 0 ∧ q.top r' = q' := by
  unfold layM at h
  cases o with
  | none => simp at h
  | some r => simp at h; exact ⟨r, rfl, h.1.symm, h.2⟩
theorem w32lo {v : Nat} : IntKind.u32.wrap (v : Int) = ((lo32 v : Nat) : Int) := by
  unfold lo32
  simp only [IntKind.wrap, IntKind.bits, IntKind.signed]
  simp
theorem growS_lt {S : Sm} (h : SmOk S) (d : Nat) : (growS S d).1 < 4294967296 := by
  have := h.m
  unfold growS
  repeat' split
  all_goals (dsimp only; omega)
theorem fo_gw {w u : World} {N N' : EN} {B : Nat} (h : ¬ N.all B) (hg : Gw w u N.all N'.all) (hb : B < w.heap.size) : ¬ N'.all B := fun hk => by
  rcases hg.own B hk with h1 | h1
  · exact h h1
  · omega
theorem lo32_lt (v : Nat) : lo32 v < 4294967296 := by unfold lo32; omega
set_option maxHeartbeats 8000000 in
theorem msize_w (h : Ew w0 N0 w N q g cap q0 x) (hB : FB x.1) (hn : q0.length ≤ 10) (hS : SmOk q.S) (hm0 : ¬ N.m.mod.memMin < 0) (hmr : limR N.m.mod.memMin) {op : Nat} {X Y : Int} (ho : op = 63) (hx : u32R X) (hy : u64R Y) {e : Nat} {q' : MQ} (hr : memoryM N.m.mod q x.1 ⟨op, X, Y⟩ = some (e, q')) :
    Calls Tryz.prog 277 #[.pointer (some ⟨N.xb, 0, none⟩), .pointer (some ⟨g, q0.length * 5, none⟩), .agg #[.int .u8 (op : Int), .int .u32 X, .int .u64 Y]] w (Ez w0 N0 (e : Int) q') := by
  obtain ⟨n, hnn⟩ : ∃ n, q0.length = n := ⟨_, rfl⟩
  have HNN : Hid (q0.length = n) := hnn
  rw [hnn]
  unfold memoryM at hr
  rw [if_neg hm0] at hr
  dsimp only at hr
  have hmr2 : -1 ≤ N.m.memMin ∧ N.m.memMin < 4294967296 := hmr
  have hm1 : ¬ N.m.memMin < 0 := hm0
  obtain ⟨W1, hW1⟩ : ∃ W, w.alloc (.cells #[.int .u8 (op : Int), .int .u32 X, .int .u64 Y] 129) = W := ⟨_, rfl⟩
  have hK1 : Kp (fun _ => False) w W1 := by rw [← hW1]; exact (Kp.refl _ _).alloc _
  have hC1 : C3 W1 w.heap.size (.int .u8 (op : Int)) (.int .u32 X) (.int .u64 Y) := by rw [← hW1]; exact C3.new w _ _ _ _
  have HE1 : Hid (Ew w0 N0 W1 N q g cap q0 x) := h.quiet hK1
  have HWB : Hid (¬ N.all w.heap.size) := fun hk => Nat.lt_irrefl _ (h.all_lt hk)
  have hw0 : w0.heap.size ≤ w.heap.size := h.gw.kp.size
  have HC1 : Hid _ := hC1
  have i0 := hC1.c0
  have i1 := hC1.c1
  have i2 := hC1.c2
  have HS : Hid _ := hS
  have HB : Hid _ := hB
  have HSt := fun w => stuck_m true w
  obtain ⟨x0, x1, x2, x3, x4, y3, y4, f0, f1, f2, f3, f4, fz, ap, fcp⟩ := HE1.out.cells HNN.out
  have c5 : W1.cell? ⟨N.mb, 5, none⟩ = some (.int .i64 N.m.memMin) := HE1.out.mk_.c5
  clear x2 x3 x4 y3 y4 f0 f1 f2 f3 f4 fz ap fcp hnn hK1 hC1 hmr hm0
  rw [if_pos ho] at hr
  obtain ⟨r', hpu, rfl, hrr⟩ := layM_some hr
  have HRR : Hid _ := hrr
  have HMS := fun u => memSig_e op (by omega) u
  rw [show memSig op = (0, 0, false) from by rw [ho]; rfl] at HMS
  have b63 : ((op : Int) == 63) = true := by rw [beq_iff_eq]; omega
  unfold encM at HMS
  dsimp only at HMS
  have hbs := hS.m
  obtain ⟨pg, hpg⟩ : ∃ p, q.S.bs.length / 64 = p := ⟨_, rfl⟩
  have hpg6 : pg ≤ 6 := by omega
  rw [hpg] at hpu
  have HPg := mpages_m HE1.out.em.st HS.out
  rw [hpg] at HPg
  have HPu := push_w HE1.out hpu (by dsimp only; omega) (by dsimp only; omega)
  rw [HNN.out] at HPu
  dsimp only at HPu
  clear hr hpu hrr h hS hB hbs hpg
  have hop : op < 256 := by omega
  clear ho
  go_enter Tryz.func277, Tryz.ntmps277
  go_wp2_with fail
  try rw [hW1]
  clear hW1
  refine (HMS _).mono ?_
  rintro en u ⟨rfl, rfl⟩
  go_wp2_with fail
  refine HPg.mono ?_
  rintro en u ⟨rfl, rfl⟩
  go_wp2_with fail
  refine HPu.mono ?_
  rintro en U8 ⟨rfl, t8, hF8⟩
  have HE8 : Hid _ := HE1.out.setTop hF8
  clear hF8
  go_wp2_with fail
  refine (HSt _).mono ?_
  rintro en u9 ⟨rfl, rfl⟩
  go_wp2
  go_ret
  refine ⟨rfl, ?_⟩
  have hE := HE8.out.end_
  rw [← HRR.out]
  exact ⟨_, hE⟩
set_option maxHeartbeats 8000000 in
theorem mgrow_w (h : Ew w0 N0 w N q g cap q0 x) (hB : FB x.1) (hn : q0.length ≤ 10) (hS : SmOk q.S) (hm0 : ¬ N.m.mod.memMin < 0) (hmr : limR N.m.mod.memMin) {op : Nat} {X Y : Int} (ho : op = 64) (hx : u32R X) (hy : u64R Y) {e : Nat} {q' : MQ} (hr : memoryM N.m.mod q x.1 ⟨op, X, Y⟩ = some (e, q')) :
    Calls Tryz.prog 277 #[.pointer (some ⟨N.xb, 0, none⟩), .pointer (some ⟨g, q0.length * 5, none⟩), .agg #[.int .u8 (op : Int), .int .u32 X, .int .u64 Y]] w (Ez w0 N0 (e : Int) q') := by
  obtain ⟨n, hnn⟩ : ∃ n, q0.length = n := ⟨_, rfl⟩
  have HNN : Hid (q0.length = n) := hnn
  rw [hnn]
  unfold memoryM at hr
  rw [if_neg hm0] at hr
  dsimp only at hr
  have hmr2 : -1 ≤ N.m.memMin ∧ N.m.memMin < 4294967296 := hmr
  have hm1 : ¬ N.m.memMin < 0 := hm0
  obtain ⟨W1, hW1⟩ : ∃ W, w.alloc (.cells #[.int .u8 (op : Int), .int .u32 X, .int .u64 Y] 129) = W := ⟨_, rfl⟩
  have hK1 : Kp (fun _ => False) w W1 := by rw [← hW1]; exact (Kp.refl _ _).alloc _
  have hC1 : C3 W1 w.heap.size (.int .u8 (op : Int)) (.int .u32 X) (.int .u64 Y) := by rw [← hW1]; exact C3.new w _ _ _ _
  have HE1 : Hid (Ew w0 N0 W1 N q g cap q0 x) := h.quiet hK1
  have HWB : Hid (¬ N.all w.heap.size) := fun hk => Nat.lt_irrefl _ (h.all_lt hk)
  have hw0 : w0.heap.size ≤ w.heap.size := h.gw.kp.size
  have HC1 : Hid _ := hC1
  have i0 := hC1.c0
  have i1 := hC1.c1
  have i2 := hC1.c2
  have HS : Hid _ := hS
  have HB : Hid _ := hB
  have HSt := fun w => stuck_m true w
  obtain ⟨x0, x1, x2, x3, x4, y3, y4, f0, f1, f2, f3, f4, fz, ap, fcp⟩ := HE1.out.cells HNN.out
  have c5 : W1.cell? ⟨N.mb, 5, none⟩ = some (.int .i64 N.m.memMin) := HE1.out.mk_.c5
  clear x2 x3 x4 y3 y4 f0 f1 f2 f3 f4 fz ap fcp hnn hK1 hC1 hmr hm0
  rw [if_neg (by omega), if_pos ho] at hr
  cases hp : popM x.1 127 with
  | none => rw [hp] at hr; simp at hr
  | some pr =>
  obtain ⟨d, r1⟩ := pr
  rw [hp] at hr
  dsimp only at hr
  obtain ⟨r', hpu, rfl, hrr⟩ := layM_some hr
  have HRR : Hid _ := hrr
  obtain ⟨hB1, hdt, hdb⟩ := HB.out.pop hp
  have HMS := fun u => memSig_e op (by omega) u
  rw [show memSig op = (0, 0, false) from by rw [ho]; rfl] at HMS
  have b63 : ((op : Int) == 63) = false := by rw [beq_eq_false_iff_ne]; omega
  have b64 : ((op : Int) == 64) = true := by rw [beq_iff_eq]; omega
  unfold encM at HMS
  dsimp only at HMS
  have HPo := pop_w HE1.out HB.out (by decide) hp
  rw [HNN.out] at HPo
  obtain ⟨dl, hdl⟩ : ∃ d', lo32 d.b = d' := ⟨_, rfl⟩
  have hdl32 : dl < 4294967296 := hdl ▸ lo32_lt _
  have hwd : IntKind.u32.wrap (d.b : Int) = (dl : Int) := by rw [w32lo, hdl]
  rw [hdl] at hpu hrr HRR
  have hgr : (growS q.S dl).1 < 4294967296 := growS_lt HS.out dl
  obtain ⟨⟨gp, gS⟩, hG⟩ : ∃ G, growS q.S dl = G := ⟨_, rfl⟩
  have HG : Hid _ := hG
  rw [hG] at hpu hrr HRR hgr
  dsimp only at hpu hrr HRR hgr
  clear hG
  have HPU : Hid _ := hpu
  clear hr hpu hrr h hS hB hp hdl
  have hop : op < 256 := by omega
  clear ho
  go_enter Tryz.func277, Tryz.ntmps277
  go_wp2_with fail
  try rw [hW1]
  clear hW1
  refine (HMS _).mono ?_
  rintro en u ⟨rfl, rfl⟩
  go_wp2_with fail
  refine HPo.mono ?_
  rintro en U2 ⟨rfl, t2, hF2⟩
  have HE2 : Hid _ := HE1.out.setTop hF2
  obtain ⟨W3, hW3⟩ : ∃ W, U2.alloc (.cells #[.int .u8 (d.t : Int), .int .u64 (d.b : Int)] 229) = W := ⟨_, rfl⟩
  have hK3 : Kp (fun _ => False) U2 W3 := by rw [← hW3]; exact (Kp.refl _ _).alloc _
  have HE3 : Hid _ := HE2.out.quiet hK3
  clear hK3
  have hV3 := Vb.new HE2.out (.int .u8 (d.t : Int)) (.int .u64 (d.b : Int)) 229
  rw [hW3] at hV3
  have HV3 : Hid _ := hV3
  clear hV3
  have b1 := HV3.out.c1
  have z1 := HE3.out.em.c.2.1
  dsimp only at z1
  clear hF2 x0 x1 c5 i0 i1 i2
  go_wp2_with fail
  try rw [hW3]
  clear hW3
  have HGr : Hid (∀ u, Kp (fun _ => False) W3 u → Calls Tryz.prog 281 #[.pointer (some ⟨N.sb, 0, none⟩), .int .u32 (dl : Int)] u (fun en w' => en = .returned (.int .u32 (gp : Int)) ∧ ∃ vm', Ms w' N.sb vm' N.vt N.vg gS ∧ Gw u w' (Mt N.sb N.vm N.vt N.vg) (Mt N.sb vm' N.vt N.vg))) := fun u hu => by
    have hms : Ms u N.sb N.vm N.vt N.vg q.S := (HE3.out.quiet hu).em.st
    have := mgrow_m hms HS.out dl hdl32
    rw [HG.out] at this
    exact this
  go_still_tail 7, (by kernel_rfl)
  go_wp2_with fail
  refine (HGr.out _ (Kp.refl _ _).drew).mono ?_
  rintro en U4 ⟨rfl, vm', hMs, hGw⟩
  have HE4 : Hid _ := (HE3.out.quiet (Kp.refl _ _).drew).store hMs hGw
  have HPu := push_w HE4.out HPU.out (by dsimp only; omega) (by dsimp only; omega)
  rw [HNN.out] at HPu
  dsimp only at HPu
  clear hMs hGw b1 z1
  go_wp2_with fail
  refine HPu.mono ?_
  rintro en U8 ⟨rfl, t8, hF8⟩
  have HE8 : Hid _ := HE4.out.setTop hF8
  clear hF8
  go_wp2_with fail
  refine (HSt _).mono ?_
  rintro en u9 ⟨rfl, rfl⟩
  go_wp2
  go_ret
  refine ⟨rfl, ?_⟩
  have hE := HE8.out.end_
  rw [← HRR.out]
  exact ⟨_, hE⟩
end
end Go.Proofs.Qxb6500275aGreatDoor
