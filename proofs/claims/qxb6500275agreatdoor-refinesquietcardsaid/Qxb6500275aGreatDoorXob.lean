import Derived.Test.Qxb6500275aGreatDoorXo8
import Derived.Test.Qxb6500275aGreatDoorRm1
set_option maxRecDepth 100000
set_option linter.unusedVariables false
set_option linter.unusedSimpArgs false
namespace Go.Proofs.Qxb6500275aGreatDoor
open Go Go.RowKit
section
variable {w0 w u : World} {N0 N : EN} {q : MQ} {g cap : Nat} {q0 q1 : List (MF × FT3)} {x b : MF × FT3}
set_option maxHeartbeats 8000000 in
theorem gget_w (h : Ew w0 N0 w N q g cap q0 x) (hM : ModOk N.m.mod) (hB : FB x.1) (hn : q0.length ≤ 10) (hS : SmOk q.S) (hgl : q.S.gl.length = N.m.mod.globals.length) {op : Nat} {X Y : Int} (ho : op = 35) (hx : u32R X) {e : Nat} {q' : MQ} (hr : globalM N.m.mod q x.1 ⟨op, X, Y⟩ = some (e, q')) :
    Calls Tryz.prog 276 #[.pointer (some ⟨N.xb, 0, none⟩), .pointer (some ⟨g, q0.length * 5, none⟩), .agg #[.int .u8 (op : Int), .int .u32 X, .int .u64 Y]] w (Ez w0 N0 (e : Int) q') := by
  obtain ⟨n, hnn⟩ : ∃ n, q0.length = n := ⟨_, rfl⟩
  have HNN : Hid (q0.length = n) := hnn
  rw [hnn]
  unfold u32R at hx
  obtain ⟨X, rfl⟩ := Int.eq_ofNat_of_zero_le hx.1
  unfold globalM at hr
  dsimp only at hr
  rw [Int.toNat_natCast] at hr
  cases hgx : N.m.mod.globals[X]? with
  | none => rw [hgx] at hr; simp at hr
  | some gb =>
  rw [hgx] at hr
  dsimp only at hr
  have hgx2 : N.m.globals[X]? = some gb := hgx
  have hXl := (List.getElem?_eq_some_iff.1 hgx).1
  have hgty := (hM.globals gb (List.mem_of_getElem? hgx)).ty
  unfold isVal at hgty
  obtain ⟨gv, hgv⟩ : ∃ v, q.S.gl[X]? = some v := ⟨_, List.getElem?_eq_getElem (by omega)⟩
  have hgvr := hS.g.2 gv (List.mem_of_getElem? hgv)
  obtain ⟨gn, rfl⟩ := Int.eq_ofNat_of_zero_le hgvr.1
  have hgd : (q.S.gl.getD X 0).toNat = gn := by rw [List.getD_eq_getElem?_getD, hgv]; rfl
  obtain ⟨W1, hW1⟩ : ∃ W, w.alloc (.cells #[.int .u8 (op : Int), .int .u32 (X : Int), .int .u64 Y] 129) = W := ⟨_, rfl⟩
  have hK1 : Kp (fun _ => False) w W1 := by rw [← hW1]; exact (Kp.refl _ _).alloc _
  have hC1 : C3 W1 w.heap.size (.int .u8 (op : Int)) (.int .u32 (X : Int)) (.int .u64 Y) := by rw [← hW1]; exact C3.new w _ _ _ _
  have HE1 : Hid (Ew w0 N0 W1 N q g cap q0 x) := h.quiet hK1
  have HWB : Hid (¬ N.all w.heap.size) := fun hk => Nat.lt_irrefl _ (h.all_lt hk)
  have HC1 : Hid _ := hC1
  have HS : Hid _ := hS
  have HB : Hid _ := hB
  have HSt := fun w => stuck_m true w
  obtain ⟨ng, hng⟩ : ∃ n, N.m.globals.length = n := ⟨_, rfl⟩
  have hng4 : ng ≤ 4 := hng ▸ hM.ng
  have hXn : X < ng := by rw [← hng]; exact hXl
  obtain ⟨gk, gc, hgsv, k1, k2, k3, k4⟩ := h.mk_.atGl hgx2
  rw [hng] at hgsv
  have HGS : Hid (N.m.vg = .slice (some ⟨gk, 0, none⟩) ng gc) := hgsv
  have HGC : Hid (∀ U, Mw U N.mb N.m → U.cell? ⟨gk, X * 5, none⟩ = some (.int .u8 (gb.ty : Int)) ∧ U.cell? ⟨gk, X * 5 + 1, none⟩ = some (.bool gb.mu) ∧ U.cell? ⟨gk, X * 5 + 2, none⟩ = some (.int .u8 (gb.init.op : Int)) ∧ U.cell? ⟨gk, X * 5 + 3, none⟩ = some (.int .u32 gb.init.x) ∧ U.cell? ⟨gk, X * 5 + 4, none⟩ = some (.int .u64 gb.init.y)) := fun U hU => by
    obtain ⟨gk', gc', hs', _, _, _, k4'⟩ := hU.atGl hgx2
    rw [hgsv, hng] at hs'
    simp at hs'
    rw [← hs'.1] at k4'
    exact ⟨k4' 0 _ rfl, k4' 1 _ rfl, k4' 2 _ rfl, k4' 3 _ rfl, k4' 4 _ rfl⟩
  have i1 : decide ((ng : Int) ≤ (X : Int)) = false := decide_eq_false (by omega)
  have i2 : (X : Int) < (ng : Int) := by omega
  have HGV : Hid _ := hgv
  have hXgl : X < q.S.gl.length := by omega
  have y0 := hC1.c0
  have y1 := hC1.c1
  have e0 : W1.cell? ⟨N.xb, 0, none⟩ = some (.pointer (some ⟨N.mb, 0, none⟩)) := HE1.out.em.c.1
  have e7 : W1.cell? ⟨N.mb, 7, none⟩ = some N.m.vg := HE1.out.mk_.c7
  rw [hgsv] at e7
  clear k4 hgx hgx2 hng hgsv hK1 hC1 h hB hS hM hnn hgv hgl hXl
  obtain ⟨gty, gmu, ⟨gop, gix, giy⟩⟩ := gb
  dsimp only at hr hgty HGC
  rw [if_pos ho, hgd] at hr
  obtain ⟨r', hpu, rfl, hrr⟩ := layM_some hr
  have HRR : Hid _ := hrr
  have HPU : Hid _ := hpu
  have hob : ((op : Int) == 35) = true := by rw [beq_iff_eq]; omega
  have HGb : Hid (∀ (W : World) (k : Nat), Ms W N.sb N.vm N.vt N.vg q.S → Calls Tryz.prog 280 #[.pointer (some ⟨N.sb, 0, none⟩), .int .i64 (X : Int)] (W.drewN k) (Qm (W.drewN k) (.tuple #[.int .u64 (gn : Int), .int .i64 0]))) := fun W k hW => mglobal_m (hW.keep ((Kp.refl (fun _ => False) W).drewM k) (fun _ _ h => h)) HS.out X HGV.out
  clear hr hrr hpu ho hgd
  go_enter Tryz.func276, Tryz.ntmps276
  go_wp2_with fail
  try rw [hW1]
  clear hW1
  go_quiet (fail)
  go_wp2_with fail
  refine wp_genX ?_
  intro U hKU
  have HEU : Hid (Ew w0 N0 U N q g cap q0 x) := HE1.out.quiet hKU
  have HCU : Hid _ := HC1.out.keep hKU (fun h => h)
  obtain ⟨v0, v1, v2, v3, v4⟩ := HGC.out U HEU.out.mk_
  have u0 := HCU.out.c0
  have u1 := HCU.out.c1
  have u2 : U.cell? ⟨N.xb, 0, none⟩ = some (.pointer (some ⟨N.mb, 0, none⟩)) := HEU.out.em.c.1
  have u3 : U.cell? ⟨N.mb, 7, none⟩ = some N.m.vg := HEU.out.mk_.c7
  rw [HGS.out] at u3
  have m1 : w.heap.size < U.heap.size := lt_of_cell u1
  have m2 : N.xb < U.heap.size := lt_of_cell u2
  have m3 : N.mb < U.heap.size := lt_of_cell u3
  have m4 : gk < U.heap.size := lt_of_cell v0
  have p1 : w.heap.size ≠ U.heap.size := by omega
  have p2 : N.xb ≠ U.heap.size := by omega
  have p3 : N.mb ≠ U.heap.size := by omega
  have p4 : gk ≠ U.heap.size := by omega
  have hK2 : Kp (fun _ => False) U ((U.alloc (.cells #[.int .u8 (gty : Int), .bool gmu, .int .u8 (gop : Int), .int .u32 gix, .int .u64 giy] 131)).drew) := ((Kp.refl _ _).alloc _).drew
  have HE2 : Hid _ := HEU.out.quiet hK2
  have HC2 : Hid _ := HCU.out.keep hK2 (fun h => h)
  have hg0 : ((U.alloc (.cells #[.int .u8 (gty : Int), .bool gmu, .int .u8 (gop : Int), .int .u32 gix, .int .u64 giy] 131)).drew).cell? ⟨U.heap.size, 0, none⟩ = some (.int .u8 (gty : Int)) := (blk_al U #[.int .u8 (gty : Int), .bool gmu, .int .u8 (gop : Int), .int .u32 gix, .int .u64 giy] 131).cell (i := 0) (by simp)
  have hg1 : ((U.alloc (.cells #[.int .u8 (gty : Int), .bool gmu, .int .u8 (gop : Int), .int .u32 gix, .int .u64 giy] 131)).drew).cell? ⟨U.heap.size, 1, none⟩ = some (.bool gmu) := (blk_al U #[.int .u8 (gty : Int), .bool gmu, .int .u8 (gop : Int), .int .u32 gix, .int .u64 giy] 131).cell (i := 1) (by simp)
  have HG0 : Hid _ := hg0
  have HG1 : Hid _ := hg1
  have HUF : Hid (¬ N.all U.heap.size) := fun hk => Nat.lt_irrefl _ (HEU.out.all_lt hk)
  clear hKU hK2 y0 y1 e0 e7 hg0 hg1
  go_region
  go_wp2_with fail
  clear u0 u1 u2 u3 v0 v1 v2 v3 v4 p1 p2 p3 p4
  generalize (U.alloc (.cells #[.int .u8 (gty : Int), .bool gmu, .int .u8 (gop : Int), .int .u32 gix, .int .u64 giy] 131)).drew = W2 at HE2 HC2 HG0 HG1 ⊢
  have g0 := HG0.out
  have g1 := HG1.out
  have c0 := HC2.out.c0
  have c1 := HC2.out.c1
  have z1 : W2.cell? ⟨N.xb, 1, none⟩ = some (.pointer (some ⟨N.sb, 0, none⟩)) := HE2.out.em.c.2.1
  go_wp2_with fail
  go_quiet ((go_at_call 280; exact Calls.quiet_of_same (HGb.out _ _ HE2.out.em.st)))
  go_wp2_with fail
  have HPP : Hid (∀ k, _) := fun k => push_w (HE2.out.quiet ((Kp.refl _ _).drewM k)) HPU.out (by dsimp only; omega) (by dsimp only; omega)
  rw [HNN.out] at HPP
  dsimp only at HPP
  refine (HPP.out _).mono ?_
  rintro en U8 ⟨rfl, t8, hF8⟩
  have HE8 : Hid _ := (HE2.out.quiet ((Kp.refl _ _).drewM _)).setTop hF8
  clear hF8
  go_wp2_with fail
  refine (HSt _).mono ?_
  rintro en u9 ⟨rfl, rfl⟩
  go_wp2
  go_ret
  refine ⟨rfl, ?_⟩
  have hE := HE8.out.end_
  rw [← HRR.out]
  exact ⟨_, hE⟩
set_option maxHeartbeats 8000000 in
theorem gset_w (h : Ew w0 N0 w N q g cap q0 x) (hM : ModOk N.m.mod) (hB : FB x.1) (hn : q0.length ≤ 10) (hS : SmOk q.S) (hgl : q.S.gl.length = N.m.mod.globals.length) {op : Nat} {X Y : Int} (ho : op = 36) (hx : u32R X) {e : Nat} {q' : MQ} (hr : globalM N.m.mod q x.1 ⟨op, X, Y⟩ = some (e, q')) :
    Calls Tryz.prog 276 #[.pointer (some ⟨N.xb, 0, none⟩), .pointer (some ⟨g, q0.length * 5, none⟩), .agg #[.int .u8 (op : Int), .int .u32 X, .int .u64 Y]] w (Ez w0 N0 (e : Int) q') := by
  obtain ⟨n, hnn⟩ : ∃ n, q0.length = n := ⟨_, rfl⟩
  have HNN : Hid (q0.length = n) := hnn
  rw [hnn]
  unfold u32R at hx
  obtain ⟨X, rfl⟩ := Int.eq_ofNat_of_zero_le hx.1
  unfold globalM at hr
  dsimp only at hr
  rw [Int.toNat_natCast] at hr
  cases hgx : N.m.mod.globals[X]? with
  | none => rw [hgx] at hr; simp at hr
  | some gb =>
  rw [hgx] at hr
  dsimp only at hr
  have hgx2 : N.m.globals[X]? = some gb := hgx
  have hXl := (List.getElem?_eq_some_iff.1 hgx).1
  have hgty := (hM.globals gb (List.mem_of_getElem? hgx)).ty
  unfold isVal at hgty
  obtain ⟨gv, hgv⟩ : ∃ v, q.S.gl[X]? = some v := ⟨_, List.getElem?_eq_getElem (by omega)⟩
  have hgvr := hS.g.2 gv (List.mem_of_getElem? hgv)
  obtain ⟨gn, rfl⟩ := Int.eq_ofNat_of_zero_le hgvr.1
  have hgd : (q.S.gl.getD X 0).toNat = gn := by rw [List.getD_eq_getElem?_getD, hgv]; rfl
  obtain ⟨W1, hW1⟩ : ∃ W, w.alloc (.cells #[.int .u8 (op : Int), .int .u32 (X : Int), .int .u64 Y] 129) = W := ⟨_, rfl⟩
  have hK1 : Kp (fun _ => False) w W1 := by rw [← hW1]; exact (Kp.refl _ _).alloc _
  have hC1 : C3 W1 w.heap.size (.int .u8 (op : Int)) (.int .u32 (X : Int)) (.int .u64 Y) := by rw [← hW1]; exact C3.new w _ _ _ _
  have HE1 : Hid (Ew w0 N0 W1 N q g cap q0 x) := h.quiet hK1
  have HWB : Hid (¬ N.all w.heap.size) := fun hk => Nat.lt_irrefl _ (h.all_lt hk)
  have HC1 : Hid _ := hC1
  have HS : Hid _ := hS
  have HB : Hid _ := hB
  have HSt := fun w => stuck_m true w
  obtain ⟨ng, hng⟩ : ∃ n, N.m.globals.length = n := ⟨_, rfl⟩
  have hng4 : ng ≤ 4 := hng ▸ hM.ng
  have hXn : X < ng := by rw [← hng]; exact hXl
  obtain ⟨gk, gc, hgsv, k1, k2, k3, k4⟩ := h.mk_.atGl hgx2
  rw [hng] at hgsv
  have HGS : Hid (N.m.vg = .slice (some ⟨gk, 0, none⟩) ng gc) := hgsv
  have HGC : Hid (∀ U, Mw U N.mb N.m → U.cell? ⟨gk, X * 5, none⟩ = some (.int .u8 (gb.ty : Int)) ∧ U.cell? ⟨gk, X * 5 + 1, none⟩ = some (.bool gb.mu) ∧ U.cell? ⟨gk, X * 5 + 2, none⟩ = some (.int .u8 (gb.init.op : Int)) ∧ U.cell? ⟨gk, X * 5 + 3, none⟩ = some (.int .u32 gb.init.x) ∧ U.cell? ⟨gk, X * 5 + 4, none⟩ = some (.int .u64 gb.init.y)) := fun U hU => by
    obtain ⟨gk', gc', hs', _, _, _, k4'⟩ := hU.atGl hgx2
    rw [hgsv, hng] at hs'
    simp at hs'
    rw [← hs'.1] at k4'
    exact ⟨k4' 0 _ rfl, k4' 1 _ rfl, k4' 2 _ rfl, k4' 3 _ rfl, k4' 4 _ rfl⟩
  have i1 : decide ((ng : Int) ≤ (X : Int)) = false := decide_eq_false (by omega)
  have i2 : (X : Int) < (ng : Int) := by omega
  have HGV : Hid _ := hgv
  have hXgl : X < q.S.gl.length := by omega
  have y0 := hC1.c0
  have y1 := hC1.c1
  have e0 : W1.cell? ⟨N.xb, 0, none⟩ = some (.pointer (some ⟨N.mb, 0, none⟩)) := HE1.out.em.c.1
  have e7 : W1.cell? ⟨N.mb, 7, none⟩ = some N.m.vg := HE1.out.mk_.c7
  rw [hgsv] at e7
  clear k4 hgx hgx2 hng hgsv hK1 hC1 h hB hS hM hnn hgv hgl hXl
  obtain ⟨gty, gmu, ⟨gop, gix, giy⟩⟩ := gb
  dsimp only at hr hgty HGC
  rw [if_neg (by omega)] at hr
  cases hp : popM x.1 gty with
  | none => rw [hp] at hr; simp at hr
  | some pr =>
  obtain ⟨v, r1⟩ := pr
  rw [hp] at hr
  dsimp only at hr
  cases gmu with
  | false => simp at hr
  | true =>
  simp at hr
  obtain ⟨rfl, hrr⟩ := hr
  have HRR : Hid _ := hrr
  obtain ⟨hB1, hvt, hvb⟩ := HB.out.pop hp
  have HPOP : Hid _ := hp
  have hob : ((op : Int) == 35) = false := by rw [beq_eq_false_iff_ne]; omega
  have HSg : Hid (∀ W : World, Ms W N.sb N.vm N.vt N.vg q.S → Calls Tryz.prog 193 #[.pointer (some ⟨N.sb, 0, none⟩), .int .i64 (X : Int), .int .u64 (v.b : Int)] W (Sr N.sb N.vm N.vt N.vg W (0, { q.S with gl := q.S.gl.set X (v.b : Int) }))) := fun W hW => msetGlobal_m hW HS.out X hXgl (v.b : Int)
  clear hrr hp ho hgd hB1
  go_enter Tryz.func276, Tryz.ntmps276
  go_wp2_with fail
  try rw [hW1]
  clear hW1
  go_quiet (fail)
  go_wp2_with fail
  refine wp_genX ?_
  intro U hKU
  have HEU : Hid (Ew w0 N0 U N q g cap q0 x) := HE1.out.quiet hKU
  have HCU : Hid _ := HC1.out.keep hKU (fun h => h)
  obtain ⟨v0, v1, v2, v3, v4⟩ := HGC.out U HEU.out.mk_
  have u0 := HCU.out.c0
  have u1 := HCU.out.c1
  have u2 : U.cell? ⟨N.xb, 0, none⟩ = some (.pointer (some ⟨N.mb, 0, none⟩)) := HEU.out.em.c.1
  have u3 : U.cell? ⟨N.mb, 7, none⟩ = some N.m.vg := HEU.out.mk_.c7
  rw [HGS.out] at u3
  have m1 : w.heap.size < U.heap.size := lt_of_cell u1
  have m2 : N.xb < U.heap.size := lt_of_cell u2
  have m3 : N.mb < U.heap.size := lt_of_cell u3
  have m4 : gk < U.heap.size := lt_of_cell v0
  have p1 : w.heap.size ≠ U.heap.size := by omega
  have p2 : N.xb ≠ U.heap.size := by omega
  have p3 : N.mb ≠ U.heap.size := by omega
  have p4 : gk ≠ U.heap.size := by omega
  have hK2 : Kp (fun _ => False) U ((U.alloc (.cells #[.int .u8 (gty : Int), .bool true, .int .u8 (gop : Int), .int .u32 gix, .int .u64 giy] 131)).drew) := ((Kp.refl _ _).alloc _).drew
  have HE2 : Hid _ := HEU.out.quiet hK2
  have HC2 : Hid _ := HCU.out.keep hK2 (fun h => h)
  have hg0 : ((U.alloc (.cells #[.int .u8 (gty : Int), .bool true, .int .u8 (gop : Int), .int .u32 gix, .int .u64 giy] 131)).drew).cell? ⟨U.heap.size, 0, none⟩ = some (.int .u8 (gty : Int)) := (blk_al U #[.int .u8 (gty : Int), .bool true, .int .u8 (gop : Int), .int .u32 gix, .int .u64 giy] 131).cell (i := 0) (by simp)
  have hg1 : ((U.alloc (.cells #[.int .u8 (gty : Int), .bool true, .int .u8 (gop : Int), .int .u32 gix, .int .u64 giy] 131)).drew).cell? ⟨U.heap.size, 1, none⟩ = some (.bool true) := (blk_al U #[.int .u8 (gty : Int), .bool true, .int .u8 (gop : Int), .int .u32 gix, .int .u64 giy] 131).cell (i := 1) (by simp)
  have HG0 : Hid _ := hg0
  have HG1 : Hid _ := hg1
  have HUF : Hid (¬ N.all U.heap.size) := fun hk => Nat.lt_irrefl _ (HEU.out.all_lt hk)
  clear hKU hK2 y0 y1 e0 e7 hg0 hg1
  go_region
  go_wp2_with fail
  clear u0 u1 u2 u3 v0 v1 v2 v3 v4 p1 p2 p3 p4
  generalize (U.alloc (.cells #[.int .u8 (gty : Int), .bool true, .int .u8 (gop : Int), .int .u32 gix, .int .u64 giy] 131)).drew = W2 at HE2 HC2 HG0 HG1 ⊢
  have g0 := HG0.out
  have g1 := HG1.out
  have c0 := HC2.out.c0
  have c1 := HC2.out.c1
  have z1 : W2.cell? ⟨N.xb, 1, none⟩ = some (.pointer (some ⟨N.sb, 0, none⟩)) := HE2.out.em.c.2.1
  have HPo := pop_w HE2.out HB.out (by omega) HPOP.out
  rw [HNN.out] at HPo
  go_wp2_with fail
  refine HPo.mono ?_
  rintro en U4 ⟨rfl, t4, hF4⟩
  have HE4 : Hid _ := HE2.out.setTop hF4
  have hg4 := HE2.out.topGw hF4
  have HC4 : Hid _ := HC2.out.keep hg4.kp HWB.out
  have a1 : U4.cell? ⟨U.heap.size, 1, none⟩ = some (.bool true) := (hg4.kp.cell (p := ⟨U.heap.size, 1, none⟩) (lt_of_cell HG1.out) HUF.out).trans HG1.out
  have hul : U.heap.size < U4.heap.size := lt_of_cell a1
  obtain ⟨W5, hW5⟩ : ∃ W, U4.alloc (.cells #[.int .u8 (v.t : Int), .int .u64 (v.b : Int)] 229) = W := ⟨_, rfl⟩
  have hK5 : Kp (fun _ => False) U4 W5 := by rw [← hW5]; exact (Kp.refl _ _).alloc _
  have HE5 : Hid _ := HE4.out.quiet hK5
  have hV5 := Vb.new HE4.out (.int .u8 (v.t : Int)) (.int .u64 (v.b : Int)) 229
  rw [hW5] at hV5
  have b1 := hV5.c1
  have a5 : W5.cell? ⟨U.heap.size, 1, none⟩ = some (.bool true) := (hK5.cell (p := ⟨U.heap.size, 1, none⟩) hul (fun h => h)).trans a1
  have j1 := (HC4.out.keep hK5 (fun h => h)).c1
  have z5 := HE5.out.em.c.2.1
  dsimp only at z5
  clear hF4 hV5 hK5 hg4 g0 g1 c0 c1 z1 a1
  go_wp2_with fail
  try rw [hW5]
  clear hW5
  go_still_tail 9, (by kernel_rfl)
  go_wp2_with fail
  refine (HSg.out _ (HE5.out.quiet (Kp.refl _ _).drew).em.st).mono ?_
  rintro en U6 ⟨rfl, hK6, hM6⟩
  have HE6 : Hid _ := (HE5.out.quiet (Kp.refl _ _).drew).store hM6 (Gw.same hK6)
  clear hK6 hM6 b1 a5 j1 z5
  go_wp2
  go_ret
  refine ⟨rfl, ?_⟩
  have hE := HE6.out.end_
  rw [← HRR.out]
  exact ⟨_, hE⟩
end
end Go.Proofs.Qxb6500275aGreatDoor
