import Derived.Test.Qxb6500275aGreatDoorXom
import Derived.Test.Qxb6500275aGreatDoorXoa
import Derived.Test.Qxb6500275aGreatDoorXo9
import Derived.Test.Qxb6500275aGreatDoorXob
import Derived.Test.Qxb6500275aGreatDoorXo7
set_option maxRecDepth 100000
set_option linter.unusedVariables false
set_option linter.unusedSimpArgs false
namespace Go.Proofs.Qxb6500275aGreatDoor
open Go Go.RowKit
section
variable {w0 w u : World} {N0 N : EN} {q : MQ} {g cap : Nat} {q0 q1 : List (MF × FT3)} {x b : MF × FT3} {num : NumF0}
set_option maxHeartbeats 16000000 in
theorem dd_17 (h : Ew w0 N0 w N q g cap q0 x) (hB : FB x.1) {y : Fn × Value × Value} {X Y : Int} (hM : ModOk N.m.mod) (hn : q0.length ≤ 10) (hS : SmOk q.S) (hH : HmOk q.H) (hbd : q.H.bd.length = N.m.mod.imports.length) (htab : ∀ x, x ∈ q.S.tab → x < ((N.m.mod.imports.length + N.m.mod.funcs.length : Nat) : Int)) (hx : u32R X) (hy : u64R Y) {e : Nat} {q' : MQ} (hr : deedM num N.m.mod y.1 q ⟨17, X, Y⟩ = some (e, q')) :
    Calls Tryz.prog 261 #[.pointer (some ⟨N.xb, 0, none⟩), .pointer (some ⟨g, q0.length * 5, none⟩), y.2.1, .agg #[.int .u8 17, .int .u32 X, .int .u64 Y]] w (Ez w0 N0 (e : Int) q') := by
  unfold deedM at hr
  rw [h.fr] at hr
  dsimp only at hr
  obtain ⟨n, hnn⟩ : ∃ n, q0.length = n := ⟨_, rfl⟩
  have HNN : Hid (q0.length = n) := hnn
  rw [hnn]
  obtain ⟨yb, hyb⟩ : ∃ v, y.2.1 = v := ⟨_, rfl⟩
  have HYB : Hid _ := hyb
  rw [hyb]
  have HW : Hid (Ew w0 N0 w N q g cap q0 x) := h
  have HB : Hid _ := hB
  have HAL : Hid (∀ U, Kp (fun _ => False) w U → Ew w0 N0 U N q g cap q0 x) := fun U hU => h.quiet hU
  iterate 8 rw [if_neg (by decide)] at hr
  rw [if_pos rfl] at hr
  cases hp1 : popM x.1 127 with
  | none => rw [hp1] at hr; simp at hr
  | some pr =>
  obtain ⟨c, r1⟩ := pr
  rw [hp1] at hr
  dsimp only at hr
  have hb1 := hB.pop hp1
  obtain ⟨a, rfl⟩ : ∃ f : Nat, X = (f : Int) := ⟨X.toNat, by have := hx.1; omega⟩
  rw [show ((a : Int)).toNat = a from rfl] at hr
  cases hty : N.m.mod.types[a]? with
  | none => rw [hty] at hr; simp at hr
  | some u1 =>
  rw [hty] at hr
  dsimp only at hr
  have hcb := hb1.2.2
  obtain ⟨dl, hdl⟩ : ∃ d', lo32 c.b = d' := ⟨_, rfl⟩
  have hdl32 : dl < 4294967296 := hdl ▸ lo32_lt _
  have hwd : IntKind.u32.wrap (c.b : Int) = (dl : Int) := by rw [w32lo, hdl]
  rw [hdl] at hr
  obtain ⟨⟨fi, ee⟩, hel⟩ : ∃ p, elemS q.S dl = p := ⟨_, rfl⟩
  rw [hel] at hr
  dsimp only at hr
  have hee : ee = 0 ∨ ee = 43 := by
    unfold elemS at hel
    split at hel
    · simp at hel; omega
    · rcases iteC hel with ⟨_, hel⟩ | ⟨_, hel⟩ <;> simp at hel <;> omega
  have HEl : Hid (∀ (W : World) (k : Nat), Ms W N.sb N.vm N.vt N.vg q.S → Calls Tryz.prog 274 #[.pointer (some ⟨N.sb, 0, none⟩), .int .u32 (dl : Int)] (W.drewN k) (Qm (W.drewN k) (.tuple #[.int .i64 fi, .int .i64 (ee : Int)]))) := fun W k hW => by
    have := melem_m (hW.keep ((Kp.refl (fun _ => False) W).drewM k) (fun _ _ h => h)) hS dl hdl32
    rw [hel] at this
    exact this
  have HTY : Hid (N.m.types[a]? = some u1) := hty
  obtain ⟨us, hus⟩ : ∃ s, u1.text = s := ⟨_, rfl⟩
  have HP1 : Hid (∀ U, Kp (fun _ => False) w U → Calls Tryz.prog 257 #[.pointer (some ⟨g, n * 5, none⟩), .int .u8 127] U (Po2 w0 N0 N q g cap q0 x.1 x.2 c r1 U)) := fun U hU => pop_2 HNN.out (HAL.out U hU).same hB (want := 127) (by omega) hp1
  have HNA : Hid (¬ ({ N with fs := q0 ++ [(x.1, x.2)] } : EN).all w.heap.size) := fun hk => Nat.lt_irrefl _ (h.same.all_lt hk)
  have ha32 := hx.2
  have HNT : Hid (N.m.types.length ≤ 8) := hM.nt
  by_cases he0 : ee ≠ 0
  · rw [if_pos he0] at hr
    simp only [Option.some.injEq, Prod.mk.injEq] at hr
    obtain ⟨rfl, hq⟩ := hr
    have HQ : Hid _ := hq
    obtain rfl : ee = 43 := by omega
    clear h hB hnn hyb hM hp1 hb1 hty hdl hel hee hS hH hbd htab he0 hq hx hy
    go_enter Tryz.func261, Tryz.ntmps261
    go_wp2_with fail
    refine (HP1.out _ ((Kp.refl _ _).alloc _)).mono ?_
    rintro en3 U1 ⟨rfl, t1, HE1, HG1⟩
    have hI := (C3.new w (.int .u8 17) (.int .u32 (a : Int)) (.int .u64 Y) 129).keep HG1.out.kp HNA.out
    have hV := Vb.new HE1.out (.int .u8 (c.t : Int)) (.int .u64 (c.b : Int)) 229
    obtain ⟨W, hW⟩ : ∃ W, U1.alloc (.cells #[.int .u8 (c.t : Int), .int .u64 (c.b : Int)] 229) = W := ⟨_, rfl⟩
    have hKW : Kp (fun _ => False) U1 W := by rw [← hW]; exact (Kp.refl _ _).alloc _
    have HEW : Hid _ := HE1.out.quiet hKW
    rw [hW] at hV
    have hIW := hI.keep hKW (fun h => h)
    have i1 := hIW.c1
    have b1 := hV.c1
    obtain ⟨x0, x1, x2, x3, x4, y3, y4, f0, f1, f2, f3, f4, fz, ap, fcp⟩ := HEW.out.cells HNN.out
    dsimp only at x0 x1
    obtain ⟨tg, tcap, tv, g1, g2, g3, tc⟩ := HEW.out.mk_.atTy HTY.out
    have m0 := HEW.out.mk_.c0
    dsimp only at m0 tv g2
    obtain ⟨nt, hnt⟩ : ∃ n, N.m.types.length = n := ⟨_, rfl⟩
    have hnt8 : nt ≤ 8 := hnt ▸ HNT.out
    have han : a < nt := by rw [← hnt]; exact (List.getElem?_eq_some_iff.1 HTY.out).1
    rw [tv, hnt] at m0
    have z0 := tc 0 (.string u1.text) rfl
    rw [hus, Nat.mul_one, Nat.add_zero] at z0
    have hai : (a : Int) < (nt : Int) := by omega
    have hgf : nt ≤ tcap := by rw [← hnt]; exact g2
    have hwa : IntKind.u64.wrap (a : Int) = (a : Int) := by simp [IntKind.wrap, IntKind.bits, IntKind.signed]; omega
    have hwn : IntKind.u64.wrap (nt : Int) = (nt : Int) := by simp [IntKind.wrap, IntKind.bits, IntKind.signed]; omega
    have hdc : decide (nt ≤ a) = false := decide_eq_false (by omega)
    clear x2 x3 x4 y3 y4 f0 f1 f2 f3 f4 fz ap fcp hI hIW hV tc tv g2 hnt HG1 hKW
    go_wp2_with fail
    try rw [hW]
    clear hW
    go_quiet (fail)
    try rw [hdc]
    clear hwa hwn hdc
    go_wp2_with fail
    refine wp_genX ?_
    intro W2 hK2
    have HE2 : Hid _ := HEW.out.quiet hK2
    have kc : ∀ b j v, W.cell? ⟨b, j, none⟩ = some v → W2.cell? ⟨b, j, none⟩ = some v := fun b j v e => (hK2.cell (p := ⟨b, j, none⟩) (lt_of_cell e) (fun h => h)).trans e
    replace x0 := kc _ _ _ x0
    replace x1 := kc _ _ _ x1
    replace b1 := kc _ _ _ b1
    replace i1 := kc _ _ _ i1
    replace m0 := kc _ _ _ m0
    replace z0 := kc _ _ _ z0
    clear kc hK2
    go_quiet ((go_at_call 274; exact Calls.quiet_of_same (HEl.out _ _ HE2.out.em.st)))
    go_wp2
    go_ret
    refine ⟨rfl, ?_⟩
    rw [← HQ.out]
    exact ⟨_, (HE2.out.quiet ((Kp.refl _ _).drewM _)).end_⟩
  · rw [if_neg he0] at hr
    obtain rfl : ee = 0 := by omega
    cases hto : N.m.mod.typeOf fi with
    | none => rw [hto] at hr; simp at hr
    | some t =>
    rw [hto] at hr
    dsimp only at hr
    have hfr := typeOf_range hto
    obtain ⟨f, rfl⟩ : ∃ f : Nat, fi = (f : Int) := ⟨fi.toNat, by omega⟩
    rw [show ((f : Int)).toNat = f from rfl] at hr
    have hni := hM.ni
    have hnf := hM.nf
    have hf12 : f < 1000 := by omega
    have HT : Hid (∀ U, Mw U N.mb N.m → Calls Tryz.prog 85 #[.pointer (some ⟨N.mb, 0, none⟩), .int .i64 (f : Int)] U (fun en w' => en = .returned (.tuple #[.string t.text, .bool true]) ∧ Kp (fun _ => False) U w')) := fun U hU => by
      have := typeOf_m hU hM (f : Int) (by omega)
      rw [hto] at this
      exact this.mono (fun en w' ⟨h1, k, h2⟩ => ⟨h1, by rw [h2]; exact (Kp.refl _ _).drewM k⟩)
    obtain ⟨ts, hts⟩ : ∃ s, t.text = s := ⟨_, rfl⟩
    rw [hts] at HT
    rw [hts, hus] at hr
    by_cases htu : ts = us
    · rw [if_pos htu] at hr
      have HC : Hid (∀ U t', Ew w0 N0 U { N with fs := q0 ++ [(r1, t')] } (q.top r1) g cap q0 (r1, t') → Calls Tryz.prog 198 #[.pointer (some ⟨N.xb, 0, none⟩), .int .i64 (f : Int)] U (Ez w0 N0 (e : Int) q')) := fun U t' hU => call_w hU hM hb1.1 hn hS hH hbd hf12 hr
      subst htu
      clear h hB hnn hyb hM hp1 hb1 hty hdl hel hee hS hH hbd htab he0 hx hy hr hto hfr hni hnf hts
      go_enter Tryz.func261, Tryz.ntmps261
      go_wp2_with fail
      refine (HP1.out _ ((Kp.refl _ _).alloc _)).mono ?_
      rintro en3 U1 ⟨rfl, t1, HE1, HG1⟩
      have hI := (C3.new w (.int .u8 17) (.int .u32 (a : Int)) (.int .u64 Y) 129).keep HG1.out.kp HNA.out
      have hV := Vb.new HE1.out (.int .u8 (c.t : Int)) (.int .u64 (c.b : Int)) 229
      obtain ⟨W, hW⟩ : ∃ W, U1.alloc (.cells #[.int .u8 (c.t : Int), .int .u64 (c.b : Int)] 229) = W := ⟨_, rfl⟩
      have hKW : Kp (fun _ => False) U1 W := by rw [← hW]; exact (Kp.refl _ _).alloc _
      have HEW : Hid _ := HE1.out.quiet hKW
      rw [hW] at hV
      have hIW := hI.keep hKW (fun h => h)
      have i1 := hIW.c1
      have b1 := hV.c1
      obtain ⟨x0, x1, x2, x3, x4, y3, y4, f0, f1, f2, f3, f4, fz, ap, fcp⟩ := HEW.out.cells HNN.out
      dsimp only at x0 x1
      obtain ⟨tg, tcap, tv, g1, g2, g3, tc⟩ := HEW.out.mk_.atTy HTY.out
      have m0 := HEW.out.mk_.c0
      dsimp only at m0 tv g2
      obtain ⟨nt, hnt⟩ : ∃ n, N.m.types.length = n := ⟨_, rfl⟩
      have hnt8 : nt ≤ 8 := hnt ▸ HNT.out
      have han : a < nt := by rw [← hnt]; exact (List.getElem?_eq_some_iff.1 HTY.out).1
      rw [tv, hnt] at m0
      have z0 := tc 0 (.string u1.text) rfl
      rw [hus, Nat.mul_one, Nat.add_zero] at z0
      have hai : (a : Int) < (nt : Int) := by omega
      have hgf : nt ≤ tcap := by rw [← hnt]; exact g2
      have hwa : IntKind.u64.wrap (a : Int) = (a : Int) := by simp [IntKind.wrap, IntKind.bits, IntKind.signed]; omega
      have hwn : IntKind.u64.wrap (nt : Int) = (nt : Int) := by simp [IntKind.wrap, IntKind.bits, IntKind.signed]; omega
      have hdc : decide (nt ≤ a) = false := decide_eq_false (by omega)
      clear x2 x3 x4 y3 y4 f0 f1 f2 f3 f4 fz ap fcp hI hIW hV tc tv g2 hnt HG1 hKW
      go_wp2_with fail
      try rw [hW]
      clear hW
      go_quiet (fail)
      try rw [hdc]
      clear hwa hwn hdc
      go_wp2_with fail
      refine wp_genX ?_
      intro W2 hK2
      have HE2 : Hid _ := HEW.out.quiet hK2
      have kc : ∀ b j v, W.cell? ⟨b, j, none⟩ = some v → W2.cell? ⟨b, j, none⟩ = some v := fun b j v e => (hK2.cell (p := ⟨b, j, none⟩) (lt_of_cell e) (fun h => h)).trans e
      replace x0 := kc _ _ _ x0
      replace x1 := kc _ _ _ x1
      replace b1 := kc _ _ _ b1
      replace i1 := kc _ _ _ i1
      replace m0 := kc _ _ _ m0
      replace z0 := kc _ _ _ z0
      clear kc hK2
      go_quiet ((go_at_call 274; exact Calls.quiet_of_same (HEl.out _ _ HE2.out.em.st)))
      go_wp2_with fail
      refine (HT.out _ (HE2.out.quiet ((Kp.refl _ _).drewM _)).mk_).mono ?_
      rintro en4 W3 ⟨rfl, hK3⟩
      have HE3 : Hid _ := (HE2.out.quiet ((Kp.refl _ _).drewM _)).quiet hK3
      have kc : ∀ b j v, W2.cell? ⟨b, j, none⟩ = some v → W3.cell? ⟨b, j, none⟩ = some v := fun b j v e => ((((Kp.refl (fun _ => False) W2).drewM _).trans hK3).cell (p := ⟨b, j, none⟩) (lt_of_cell e) (fun h => h)).trans e
      replace x0 := kc _ _ _ x0
      replace i1 := kc _ _ _ i1
      replace m0 := kc _ _ _ m0
      replace z0 := kc _ _ _ z0
      clear kc hK3 x1 b1
      go_wp2_with fail
      go_quiet (fail)
      go_wp2_with fail
      refine (HC.out _ t1 (HE3.out.quiet ((Kp.refl _ _).drewM _))).mono ?_
      rintro en5 u9 ⟨rfl, HZ⟩
      go_wp2
      go_ret
      exact ⟨rfl, HZ⟩
    · rw [if_neg htu] at hr
      simp only [Option.some.injEq, Prod.mk.injEq] at hr
      obtain ⟨rfl, hq⟩ := hr
      have HQ : Hid _ := hq
      have hte : (ts.toList == us.toList) = false := by rw [beq_eq_false_iff_ne]; intro h; exact htu (bytes_ext h)
      have hte2 : (ts.toList != us.toList) = true := by simp [bne, hte]
      clear htu hq
      clear h hB hnn hyb hM hp1 hb1 hty hdl hel hee hS hH hbd htab he0 hx hy hto hfr hni hnf hts
      go_enter Tryz.func261, Tryz.ntmps261
      go_wp2_with fail
      refine (HP1.out _ ((Kp.refl _ _).alloc _)).mono ?_
      rintro en3 U1 ⟨rfl, t1, HE1, HG1⟩
      have hI := (C3.new w (.int .u8 17) (.int .u32 (a : Int)) (.int .u64 Y) 129).keep HG1.out.kp HNA.out
      have hV := Vb.new HE1.out (.int .u8 (c.t : Int)) (.int .u64 (c.b : Int)) 229
      obtain ⟨W, hW⟩ : ∃ W, U1.alloc (.cells #[.int .u8 (c.t : Int), .int .u64 (c.b : Int)] 229) = W := ⟨_, rfl⟩
      have hKW : Kp (fun _ => False) U1 W := by rw [← hW]; exact (Kp.refl _ _).alloc _
      have HEW : Hid _ := HE1.out.quiet hKW
      rw [hW] at hV
      have hIW := hI.keep hKW (fun h => h)
      have i1 := hIW.c1
      have b1 := hV.c1
      obtain ⟨x0, x1, x2, x3, x4, y3, y4, f0, f1, f2, f3, f4, fz, ap, fcp⟩ := HEW.out.cells HNN.out
      dsimp only at x0 x1
      obtain ⟨tg, tcap, tv, g1, g2, g3, tc⟩ := HEW.out.mk_.atTy HTY.out
      have m0 := HEW.out.mk_.c0
      dsimp only at m0 tv g2
      obtain ⟨nt, hnt⟩ : ∃ n, N.m.types.length = n := ⟨_, rfl⟩
      have hnt8 : nt ≤ 8 := hnt ▸ HNT.out
      have han : a < nt := by rw [← hnt]; exact (List.getElem?_eq_some_iff.1 HTY.out).1
      rw [tv, hnt] at m0
      have z0 := tc 0 (.string u1.text) rfl
      rw [hus, Nat.mul_one, Nat.add_zero] at z0
      have hai : (a : Int) < (nt : Int) := by omega
      have hgf : nt ≤ tcap := by rw [← hnt]; exact g2
      have hwa : IntKind.u64.wrap (a : Int) = (a : Int) := by simp [IntKind.wrap, IntKind.bits, IntKind.signed]; omega
      have hwn : IntKind.u64.wrap (nt : Int) = (nt : Int) := by simp [IntKind.wrap, IntKind.bits, IntKind.signed]; omega
      have hdc : decide (nt ≤ a) = false := decide_eq_false (by omega)
      clear x2 x3 x4 y3 y4 f0 f1 f2 f3 f4 fz ap fcp hI hIW hV tc tv g2 hnt HG1 hKW
      go_wp2_with fail
      try rw [hW]
      clear hW
      go_quiet (fail)
      try rw [hdc]
      clear hwa hwn hdc
      go_wp2_with fail
      refine wp_genX ?_
      intro W2 hK2
      have HE2 : Hid _ := HEW.out.quiet hK2
      have kc : ∀ b j v, W.cell? ⟨b, j, none⟩ = some v → W2.cell? ⟨b, j, none⟩ = some v := fun b j v e => (hK2.cell (p := ⟨b, j, none⟩) (lt_of_cell e) (fun h => h)).trans e
      replace x0 := kc _ _ _ x0
      replace x1 := kc _ _ _ x1
      replace b1 := kc _ _ _ b1
      replace i1 := kc _ _ _ i1
      replace m0 := kc _ _ _ m0
      replace z0 := kc _ _ _ z0
      clear kc hK2
      go_quiet ((go_at_call 274; exact Calls.quiet_of_same (HEl.out _ _ HE2.out.em.st)))
      go_wp2_with fail
      refine (HT.out _ (HE2.out.quiet ((Kp.refl _ _).drewM _)).mk_).mono ?_
      rintro en4 W3 ⟨rfl, hK3⟩
      have HE3 : Hid _ := (HE2.out.quiet ((Kp.refl _ _).drewM _)).quiet hK3
      have kc : ∀ b j v, W2.cell? ⟨b, j, none⟩ = some v → W3.cell? ⟨b, j, none⟩ = some v := fun b j v e => ((((Kp.refl (fun _ => False) W2).drewM _).trans hK3).cell (p := ⟨b, j, none⟩) (lt_of_cell e) (fun h => h)).trans e
      replace x0 := kc _ _ _ x0
      replace i1 := kc _ _ _ i1
      replace m0 := kc _ _ _ m0
      replace z0 := kc _ _ _ z0
      clear kc hK3 x1 b1
      go_wp2_with fail
      go_quiet (fail)
      go_wp2_with fail
      go_ret
      refine ⟨rfl, ?_⟩
      rw [← HQ.out]
      exact ⟨_, (HE3.out.quiet ((Kp.refl _ _).drewM _)).end_⟩
end
end Go.Proofs.Qxb6500275aGreatDoor
