import Derived.Test.Qxb6500275aGreatDoorXom
import Derived.Test.Qxb6500275aGreatDoorXoa
import Derived.Test.Qxb6500275aGreatDoorXo9
import Derived.Test.Qxb6500275aGreatDoorXob
import Derived.Test.Qxb6500275aGreatDoorXo7
set_option maxRecDepth 100000
set_option linter.unusedVariables false
set_option linter.unusedSimpArgs false
namespace Go.Proofs.Qxb6500275aGreatDoor
open Go Go.RowKit
section
variable {w0 w u : World} {N0 N : EN} {q : MQ} {g cap : Nat} {q0 q1 : List (MF × FT3)} {x b : MF × FT3} {num : NumF0}
theorem matchL_els : ∀ (l : List Ins) (j d : Nat) (e : Int) (B : Nat), -1 ≤ e → e < (B : Int) → j + l.length ≤ B → -1 ≤ (matchL l j d e).2 ∧ (matchL l j d e).2 < (B : Int)
  | [], j, d, e, B, h1, h2, h3 => by simp [matchL]; exact ⟨h1, h2⟩
  | x :: xs, j, d, e, B, h1, h2, h3 => by
    have h4 : j + 1 + xs.length ≤ B := by simp at h3; omega
    have h5 : (j : Int) < (B : Int) := by omega
    unfold matchL
    repeat' split
    all_goals first
      | exact matchL_els xs _ _ _ B h1 h2 h4
      | exact matchL_els xs _ _ _ B (by omega) h5 h4
      | exact ⟨h1, h2⟩
/- a label more, the place set: the whole machine -/
theorem Ew.pushL (h : Ew w0 N0 w N q g cap q0 x) {n : Nat} (hn : q0.length = n) (hl : x.1.labs.length ≤ 1000) (a d : Nat) :
    ∃ v' w', (Builtin.append_ #[299, 299] 299 #[x.2.b, .slice (some ⟨w.drew.heap.size, 0, none⟩) 1 1]).run Tryz.prog (w.drew.alloc (.cells #[.int .i64 (a : Int), .int .i64 (d : Int)] 347)) = .ok v' w' ∧ (w'.cell? ⟨g, n * 5 + 4, none⟩ = some x.2.b ∧ w'.frozen? ⟨g, n * 5 + 4, none⟩ = false) ∧ (∃ a n c, v' = .slice a n c) ∧
      Ew w0 N0 (w'.setCell ⟨g, n * 5 + 4, none⟩ v') { N with fs := q0 ++ [({ x.1 with labs := x.1.labs ++ [(a, d)] }, { x.2 with b := v' })] } (q.top { x.1 with labs := x.1.labs ++ [(a, d)] }) g cap q0 ({ x.1 with labs := x.1.labs ++ [(a, d)] }, { x.2 with b := v' }) ∧
      Gw w (w'.setCell ⟨g, n * 5 + 4, none⟩ v') N.all ({ N with fs := q0 ++ [({ x.1 with labs := x.1.labs ++ [(a, d)] }, { x.2 with b := v' })] } : EN).all := by
  subst hn
  have hk : Kp (fun _ => False) w w.drew := (Kp.refl _ _).drew
  have hE := h.quiet hk
  obtain ⟨v', w', r1, r2, r3, r4⟩ := (Fkm.start hE.fk).pushL hl a d hE.own
  exact ⟨v', w', r1, r2, r3, hE.setTop r4, h.topGw (r4.after hk)⟩
theorem Ew.setPc (h : Ew w0 N0 w N q g cap q0 x) {n : Nat} (hn : q0.length = n) (m : Nat) {z : Int} (hz : z = (m : Int)) :
    Ew w0 N0 (w.setCell ⟨g, n * 5 + 1, none⟩ (.int .i64 z)) { N with fs := q0 ++ [({ x.1 with pc := m }, x.2)] } (q.top { x.1 with pc := m }) g cap q0 ({ x.1 with pc := m }, x.2) := by
  subst hn hz
  exact h.setTop ((Fkm.start h.fk).setPc m h.own)
set_option maxHeartbeats 16000000 in
theorem dd_4 (h : Ew w0 N0 w N q g cap q0 x) (hB : FB x.1) {y : Fn × Value × Value} {X Y : Int} (hM : ModOk N.m.mod) (hn : q0.length ≤ 10) {k : Nat} (hyk : N.m.fs[k]? = some y) (hpc : 1 ≤ x.1.pc ∧ x.1.pc ≤ y.1.body.length) (hl7 : x.1.labs.length ≤ 8) (hx : u32R X) (hy : u64R Y) {e : Nat} {q' : MQ} (hr : deedM num N.m.mod y.1 q ⟨4, X, Y⟩ = some (e, q')) :
    Calls Tryz.prog 261 #[.pointer (some ⟨N.xb, 0, none⟩), .pointer (some ⟨g, q0.length * 5, none⟩), y.2.1, .agg #[.int .u8 4, .int .u32 X, .int .u64 Y]] w (Ez w0 N0 (e : Int) q') := by
  unfold deedM at hr
  rw [h.fr] at hr
  dsimp only at hr
  obtain ⟨n, hnn⟩ : ∃ n, q0.length = n := ⟨_, rfl⟩
  have HNN : Hid (q0.length = n) := hnn
  rw [hnn]
  obtain ⟨yb, hyb⟩ : ∃ v, y.2.1 = v := ⟨_, rfl⟩
  have HYB : Hid _ := hyb
  rw [hyb]
  have HW : Hid (Ew w0 N0 w N q g cap q0 x) := h
  have HB : Hid _ := hB
  have HAL : Hid (∀ U, Kp (fun _ => False) w U → Ew w0 N0 U N q g cap q0 x) := fun U hU => h.quiet hU
  iterate 2 rw [if_neg (by decide)] at hr
  rw [if_pos rfl] at hr
  cases hp1 : popM x.1 127 with
  | none => rw [hp1] at hr; simp at hr
  | some pr =>
  obtain ⟨c, r1⟩ := pr
  rw [hp1] at hr
  simp only [Option.some.injEq, Prod.mk.injEq] at hr
  obtain ⟨rfl, hq⟩ := hr
  have hb1 := hB.pop hp1
  obtain ⟨l0, _, _, _, hr1⟩ := popM_some hp1
  have hrp : r1.pc = x.1.pc := by rw [hr1]
  have hrl : r1.labs.length ≤ 8 := by rw [hr1]; exact hl7
  obtain ⟨p, hp⟩ : ∃ p, x.1.pc = p + 1 := ⟨x.1.pc - 1, by omega⟩
  rw [hp] at hq hrp hpc
  rw [show p + 1 - 1 = p by omega] at hq
  have hbk := (h.mk_.body (List.mem_of_getElem? hyk)).1
  have hFn := hM.funcs y.1 (by unfold MT.mod; exact List.mem_map.2 ⟨y, List.mem_of_getElem? hyk, rfl⟩)
  have hnb := hFn.nb.2
  have hop : ∀ i, i ∈ y.1.body → i.op < 256 := fun i hi => by have := (hFn.body i hi).op; unfold opOk at this; omega
  obtain ⟨en, hen⟩ : ∃ e, endF y.1 (p + 1) = e := ⟨_, rfl⟩
  obtain ⟨el, hel⟩ : ∃ e, elsF y.1 (p + 1) = e := ⟨_, rfl⟩
  have hen2 : en ≤ 96 := by have := endF_le y.1 (s := p + 1) (by omega); omega
  have hel2 : -1 ≤ el ∧ el < 97 := by
    have := matchL_els (y.1.body.drop (p + 1)) (p + 1) 0 (-1) 97 (by omega) (by omega) (by rw [List.length_drop]; omega)
    rw [← hel]
    exact this
  rw [hen, hel] at hq
  have HMA : Hid (∀ U t', Ew w0 N0 U { N with fs := q0 ++ [t'] } (q.top t'.1) g cap q0 t' → Calls Tryz.prog 259 #[yb, .int .i64 (p : Int)] U (fun en2 w' => en2 = .returned (.tuple #[.int .i64 (en : Int), .int .i64 el]) ∧ w' = U)) := fun U t' hU => by
    have := match_m (hU.mk_.body (List.mem_of_getElem? hyk)).1 hnb hop p (by omega)
    rw [HYB.out] at this
    rw [← hen, ← hel]
    exact this
  have HP1 : Hid (∀ U, Kp (fun _ => False) w U → Calls Tryz.prog 257 #[.pointer (some ⟨g, n * 5, none⟩), .int .u8 127] U (Po2 w0 N0 N q g cap q0 x.1 x.2 c r1 U)) := fun U hU => pop_2 HNN.out (HAL.out U hU).same hB (want := 127) (by omega) hp1
  obtain ⟨no, hno⟩ : ∃ n, r1.ops.length = n := ⟨_, rfl⟩
  have hno10 : no ≤ 10 := hno ▸ hb1.1.ops
  rw [hno] at hq
  have HQ : Hid _ := hq
  have HRP : Hid (r1.pc = p + 1) := hrp
  have HNO : Hid (r1.ops.length = no) := hno
  have HRL : Hid (r1.labs.length ≤ 1000) := by show _ ≤ _; omega
  have hcb := hb1.2.2
  have hp96 : p < 96 := by omega
  clear h hB hnn hyb hM hyk hp1 hb1 hr1 hrl hpc hq hbk hFn hop hen hel hp hrp hno hl7
  go_enter Tryz.func261, Tryz.ntmps261
  go_wp2_with fail
  refine (HP1.out _ ((Kp.refl _ _).alloc _)).mono ?_
  rintro en3 U1 ⟨rfl, t1, HE1, HG1⟩
  have hV := Vb.new HE1.out (.int .u8 (c.t : Int)) (.int .u64 (c.b : Int)) 229
  have hEW := HE1.out.quiet ((Kp.refl _ _).alloc (.cells #[.int .u8 (c.t : Int), .int .u64 (c.b : Int)] 229))
  obtain ⟨W, hW⟩ : ∃ W, U1.alloc (.cells #[.int .u8 (c.t : Int), .int .u64 (c.b : Int)] 229) = W := ⟨_, rfl⟩
  rw [hW] at hV hEW
  obtain ⟨v', w6, rr1, ⟨rr2, rr3⟩, ⟨va, vn, vc, hvo⟩, hE7, hG7⟩ := hEW.pushL HNN.out HRL.out p no
  subst hvo
  have hV7 := hV.gw hG7
  obtain ⟨x0, x1, x2, x3, x4, y3, y4, f0, f1, f2, f3, f4, fz, ap, fcp⟩ := hEW.cells HNN.out
  obtain ⟨ba, bc, hbv⟩ := hEW.frm.b.slice
  obtain ⟨oa, oc, hov⟩ := hEW.frm.o.slice
  dsimp only at f1 f3 f4 hbv hov rr1 rr2
  rw [HRP.out] at f1
  rw [hov, HNO.out] at f3
  rw [hbv] at f4 rr1 rr2
  obtain ⟨nl, hnl⟩ : ∃ n, r1.labs.length = n := ⟨_, rfl⟩
  rw [hnl] at f4 rr1 rr2
  have hgl : g < W.heap.size := lt_of_cell f1
  obtain ⟨U, hU⟩ : ∃ U, W.drew.alloc (.cells #[.int .i64 (p : Int), .int .i64 (no : Int)] 347) = U := ⟨_, rfl⟩
  have hKU : Kp (fun _ => False) W U := by rw [← hU]; exact ((Kp.refl _ _).drew).alloc _
  have g1 : U.cell? ⟨g, n * 5 + 1, none⟩ = some (.int .i64 ((p + 1 : Nat) : Int)) := by rw [hKU.cell (p := ⟨g, n * 5 + 1, none⟩) hgl (fun h => h)]; exact f1
  have g3 : U.cell? ⟨g, n * 5 + 3, none⟩ = some (.slice oa no oc) := by rw [hKU.cell (p := ⟨g, n * 5 + 3, none⟩) hgl (fun h => h)]; exact f3
  have g4 : U.cell? ⟨g, n * 5 + 4, none⟩ = some (.slice ba nl bc) := by rw [hKU.cell (p := ⟨g, n * 5 + 4, none⟩) hgl (fun h => h)]; exact f4
  have hUU : (W.alloc (.cells #[.int .i64 (p : Int), .int .i64 (no : Int)] 347)).drew = U := by rw [← hU]; rfl
  rw [hU] at rr1
  have HR1 : Hid _ := rr1
  have HE7 : Hid _ := hE7
  have HV7 : Hid _ := hV7
  have hpi : ((p + 1 : Nat) : Int) - 1 = (p : Int) := by omega
  have hwp : IntKind.i64.wrap (p : Int) = (p : Int) := iwr (by omega) (by omega)
  clear x0 x1 x2 x3 x4 y3 y4 f0 f2 fz ap fcp hE7 hV7 hV hEW hG7 HG1 hKU rr1 hnl hbv hov hU HRL
  go_wp2_with fail
  clear hW
  apply region_one
  case walk =>
    go_region_law (refine step_apq rfl _ _ 299 rfl HR1.out ?_)
    all_goals exact ⟨rfl, rfl⟩
  case key =>
    skip
    obtain ⟨w7, hw7⟩ : ∃ w7, w6.setCell ⟨g, n * 5 + 4, none⟩ (.slice va vn vc) = w7 := ⟨_, rfl⟩
    rw [hw7] at HE7 HV7 ⊢
    clear hw7 HR1 rr2 rr3 f1 f3 f4 g1 g3 g4 hUU hgl hwp
    obtain ⟨x0, x1, x2, x3, x4, y3, y4, f0, f1, f2, f3, f4, fz, ap, fcp⟩ := HE7.out.cells HNN.out
    dsimp only at f1
    rw [HRP.out] at f1
    have fz1 := fz (n * 5 + 1)
    have b1 := HV7.out.c1
    have hlv := HV7.out.lt
    clear x0 x1 x2 x3 x4 y3 y4 f0 f2 f3 f4 fz ap fcp
    by_cases hc : c.b = 0
    · have hci : ((c.b : Int) == 0) = true := by rw [hc]; rfl
      have HEN : Hid (q.top { r1 with labs := r1.labs ++ [(p, no)], pc := if 0 ≤ el then el.toNat + 1 else en } = q') := by
        have := HQ.out
        rw [if_pos hc] at this
        exact this
      have hma := HMA.out w7 _ HE7.out
      clear hc HQ
      go_wp2_with fail
      refine hma.mono ?_
      rintro en4 w8 ⟨rfl, rfl⟩
      have HE8 : Hid _ := HE7.out.setPc HNN.out en (z := (en : Int)) rfl
      by_cases hel0 : 0 ≤ el
      · obtain ⟨ek, rfl⟩ : ∃ ek : Nat, el = (ek : Int) := ⟨el.toNat, by omega⟩
        have HE9 : Hid _ := HE8.out.setPc HNN.out (ek + 1) (z := (ek : Int) + 1) (by omega)
        have fz8 := (HE8.out.cells HNN.out).fz (n * 5 + 1)
        have f18 := (HE8.out.cells HNN.out).f1
        go_wp2_with fail
        go_ret
        refine ⟨rfl, ?_⟩
        rw [← HEN.out, if_pos hel0, Int.toNat_natCast]
        exact ⟨_, HE9.out.end_⟩
      · have HEL : Hid (¬ (0 ≤ el)) := hel0
        have hel1 : el < 0 := by omega
        clear hel0
        go_wp2_with fail
        go_ret
        refine ⟨rfl, ?_⟩
        rw [← HEN.out, if_neg (show ¬ (0 ≤ el) by omega)]
        exact ⟨_, HE8.out.end_⟩
    · have hci : ((c.b : Int) == 0) = false := by rw [beq_eq_false_iff_ne]; omega
      have HEN : Hid (q.top { r1 with labs := r1.labs ++ [(p, no)] } = q') := by
        have := HQ.out
        rw [if_neg hc, ← HRP.out] at this
        exact this
      clear hc HQ
      go_wp2_with fail
      go_ret
      refine ⟨rfl, ?_⟩
      rw [← HEN.out]
      exact ⟨_, HE7.out.end_⟩
end
end Go.Proofs.Qxb6500275aGreatDoor
