import Derived.Test.Qxb6500275aGreatDoorXon
import Derived.Test.Qxb6500275aGreatDoorNog
import Derived.Test.Qxb6500275aGreatDoorBns
import Derived.Test.Qxb6500275aGreatDoorXoa
import Derived.Test.Qxb6500275aGreatDoorXo9
import Derived.Test.Qxb6500275aGreatDoorXob
import Derived.Test.Qxb6500275aGreatDoorXo7
set_option maxRecDepth 100000
set_option linter.unusedVariables false
set_option linter.unusedSimpArgs false
namespace Go.Proofs.Qxb6500275aGreatDoor
open Go Go.RowKit
section
variable {w0 w u : World} {N0 N : EN} {q : MQ} {g cap : Nat} {q0 q1 : List (MF × FT3)} {x b : MF × FT3} {num : NumF0}
set_option maxHeartbeats 16000000 in
theorem dd_num1 (h : Ew w0 N0 w N q g cap q0 x) (hB : FB x.1) {y : Fn × Value × Value} {X Y : Int} {op p rr : Nat} (hop : 69 ≤ op ∧ op ≤ 191) (hs : numSig op = (1, p, rr)) (hpp : p < 256) (hrr : rr < 256) (hn : q0.length ≤ 10) (hx : u32R X) (hy : u64R Y) {e : Nat} {q' : MQ} (hr : deedM numI N.m.mod y.1 q ⟨op, X, Y⟩ = some (e, q')) :
    Calls Tryz.prog 261 #[.pointer (some ⟨N.xb, 0, none⟩), .pointer (some ⟨g, q0.length * 5, none⟩), y.2.1, .agg #[.int .u8 op, .int .u32 X, .int .u64 Y]] w (Ez w0 N0 (e : Int) q') := by
  unfold deedM at hr
  rw [h.fr] at hr
  dsimp only at hr
  obtain ⟨n, hnn⟩ : ∃ n, q0.length = n := ⟨_, rfl⟩
  have HNN : Hid (q0.length = n) := hnn
  rw [hnn]
  obtain ⟨yb, hyb⟩ : ∃ v, y.2.1 = v := ⟨_, rfl⟩
  have HYB : Hid _ := hyb
  rw [hyb]
  have HW : Hid (Ew w0 N0 w N q g cap q0 x) := h
  have HB : Hid _ := hB
  have HAL : Hid (∀ U, Kp (fun _ => False) w U → Ew w0 N0 U N q g cap q0 x) := fun U hU => h.quiet hU
  iterate 11 rw [if_neg (by omega)] at hr
  rw [if_neg (show ¬ (32 ≤ op ∧ op ≤ 34) by omega), if_neg (show ¬ (op = 35 ∨ op = 36) by omega), if_neg (show ¬ (40 ≤ op ∧ op ≤ 64) by omega), if_neg (show ¬ (65 ≤ op ∧ op ≤ 68) by omega)] at hr
  unfold numM at hr
  dsimp only at hr
  rw [hs] at hr
  dsimp only at hr
  rw [if_neg (by decide), if_neg (by decide)] at hr
  cases hp1 : popM x.1 p with
  | none => rw [hp1] at hr; simp at hr
  | some pr =>
  obtain ⟨v1, r2⟩ := pr
  rw [hp1] at hr
  dsimp only at hr
  have hb1 := hB.pop hp1
  have HP1 : Hid (∀ U, Kp (fun _ => False) w U → Calls Tryz.prog 257 #[.pointer (some ⟨g, n * 5, none⟩), .int .u8 (p : Int)] U (Po2 w0 N0 N q g cap q0 x.1 x.2 v1 r2 U)) := fun U hU => pop_2 HNN.out (HAL.out U hU).same hB hpp hp1
  have HSG : Hid (∀ U, Calls Tryz.prog 208 #[.int .i64 (op : Int)] U (fun en w' => en = .returned (.tuple #[.int .i64 1, .int .u8 (p : Int), .int .u8 (rr : Int)]) ∧ w' = U)) := fun U => by
    have := numSig_e op (by omega) U
    rw [hs] at this
    exact this
  have t0 : ((op : Int) == 0) = false := by rw [beq_eq_false_iff_ne]; omega
  have t1 : ((op : Int) == 1) = false := by rw [beq_eq_false_iff_ne]; omega
  have t4 : ((op : Int) == 4) = false := by rw [beq_eq_false_iff_ne]; omega
  have t12 : ((op : Int) == 12) = false := by rw [beq_eq_false_iff_ne]; omega
  have t13 : ((op : Int) == 13) = false := by rw [beq_eq_false_iff_ne]; omega
  have t14 : ((op : Int) == 14) = false := by rw [beq_eq_false_iff_ne]; omega
  have t15 : ((op : Int) == 15) = false := by rw [beq_eq_false_iff_ne]; omega
  have t16 : ((op : Int) == 16) = false := by rw [beq_eq_false_iff_ne]; omega
  have t17 : ((op : Int) == 17) = false := by rw [beq_eq_false_iff_ne]; omega
  have t26 : ((op : Int) == 26) = false := by rw [beq_eq_false_iff_ne]; omega
  have t27 : ((op : Int) == 27) = false := by rw [beq_eq_false_iff_ne]; omega
  have t35 : ((op : Int) == 35) = false := by rw [beq_eq_false_iff_ne]; omega
  have t36 : ((op : Int) == 36) = false := by rw [beq_eq_false_iff_ne]; omega
  have lo : (69 : Int) ≤ (op : Int) := by omega
  have hi : (op : Int) ≤ 191 := by omega
  have HRR : Hid _ := hr
  have hv1b := hb1.2.2
  clear hr h hB hnn hyb hp1 hs hb1
  go_enter Tryz.func261, Tryz.ntmps261
  go_wp2_with fail
  refine (HSG.out _).mono ?_
  rintro en U0 ⟨rfl, rfl⟩
  go_wp2_with fail
  have hz1 : ∀ o : Obj, (w.alloc o).heap.size = w.heap.size + 1 := fun o => by simp only [World.size_alloc]
  have hz2 : ∀ o o' : Obj, ((w.alloc o).alloc o').heap.size = w.heap.size + 1 + 1 := fun o o' => by simp only [World.size_alloc]
  have hI0 : Kp (fun _ => False) w (w.alloc (.cells #[.int .u8 (op : Int), .int .u32 X, .int .u64 Y] 129)) := (Kp.refl _ _).alloc _
  have hI1 := hI0.alloc (.cells #[.int .u8 0, .int .u64 0] 229)
  have hI2 := hI1.alloc (.cells #[.int .u8 0, .int .u64 0] 229)
  have hVA := (Vb.new (HAL.out _ hI0).same (.int .u8 0) (.int .u64 0) 229).quiet ((Kp.refl _ _).alloc (.cells #[.int .u8 0, .int .u64 0] 229))
  have hVB := Vb.new (HAL.out _ hI1).same (.int .u8 0) (.int .u64 0) 229
  rw [hz1] at hVA
  rw [hz2] at hVB
  refine (HP1.out _ hI2).mono ?_
  rintro en U1 ⟨rfl, t1, HE1, HG1⟩
  have hA0 : w0.heap.size ≤ w.heap.size := HW.out.gw.kp.size
  obtain ⟨A, hA⟩ : ∃ A, w.heap.size + 1 = A := ⟨_, rfl⟩
  rw [hA] at hVA hVB ⊢
  obtain ⟨B, hB⟩ : ∃ B, A + 1 = B := ⟨_, rfl⟩
  rw [hB] at hVB ⊢
  have hAB : A ≠ B := by omega
  have HA0 : Hid (w0.heap.size ≤ A) := by show _ ≤ _; omega
  have HB0 : Hid (w0.heap.size ≤ B) := by show _ ≤ _; omega
  have HVA : Hid _ := hVA.gw HG1.out
  have HVB : Hid _ := hVB.gw HG1.out
  have a0 := HVA.out.c0
  have a1 := HVA.out.c1
  have y0 := HVA.out.z0
  have y1 := HVA.out.z1
  have b1 := HVB.out.c1
  have lb := HVB.out.lt
  have la := HVA.out.lt
  clear hVA hVB hI0 hI1 hI2 hz1 hz2 HG1 hA hA0
  go_wp2_with fail
  have HE2s : Hid _ := HE1.out.scratch HA0.out HVA.out.fo (kp_set2 U1 A (.int .u8 (v1.t : Int)) (.int .u64 (v1.b : Int)))
  refine (numm_calls hop.1 hop.2 ⟨by omega, by omega⟩ ⟨by omega, by omega⟩ _).mono ?_
  rintro en U3 ⟨rfl, rfl⟩
  have hrg := (numI_ok w).r op (v1.b : Int) 0
  have hrr2 := HRR.out
  clear HRR
  generalize numI op (v1.b : Int) 0 = R at hrg hrr2 ⊢
  obtain ⟨R1, R2⟩ := R
  dsimp only at hrg hrr2 ⊢
  obtain ⟨rb, rfl⟩ : ∃ k : Nat, R1 = (k : Int) := ⟨R1.toNat, by omega⟩
  obtain ⟨re, rfl⟩ : ∃ k : Nat, R2 = (k : Int) := ⟨R2.toNat, by omega⟩
  rw [show ((rb : Int)).toNat = rb from rfl, show ((re : Int)).toNat = re from rfl] at hrr2
  have hrb : rb < 18446744073709551616 := by omega
  have hre45 : re ≤ 45 := by omega
  clear hrg a0 a1 y0 y1 b1 lb la HE1 HVA HVB HP1
  by_cases hre : re = 0
  · rw [if_neg (by omega)] at hrr2
    cases hpu : pushM r2 ⟨rr, rb⟩ with
    | none => rw [hpu] at hrr2; simp [layM] at hrr2
    | some r4 =>
    rw [hpu] at hrr2
    simp [layM] at hrr2
    obtain ⟨rfl, hq⟩ := hrr2
    have HQ : Hid _ := hq
    have HPu : Hid (∀ U, Ew w0 N0 U { N with fs := q0 ++ [(r2, t1)] } (q.top r2) g cap q0 (r2, t1) → Calls Tryz.prog 271 #[.pointer (some ⟨g, n * 5, none⟩), .int .u8 (rr : Int), .int .u64 (rb : Int)] U (fun en u => en = .returned (.bool true) ∧ ∃ t', Hid (Ew w0 N0 u { N with fs := q0 ++ [(r4, t')] } (q.top r4) g cap q0 (r4, t')))) := fun U hU => by
      have := push_w hU hpu hrr hrb
      rw [HNN.out] at this
      exact this.mono (fun en u ⟨h1, t', hF⟩ => ⟨h1, t', hU.setTop hF⟩)
    have HS := fun w => stuck_m true w
    have hci : ((re : Int) == 0) = true := by rw [hre]; rfl
    have hcn : ((re : Int) != 0) = false := by rw [hre]; rfl
    have hcm : (!((re : Int) == 0)) = false := by rw [hre]; rfl
    clear hre hq hpu
    go_wp2_with fail
    refine (HPu.out _ HE2s.out).mono ?_
    rintro en U4 ⟨rfl, t4, HE4⟩
    go_wp2_with fail
    refine (HS _).mono ?_
    rintro en u9 ⟨rfl, rfl⟩
    go_wp2
    go_ret
    rw [← HQ.out]
    exact ⟨rfl, _, HE4.out.end_⟩
  · rw [if_pos (by omega)] at hrr2
    simp at hrr2
    obtain ⟨rfl, rfl⟩ := hrr2
    have hci : ((re : Int) == 0) = false := by rw [beq_eq_false_iff_ne]; omega
    have hcn : ((re : Int) != 0) = true := by simp; omega
    have hcm : (!((re : Int) == 0)) = true := by rw [hci]; rfl
    clear hre
    go_wp2
    go_ret
    exact ⟨rfl, _, HE2s.out.end_⟩
end
end Go.Proofs.Qxb6500275aGreatDoor
