import Derived.Test.Qxb6500275aGreatDoorXog
import Derived.Test.Qxb6500275aGreatDoorXoa
import Derived.Test.Qxb6500275aGreatDoorXo9
import Derived.Test.Qxb6500275aGreatDoorXob
import Derived.Test.Qxb6500275aGreatDoorXo7
set_option maxRecDepth 100000
set_option linter.unusedVariables false
set_option linter.unusedSimpArgs false
namespace Go.Proofs.Qxb6500275aGreatDoor
open Go Go.RowKit
section
variable {w0 w u : World} {N0 N : EN} {q : MQ} {g cap : Nat} {q0 q1 : List (MF × FT3)} {x b : MF × FT3} {num : NumF0}
/- a pop amid an instruction, the top frame by name -/
def Po2 (w0 : World) (N0 N : EN) (q : MQ) (g cap : Nat) (q0 : List (MF × FT3)) (r : MF) (t : FT3) (v : MV) (r' : MF) (U : World) (en : Ending) (u : World) : Prop := en = .returned (.tuple #[.agg #[.int .u8 (v.t : Int), .int .u64 (v.b : Int)], .bool true]) ∧ ∃ t', Hid (Ew w0 N0 u { N with fs := q0 ++ [(r', t')] } (q.top r') g cap q0 (r', t')) ∧ Hid (Gw U u ({ N with fs := q0 ++ [(r, t)] } : EN).all ({ N with fs := q0 ++ [(r', t')] } : EN).all)
theorem pop_2 {r r' : MF} {t : FT3} {want n : Nat} {v : MV} (hn : q0.length = n) (h : Ew w0 N0 w { N with fs := q0 ++ [(r, t)] } (q.top r) g cap q0 (r, t)) (hB : FB r) (hw : want < 256) (hp : popM r want = some (v, r')) :
    Calls Tryz.prog 257 #[.pointer (some ⟨g, n * 5, none⟩), .int .u8 (want : Int)] w (Po2 w0 N0 N q g cap q0 r t v r' w) := by
  rw [← hn]
  refine (pop_w h hB hw hp).mono ?_
  rintro en u ⟨rfl, t', hF⟩
  exact ⟨rfl, t', h.setTop hF, h.topGw hF⟩
set_option maxHeartbeats 16000000 in
theorem dd_27 (h : Ew w0 N0 w N q g cap q0 x) (hB : FB x.1) {y : Fn × Value × Value} {X Y : Int} (hx : u32R X) (hy : u64R Y) {e : Nat} {q' : MQ} (hr : deedM num N.m.mod y.1 q ⟨27, X, Y⟩ = some (e, q')) :
    Calls Tryz.prog 261 #[.pointer (some ⟨N.xb, 0, none⟩), .pointer (some ⟨g, q0.length * 5, none⟩), y.2.1, .agg #[.int .u8 27, .int .u32 X, .int .u64 Y]] w (Ez w0 N0 (e : Int) q') := by
  unfold deedM at hr
  rw [h.fr] at hr
  dsimp only at hr
  obtain ⟨n, hnn⟩ : ∃ n, q0.length = n := ⟨_, rfl⟩
  have HNN : Hid (q0.length = n) := hnn
  rw [hnn]
  obtain ⟨yb, hyb⟩ : ∃ v, y.2.1 = v := ⟨_, rfl⟩
  have HYB : Hid _ := hyb
  rw [hyb]
  have HW : Hid (Ew w0 N0 w N q g cap q0 x) := h
  have HB : Hid _ := hB
  have HAL : Hid (∀ U, Kp (fun _ => False) w U → Ew w0 N0 U N q g cap q0 x) := fun U hU => h.quiet hU
  iterate 10 rw [if_neg (by decide)] at hr
  rw [if_pos rfl] at hr
  cases hp1 : popM x.1 127 with
  | none => rw [hp1] at hr; simp at hr
  | some pr =>
  obtain ⟨c, r1⟩ := pr
  rw [hp1] at hr
  dsimp only at hr
  cases hp2 : popM r1 0 with
  | none => rw [hp2] at hr; simp at hr
  | some pr =>
  obtain ⟨v2, r2⟩ := pr
  rw [hp2] at hr
  dsimp only at hr
  cases hp3 : popM r2 v2.t with
  | none => rw [hp3] at hr; simp at hr
  | some pr =>
  obtain ⟨v1, r3⟩ := pr
  rw [hp3] at hr
  dsimp only at hr
  have hb1 := hB.pop hp1
  have hb2 := hb1.1.pop hp2
  have hb3 := hb2.1.pop hp3
  have HP1 : Hid (∀ U, Kp (fun _ => False) w U → Calls Tryz.prog 257 #[.pointer (some ⟨g, n * 5, none⟩), .int .u8 127] U (Po2 w0 N0 N q g cap q0 x.1 x.2 c r1 U)) := fun U hU => pop_2 HNN.out (HAL.out U hU).same hB (want := 127) (by omega) hp1
  have HP2 : Hid (∀ U t1, Ew w0 N0 U { N with fs := q0 ++ [(r1, t1)] } (q.top r1) g cap q0 (r1, t1) → Calls Tryz.prog 257 #[.pointer (some ⟨g, n * 5, none⟩), .int .u8 0] U (Po2 w0 N0 N q g cap q0 r1 t1 v2 r2 U)) := fun U t1 hU => pop_2 HNN.out hU hb1.1 (want := 0) (by omega) hp2
  have HP3 : Hid (∀ U t1, Ew w0 N0 U { N with fs := q0 ++ [(r2, t1)] } (q.top r2) g cap q0 (r2, t1) → Calls Tryz.prog 257 #[.pointer (some ⟨g, n * 5, none⟩), .int .u8 (v2.t : Int)] U (Po2 w0 N0 N q g cap q0 r2 t1 v1 r3 U)) := fun U t1 hU => pop_2 HNN.out hU hb2.1 (want := v2.t) hb2.2.1 hp3
  have h2t := hb2.2.1
  have h2b := hb2.2.2
  have h1t := hb3.2.1
  have h1b := hb3.2.2
  have HRR : Hid (layM q (pushM r3 (if c.b = 0 then v2 else v1)) = some (e, q')) := hr
  have HS := fun w => stuck_m true w
  clear hr h hB hnn hyb hp1 hp2 hp3 hb1 hb2 hb3
  go_enter Tryz.func261, Tryz.ntmps261
  go_wp2_with fail
  refine (HP1.out _ ((Kp.refl _ _).alloc _)).mono ?_
  rintro en U1 ⟨rfl, t1, HE1, HG1⟩
  go_wp2_with fail
  refine (HP2.out _ t1 (HE1.out.quiet ((Kp.refl _ _).alloc _))).mono ?_
  rintro en U2 ⟨rfl, t2, HE2, HG2⟩
  have hV1 := (Vb.new HE1.out (.int .u8 (c.t : Int)) (.int .u64 (c.b : Int)) 229).gw HG2.out
  have HV1 : Hid _ := hV1
  clear HG1 HG2 hV1
  go_wp2_with fail
  have hV2 := Vb.new HE2.out (.int .u8 (v2.t : Int)) (.int .u64 (v2.b : Int)) 229
  refine (HP3.out _ t2 (HE2.out.quiet ((Kp.refl _ _).alloc _))).mono ?_
  rintro en U3 ⟨rfl, t3, HE3, HG3⟩
  replace hV2 := hV2.gw HG3.out
  have hV1 := (HV1.out.quiet ((Kp.refl _ _).alloc (.cells #[.int .u8 (v2.t : Int), .int .u64 (v2.b : Int)] 229))).gw HG3.out
  have a1 := hV1.c1
  have b0 := hV2.c0
  have b1 := hV2.c1
  have la := hV1.lt
  have lb := hV2.lt
  clear HG3 hV1 hV2 HV1
  have HPu : Hid (∀ U (v : MV) r4, Ew w0 N0 U { N with fs := q0 ++ [(r3, t3)] } (q.top r3) g cap q0 (r3, t3) → pushM r3 v = some r4 → v.t < 256 → v.b < 18446744073709551616 → Calls Tryz.prog 271 #[.pointer (some ⟨g, n * 5, none⟩), .int .u8 (v.t : Int), .int .u64 (v.b : Int)] U (fun en u => en = .returned (.bool true) ∧ ∃ t', Hid (Ew w0 N0 u { N with fs := q0 ++ [(r4, t')] } (q.top r4) g cap q0 (r4, t')))) := fun U v r4 hU hp ht hb => by
    have := push_w hU hp ht hb
    rw [HNN.out] at this
    exact this.mono (fun en u ⟨h1, t', hF⟩ => ⟨h1, t', hU.setTop hF⟩)
  clear HP1 HP2 HP3
  by_cases hc : c.b = 0
  · have hr2 := HRR.out
    rw [if_pos hc] at hr2
    cases hpu : pushM r3 v2 with
    | none => rw [hpu] at hr2; simp [layM] at hr2
    | some r4 =>
    rw [hpu] at hr2
    simp [layM] at hr2
    obtain ⟨rfl, hq⟩ := hr2
    have HQ : Hid _ := hq
    have HPS : Hid _ := hpu
    have hci : ((c.b : Int) == 0) = true := by rw [hc]; rfl
    clear hc hq hpu HRR
    go_wp2_with fail
    refine (HPu.out _ v2 r4 (HE3.out.quiet ((Kp.refl _ _).alloc _)) HPS.out h2t h2b).mono ?_
    rintro en U4 ⟨rfl, t4, HE4⟩
    go_wp2_with fail
    refine (HS _).mono ?_
    rintro en u9 ⟨rfl, rfl⟩
    go_wp2
    go_ret
    rw [← HQ.out]
    exact ⟨rfl, _, HE4.out.end_⟩
  · have hr2 := HRR.out
    rw [if_neg hc] at hr2
    cases hpu : pushM r3 v1 with
    | none => rw [hpu] at hr2; simp [layM] at hr2
    | some r4 =>
    rw [hpu] at hr2
    simp [layM] at hr2
    obtain ⟨rfl, hq⟩ := hr2
    have HQ : Hid _ := hq
    have HPS : Hid _ := hpu
    have hci : ((c.b : Int) == 0) = false := by rw [beq_eq_false_iff_ne]; omega
    clear hc hq hpu HRR
    go_wp2_with fail
    refine (HPu.out _ v1 r4 (HE3.out.quiet ((Kp.refl _ _).alloc _)) HPS.out h1t h1b).mono ?_
    rintro en U4 ⟨rfl, t4, HE4⟩
    go_wp2_with fail
    refine (HS _).mono ?_
    rintro en u9 ⟨rfl, rfl⟩
    go_wp2
    go_ret
    rw [← HQ.out]
    exact ⟨rfl, _, HE4.out.end_⟩
end
end Go.Proofs.Qxb6500275aGreatDoor
