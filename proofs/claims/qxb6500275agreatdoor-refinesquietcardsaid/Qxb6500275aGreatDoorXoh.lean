import Derived.Test.Qxb6500275aGreatDoorXog
import Derived.Test.Qxb6500275aGreatDoorXoa
import Derived.Test.Qxb6500275aGreatDoorXo9
import Derived.Test.Qxb6500275aGreatDoorXob
import Derived.Test.Qxb6500275aGreatDoorXo7
set_option maxRecDepth 100000
set_option linter.unusedVariables false
set_option linter.unusedSimpArgs false
namespace Go.Proofs.Qxb6500275aGreatDoor
open Go Go.RowKit
section
variable {w0 w u : World} {N0 N : EN} {q : MQ} {g cap : Nat} {q0 q1 : List (MF × FT3)} {x b : MF × FT3} {num : NumF0}
set_option maxHeartbeats 16000000 in
theorem dd_13 (h : Ew w0 N0 w N q g cap (q1 ++ [b]) x) (hB : FB x.1) {y : Fn × Value × Value} {X Y : Int} (hM : ModOk N.m.mod) (hf0 : 0 ≤ x.1.f) (hn : q1.length ≤ 10) {k : Nat} (hyk : N.m.fs[k]? = some y) (hop : ∀ l, l ∈ x.1.labs → l.1 < y.1.body.length) (hx : u32R X) (hy : u64R Y) {e : Nat} {q' : MQ} (hr : deedM num N.m.mod y.1 q ⟨13, X, Y⟩ = some (e, q')) :
    Calls Tryz.prog 261 #[.pointer (some ⟨N.xb, 0, none⟩), .pointer (some ⟨g, (q1.length + 1) * 5, none⟩), y.2.1, .agg #[.int .u8 13, .int .u32 X, .int .u64 Y]] w (Ez w0 N0 (e : Int) q') := by
  unfold deedM at hr
  rw [h.fr] at hr
  dsimp only at hr
  obtain ⟨n, hnn⟩ : ∃ n, (q1.length + 1) = n := ⟨_, rfl⟩
  have HNN : Hid ((q1.length + 1) = n) := hnn
  rw [hnn]
  obtain ⟨yb, hyb⟩ : ∃ v, y.2.1 = v := ⟨_, rfl⟩
  have HYB : Hid _ := hyb
  rw [hyb]
  have HW : Hid (Ew w0 N0 w N q g cap (q1 ++ [b]) x) := h
  have HB : Hid _ := hB
  have HAL : Hid (∀ U, Kp (fun _ => False) w U → Ew w0 N0 U N q g cap (q1 ++ [b]) x) := fun U hU => h.quiet hU
  iterate 4 rw [if_neg (by decide)] at hr
  rw [if_pos rfl] at hr
  cases hp : popM x.1 127 with
  | none => rw [hp] at hr; simp at hr
  | some pr =>
  obtain ⟨v, r1⟩ := pr
  rw [hp] at hr
  dsimp only at hr
  obtain ⟨f, rfl⟩ : ∃ f : Nat, X = (f : Int) := ⟨X.toNat, by have := hx.1; omega⟩
  rw [show ((f : Int)).toNat = f from rfl] at hr
  have hf32 : f < 4294967296 := by have := hx.2; omega
  have hbp := hB.pop hp
  obtain ⟨l0, _, _, _, hr1⟩ := popM_some hp
  have hf1 : 0 ≤ r1.f := by rw [hr1]; exact hf0
  have hop1 : ∀ l, l ∈ r1.labs → l.1 < y.1.body.length := by rw [hr1]; exact hop
  have HP : Hid (∀ U, Kp (fun _ => False) w U → Calls Tryz.prog 257 #[.pointer (some ⟨g, n * 5, none⟩), .int .u8 127] U (fun en u => en = .returned (.tuple #[.agg #[.int .u8 (v.t : Int), .int .u64 (v.b : Int)], .bool true]) ∧ ∃ t', Fkm U u N.vf (q1 ++ [b]) x r1 t')) := fun U hU => by
    have := pop_w (HAL.out U hU) hB (want := 127) (by omega) hp
    rw [show (q1 ++ [b]).length = q1.length + 1 by simp, HNN.out] at this
    exact this
  have HC : Hid (∀ U t', Ew w0 N0 U { N with fs := q1 ++ [b] ++ [(r1, t')] } (q.top r1) g cap (q1 ++ [b]) (r1, t') → v.b ≠ 0 → Calls Tryz.prog 273 #[.pointer (some ⟨N.xb, 0, none⟩), .pointer (some ⟨g, n * 5, none⟩), yb, .int .u32 (f : Int)] U (Ez w0 N0 (e : Int) q')) := fun U t' hU hv => by
    rw [if_neg hv] at hr
    obtain rfl : e = 0 := branchM_e hr
    have := branch_w hU hM hbp.1 hf1 hn hyk hop1 hf32 hr
    dsimp only at this
    rw [hnn, hyb] at this
    exact this
  have HNA : Hid (¬ N.all w.heap.size) := fun hk => Nat.lt_irrefl _ (h.all_lt hk)
  have HZ0 : Hid (v.b = 0 → e = 0 ∧ q' = q.top r1) := fun hv => by
    rw [if_pos hv] at hr
    simp at hr
    exact ⟨hr.1.symm, hr.2.symm⟩
  have hvb : v.b < 18446744073709551616 := hbp.2.2
  clear hr h hB hnn hyb hM hf0 hop hyk hp hbp hr1 hf1 hop1
  go_enter Tryz.func261, Tryz.ntmps261
  go_wp2_with fail
  refine (HP.out _ ((Kp.refl _ _).alloc _)).mono ?_
  rintro en U1 ⟨rfl, t', hF⟩
  have HE : Hid _ := (HAL.out _ ((Kp.refl _ _).alloc _)).setTop hF
  have hg := ((HAL.out _ ((Kp.refl _ _).alloc _)).topGw hF).kp
  have hI := (C3.new w (.int .u8 13) (.int .u32 (f : Int)) (.int .u64 Y) 129).keep hg HNA.out
  have i1 := hI.c1
  have hlt := hI.lt
  clear hF hg hI
  by_cases hv : v.b = 0
  · obtain ⟨rfl, rfl⟩ := HZ0.out hv
    have hvi : ((v.b : Int) == 0) = true := by rw [hv]; rfl
    clear hv HC HP HAL HW i1 hlt
    go_wp2
    go_ret
    exact ⟨rfl, _, (HE.out.quiet ((Kp.refl _ _).alloc _)).end_⟩
  · have hvi : ((v.b : Int) == 0) = false := by rw [beq_eq_false_iff_ne]; omega
    have HV : Hid (v.b ≠ 0) := hv
    clear hv
    go_wp2_with fail
    refine (HC.out _ t' (HE.out.quiet ((Kp.refl _ _).alloc _)) HV.out).mono ?_
    rintro en u9 ⟨rfl, HZ⟩
    go_wp2
    go_ret
    exact ⟨rfl, HZ⟩
set_option maxHeartbeats 16000000 in
theorem dd_35 (h : Ew w0 N0 w N q g cap q0 x) (hB : FB x.1) {y : Fn × Value × Value} {X Y : Int} (hM : ModOk N.m.mod) (hn : q0.length ≤ 10) (hS : SmOk q.S) (hgl : q.S.gl.length = N.m.mod.globals.length) (hx : u32R X) (hy : u64R Y) {e : Nat} {q' : MQ} (hr : deedM num N.m.mod y.1 q ⟨35, X, Y⟩ = some (e, q')) :
    Calls Tryz.prog 261 #[.pointer (some ⟨N.xb, 0, none⟩), .pointer (some ⟨g, q0.length * 5, none⟩), y.2.1, .agg #[.int .u8 35, .int .u32 X, .int .u64 Y]] w (Ez w0 N0 (e : Int) q') := by
  unfold deedM at hr
  rw [h.fr] at hr
  dsimp only at hr
  obtain ⟨n, hnn⟩ : ∃ n, q0.length = n := ⟨_, rfl⟩
  have HNN : Hid (q0.length = n) := hnn
  rw [hnn]
  obtain ⟨yb, hyb⟩ : ∃ v, y.2.1 = v := ⟨_, rfl⟩
  have HYB : Hid _ := hyb
  rw [hyb]
  have HW : Hid (Ew w0 N0 w N q g cap q0 x) := h
  have HB : Hid _ := hB
  have HAL : Hid (∀ U, Kp (fun _ => False) w U → Ew w0 N0 U N q g cap q0 x) := fun U hU => h.quiet hU
  iterate 12 rw [if_neg (by decide)] at hr
  rw [if_pos (by decide)] at hr
  have HC : Hid (∀ U, Kp (fun _ => False) w U → Calls Tryz.prog 276 #[.pointer (some ⟨N.xb, 0, none⟩), .pointer (some ⟨g, n * 5, none⟩), .agg #[.int .u8 35, .int .u32 X, .int .u64 Y]] U (Ez w0 N0 (e : Int) q')) := fun U hU => by
    have := gget_w (HAL.out U hU) hM hB hn hS hgl (op := 35) rfl hx hr
    rw [hnn] at this
    exact this
  clear hr h hB hnn hyb hM hS hgl
  go_enter Tryz.func261, Tryz.ntmps261
  go_wp2_with fail
  refine (HC.out _ ((Kp.refl _ _).alloc _)).mono ?_
  rintro en u9 ⟨rfl, HZ⟩
  go_wp2
  go_ret
  exact ⟨rfl, HZ⟩
set_option maxHeartbeats 16000000 in
theorem dd_36 (h : Ew w0 N0 w N q g cap q0 x) (hB : FB x.1) {y : Fn × Value × Value} {X Y : Int} (hM : ModOk N.m.mod) (hn : q0.length ≤ 10) (hS : SmOk q.S) (hgl : q.S.gl.length = N.m.mod.globals.length) (hx : u32R X) (hy : u64R Y) {e : Nat} {q' : MQ} (hr : deedM num N.m.mod y.1 q ⟨36, X, Y⟩ = some (e, q')) :
    Calls Tryz.prog 261 #[.pointer (some ⟨N.xb, 0, none⟩), .pointer (some ⟨g, q0.length * 5, none⟩), y.2.1, .agg #[.int .u8 36, .int .u32 X, .int .u64 Y]] w (Ez w0 N0 (e : Int) q') := by
  unfold deedM at hr
  rw [h.fr] at hr
  dsimp only at hr
  obtain ⟨n, hnn⟩ : ∃ n, q0.length = n := ⟨_, rfl⟩
  have HNN : Hid (q0.length = n) := hnn
  rw [hnn]
  obtain ⟨yb, hyb⟩ : ∃ v, y.2.1 = v := ⟨_, rfl⟩
  have HYB : Hid _ := hyb
  rw [hyb]
  have HW : Hid (Ew w0 N0 w N q g cap q0 x) := h
  have HB : Hid _ := hB
  have HAL : Hid (∀ U, Kp (fun _ => False) w U → Ew w0 N0 U N q g cap q0 x) := fun U hU => h.quiet hU
  iterate 12 rw [if_neg (by decide)] at hr
  rw [if_pos (by decide)] at hr
  have HC : Hid (∀ U, Kp (fun _ => False) w U → Calls Tryz.prog 276 #[.pointer (some ⟨N.xb, 0, none⟩), .pointer (some ⟨g, n * 5, none⟩), .agg #[.int .u8 36, .int .u32 X, .int .u64 Y]] U (Ez w0 N0 (e : Int) q')) := fun U hU => by
    have := gset_w (HAL.out U hU) hM hB hn hS hgl (op := 36) rfl hx hr
    rw [hnn] at this
    exact this
  clear hr h hB hnn hyb hM hS hgl
  go_enter Tryz.func261, Tryz.ntmps261
  go_wp2_with fail
  refine (HC.out _ ((Kp.refl _ _).alloc _)).mono ?_
  rintro en u9 ⟨rfl, HZ⟩
  go_wp2
  go_ret
  exact ⟨rfl, HZ⟩
end
end Go.Proofs.Qxb6500275aGreatDoor
