import Derived.Test.Qxb6500275aGreatDoorXof
set_option maxRecDepth 100000
set_option linter.unusedVariables false
set_option linter.unusedSimpArgs false
namespace Go.Proofs.Qxb6500275aGreatDoor
open Go Go.RowKit
section
variable {w0 w u : World} {N0 N : EN} {q : MQ} {g cap : Nat} {q0 q1 : List (MF × FT3)} {x b : MF × FT3} {num : NumF0}
theorem retM_e {M : Mod} {q q' : MQ} {e : Nat} (h : retM M q = some (e, q')) : e = 0 := by
  unfold retM at h
  repeat' (split at h)
  all_goals first | (simp at h; done) | (simp at h; exact h.1.symm) | skip
theorem layM_e {q q' : MQ} {r : Option MF} {e : Nat} (h : layM q r = some (e, q')) : e = 0 := by
  unfold layM at h
  split at h
  · simp at h
  · simp at h; exact h.1.symm
theorem branchM_e {M : Mod} {fn : Fn} {q q' : MQ} {l e : Nat} (h : branchM M fn q l = some (e, q')) : e = 0 := by
  unfold branchM at h
  repeat' (split at h)
  all_goals first | exact retM_e h | exact layM_e h | (simp at h; done) | (simp at h; exact h.1.symm) | skip
set_option maxHeartbeats 16000000 in
theorem dd_0 (h : Ew w0 N0 w N q g cap q0 x) (hB : FB x.1) {y : Fn × Value × Value} {X Y : Int} (hx : u32R X) (hy : u64R Y) {e : Nat} {q' : MQ} (hr : deedM num N.m.mod y.1 q ⟨0, X, Y⟩ = some (e, q')) :
    Calls Tryz.prog 261 #[.pointer (some ⟨N.xb, 0, none⟩), .pointer (some ⟨g, q0.length * 5, none⟩), y.2.1, .agg #[.int .u8 0, .int .u32 X, .int .u64 Y]] w (Ez w0 N0 (e : Int) q') := by
  unfold deedM at hr
  rw [h.fr] at hr
  dsimp only at hr
  obtain ⟨n, hnn⟩ : ∃ n, q0.length = n := ⟨_, rfl⟩
  have HNN : Hid (q0.length = n) := hnn
  rw [hnn]
  obtain ⟨yb, hyb⟩ : ∃ v, y.2.1 = v := ⟨_, rfl⟩
  have HYB : Hid _ := hyb
  rw [hyb]
  have HW : Hid (Ew w0 N0 w N q g cap q0 x) := h
  have HB : Hid _ := hB
  have HAL : Hid (∀ U, Kp (fun _ => False) w U → Ew w0 N0 U N q g cap q0 x) := fun U hU => h.quiet hU
  have hr2 : some (38, q) = some (e, q') := hr
  simp at hr2
  obtain ⟨rfl, rfl⟩ := hr2
  clear hr h hB hnn hyb
  go_enter Tryz.func261, Tryz.ntmps261
  go_wp2
  go_ret
  exact ⟨rfl, _, (HAL.out _ ((Kp.refl _ _).alloc _)).end_⟩
set_option maxHeartbeats 16000000 in
theorem dd_1 (h : Ew w0 N0 w N q g cap q0 x) (hB : FB x.1) {y : Fn × Value × Value} {X Y : Int} (hx : u32R X) (hy : u64R Y) {e : Nat} {q' : MQ} (hr : deedM num N.m.mod y.1 q ⟨1, X, Y⟩ = some (e, q')) :
    Calls Tryz.prog 261 #[.pointer (some ⟨N.xb, 0, none⟩), .pointer (some ⟨g, q0.length * 5, none⟩), y.2.1, .agg #[.int .u8 1, .int .u32 X, .int .u64 Y]] w (Ez w0 N0 (e : Int) q') := by
  unfold deedM at hr
  rw [h.fr] at hr
  dsimp only at hr
  obtain ⟨n, hnn⟩ : ∃ n, q0.length = n := ⟨_, rfl⟩
  have HNN : Hid (q0.length = n) := hnn
  rw [hnn]
  obtain ⟨yb, hyb⟩ : ∃ v, y.2.1 = v := ⟨_, rfl⟩
  have HYB : Hid _ := hyb
  rw [hyb]
  have HW : Hid (Ew w0 N0 w N q g cap q0 x) := h
  have HB : Hid _ := hB
  have HAL : Hid (∀ U, Kp (fun _ => False) w U → Ew w0 N0 U N q g cap q0 x) := fun U hU => h.quiet hU
  have hr2 : some (0, q) = some (e, q') := hr
  simp at hr2
  obtain ⟨rfl, rfl⟩ := hr2
  clear hr h hB hnn hyb
  go_enter Tryz.func261, Tryz.ntmps261
  go_wp2
  go_ret
  exact ⟨rfl, _, (HAL.out _ ((Kp.refl _ _).alloc _)).end_⟩
set_option maxHeartbeats 16000000 in
theorem dd_26 (h : Ew w0 N0 w N q g cap q0 x) (hB : FB x.1) {y : Fn × Value × Value} {X Y : Int} (hx : u32R X) (hy : u64R Y) {e : Nat} {q' : MQ} (hr : deedM num N.m.mod y.1 q ⟨26, X, Y⟩ = some (e, q')) :
    Calls Tryz.prog 261 #[.pointer (some ⟨N.xb, 0, none⟩), .pointer (some ⟨g, q0.length * 5, none⟩), y.2.1, .agg #[.int .u8 26, .int .u32 X, .int .u64 Y]] w (Ez w0 N0 (e : Int) q') := by
  unfold deedM at hr
  rw [h.fr] at hr
  dsimp only at hr
  obtain ⟨n, hnn⟩ : ∃ n, q0.length = n := ⟨_, rfl⟩
  have HNN : Hid (q0.length = n) := hnn
  rw [hnn]
  obtain ⟨yb, hyb⟩ : ∃ v, y.2.1 = v := ⟨_, rfl⟩
  have HYB : Hid _ := hyb
  rw [hyb]
  have HW : Hid (Ew w0 N0 w N q g cap q0 x) := h
  have HB : Hid _ := hB
  have HAL : Hid (∀ U, Kp (fun _ => False) w U → Ew w0 N0 U N q g cap q0 x) := fun U hU => h.quiet hU
  cases hp : popM x.1 0 with
  | none =>
    have hr2 : (match popM x.1 0 with | none => none | some (_, r') => some (0, q.top r')) = some (e, q') := hr
    rw [hp] at hr2
    simp at hr2
  | some pr =>
  obtain ⟨v, r1⟩ := pr
  have hr2 : (match popM x.1 0 with | none => none | some (_, r') => some (0, q.top r')) = some (e, q') := hr
  rw [hp] at hr2
  simp at hr2
  obtain ⟨rfl, hq⟩ := hr2
  have HQ : Hid _ := hq
  have HP : Hid (∀ U, Kp (fun _ => False) w U → Calls Tryz.prog 257 #[.pointer (some ⟨g, n * 5, none⟩), .int .u8 0] U (fun en u => en = .returned (.tuple #[.agg #[.int .u8 (v.t : Int), .int .u64 (v.b : Int)], .bool true]) ∧ ∃ t', Fkm U u N.vf q0 x r1 t')) := fun U hU => by
    have := pop_w (HAL.out U hU) hB (want := 0) (by omega) hp
    rw [HNN.out] at this
    exact this
  have HS := fun w => stuck_m true w
  clear hr h hB hnn hyb hp hq
  go_enter Tryz.func261, Tryz.ntmps261
  go_wp2_with fail
  refine (HP.out _ ((Kp.refl _ _).alloc _)).mono ?_
  rintro en U1 ⟨rfl, t', hF⟩
  have HE : Hid _ := (HAL.out _ ((Kp.refl _ _).alloc _)).setTop hF
  clear hF
  go_wp2_with fail
  refine (HS _).mono ?_
  rintro en u9 ⟨rfl, rfl⟩
  go_wp2
  go_ret
  rw [← HQ.out]
  exact ⟨rfl, _, (HE.out.quiet ((Kp.refl _ _).alloc _)).end_⟩
set_option maxHeartbeats 16000000 in
theorem dd_16 (h : Ew w0 N0 w N q g cap q0 x) (hB : FB x.1) {y : Fn × Value × Value} {X Y : Int} (hM : ModOk N.m.mod) (hn : q0.length ≤ 10) (hS : SmOk q.S) (hH : HmOk q.H) (hbd : q.H.bd.length = N.m.mod.imports.length) (hx2 : X < 1000) (hx : u32R X) (hy : u64R Y) {e : Nat} {q' : MQ} (hr : deedM num N.m.mod y.1 q ⟨16, X, Y⟩ = some (e, q')) :
    Calls Tryz.prog 261 #[.pointer (some ⟨N.xb, 0, none⟩), .pointer (some ⟨g, q0.length * 5, none⟩), y.2.1, .agg #[.int .u8 16, .int .u32 X, .int .u64 Y]] w (Ez w0 N0 (e : Int) q') := by
  unfold deedM at hr
  rw [h.fr] at hr
  dsimp only at hr
  obtain ⟨n, hnn⟩ : ∃ n, q0.length = n := ⟨_, rfl⟩
  have HNN : Hid (q0.length = n) := hnn
  rw [hnn]
  obtain ⟨yb, hyb⟩ : ∃ v, y.2.1 = v := ⟨_, rfl⟩
  have HYB : Hid _ := hyb
  rw [hyb]
  have HW : Hid (Ew w0 N0 w N q g cap q0 x) := h
  have HB : Hid _ := hB
  have HAL : Hid (∀ U, Kp (fun _ => False) w U → Ew w0 N0 U N q g cap q0 x) := fun U hU => h.quiet hU
  iterate 7 rw [if_neg (by decide)] at hr
  rw [if_pos rfl] at hr
  have hr2 := hr
  obtain ⟨f, rfl⟩ : ∃ f : Nat, X = (f : Int) := ⟨X.toNat, by have := hx.1; omega⟩
  rw [show ((f : Int)).toNat = f from rfl] at hr2
  have HC : Hid (∀ U, Kp (fun _ => False) w U → Calls Tryz.prog 198 #[.pointer (some ⟨N.xb, 0, none⟩), .int .i64 (f : Int)] U (Ez w0 N0 (e : Int) q')) := fun U hU => call_w (HAL.out U hU) hM hB hn hS hH hbd (by omega) hr2
  clear hr h hB hnn hyb hr2 hM hS hH hbd
  go_enter Tryz.func261, Tryz.ntmps261
  go_wp2_with fail
  refine (HC.out _ ((Kp.refl _ _).alloc _)).mono ?_
  rintro en u9 ⟨rfl, HZ⟩
  go_wp2
  go_ret
  exact ⟨rfl, HZ⟩
set_option maxHeartbeats 16000000 in
theorem dd_15 (h : Ew w0 N0 w N q g cap (q1 ++ [b]) x) (hB : FB x.1) {y : Fn × Value × Value} {X Y : Int} (hM : ModOk N.m.mod) (hf0 : 0 ≤ x.1.f) (hn : q1.length ≤ 10) (hx : u32R X) (hy : u64R Y) {e : Nat} {q' : MQ} (hr : deedM num N.m.mod y.1 q ⟨15, X, Y⟩ = some (e, q')) :
    Calls Tryz.prog 261 #[.pointer (some ⟨N.xb, 0, none⟩), .pointer (some ⟨g, (q1.length + 1) * 5, none⟩), y.2.1, .agg #[.int .u8 15, .int .u32 X, .int .u64 Y]] w (Ez w0 N0 (e : Int) q') := by
  unfold deedM at hr
  rw [h.fr] at hr
  dsimp only at hr
  obtain ⟨n, hnn⟩ : ∃ n, (q1.length + 1) = n := ⟨_, rfl⟩
  have HNN : Hid ((q1.length + 1) = n) := hnn
  rw [hnn]
  obtain ⟨yb, hyb⟩ : ∃ v, y.2.1 = v := ⟨_, rfl⟩
  have HYB : Hid _ := hyb
  rw [hyb]
  have HW : Hid (Ew w0 N0 w N q g cap (q1 ++ [b]) x) := h
  have HB : Hid _ := hB
  have HAL : Hid (∀ U, Kp (fun _ => False) w U → Ew w0 N0 U N q g cap (q1 ++ [b]) x) := fun U hU => h.quiet hU
  iterate 6 rw [if_neg (by decide)] at hr
  rw [if_pos rfl] at hr
  obtain rfl : e = 0 := retM_e hr
  have HC : Hid (∀ U, Kp (fun _ => False) w U → Calls Tryz.prog 260 #[.pointer (some ⟨N.xb, 0, none⟩)] U (Ez w0 N0 0 q')) := fun U hU => ret_w (HAL.out U hU) hM hB hf0 hn hr
  clear hr h hB hnn hyb hM hf0
  go_enter Tryz.func261, Tryz.ntmps261
  go_wp2_with fail
  refine (HC.out _ ((Kp.refl _ _).alloc _)).mono ?_
  rintro en u9 ⟨rfl, HZ⟩
  go_wp2
  go_ret
  exact ⟨rfl, HZ⟩
set_option maxHeartbeats 16000000 in
theorem dd_12 (h : Ew w0 N0 w N q g cap (q1 ++ [b]) x) (hB : FB x.1) {y : Fn × Value × Value} {X Y : Int} (hM : ModOk N.m.mod) (hf0 : 0 ≤ x.1.f) (hn : q1.length ≤ 10) {k : Nat} (hyk : N.m.fs[k]? = some y) (hop : ∀ l, l ∈ x.1.labs → l.1 < y.1.body.length) (hx : u32R X) (hy : u64R Y) {e : Nat} {q' : MQ} (hr : deedM num N.m.mod y.1 q ⟨12, X, Y⟩ = some (e, q')) :
    Calls Tryz.prog 261 #[.pointer (some ⟨N.xb, 0, none⟩), .pointer (some ⟨g, (q1.length + 1) * 5, none⟩), y.2.1, .agg #[.int .u8 12, .int .u32 X, .int .u64 Y]] w (Ez w0 N0 (e : Int) q') := by
  unfold deedM at hr
  rw [h.fr] at hr
  dsimp only at hr
  obtain ⟨n, hnn⟩ : ∃ n, (q1.length + 1) = n := ⟨_, rfl⟩
  have HNN : Hid ((q1.length + 1) = n) := hnn
  rw [hnn]
  obtain ⟨yb, hyb⟩ : ∃ v, y.2.1 = v := ⟨_, rfl⟩
  have HYB : Hid _ := hyb
  rw [hyb]
  have HW : Hid (Ew w0 N0 w N q g cap (q1 ++ [b]) x) := h
  have HB : Hid _ := hB
  have HAL : Hid (∀ U, Kp (fun _ => False) w U → Ew w0 N0 U N q g cap (q1 ++ [b]) x) := fun U hU => h.quiet hU
  iterate 3 rw [if_neg (by decide)] at hr
  rw [if_pos rfl] at hr
  obtain rfl : e = 0 := branchM_e hr
  obtain ⟨f, rfl⟩ : ∃ f : Nat, X = (f : Int) := ⟨X.toNat, by have := hx.1; omega⟩
  rw [show ((f : Int)).toNat = f from rfl] at hr
  have hf32 : f < 4294967296 := by have := hx.2; omega
  have HC : Hid (∀ U, Kp (fun _ => False) w U → Calls Tryz.prog 273 #[.pointer (some ⟨N.xb, 0, none⟩), .pointer (some ⟨g, n * 5, none⟩), yb, .int .u32 (f : Int)] U (Ez w0 N0 0 q')) := fun U hU => by
    have := branch_w (HAL.out U hU) hM hB hf0 hn hyk hop hf32 hr
    rw [hnn, hyb] at this
    exact this
  clear hr h hB hnn hyb hM hf0 hop hyk
  go_enter Tryz.func261, Tryz.ntmps261
  go_wp2_with fail
  refine (HC.out _ ((Kp.refl _ _).alloc _)).mono ?_
  rintro en u9 ⟨rfl, HZ⟩
  go_wp2
  go_ret
  exact ⟨rfl, HZ⟩
end
end Go.Proofs.Qxb6500275aGreatDoor
