import Derived.Test.Qxb6500275aGreatDoorVa7
set_option maxRecDepth 100000
set_option linter.unusedVariables false
set_option linter.unusedSimpArgs false
namespace Go.Proofs.Qxb6500275aGreatDoor
open Go Go.RowKit
section
variable {w : World} {vb mb : Nat} {v : VS} {f : VF} {r : List VF} {M : Mod} {params decl : ByteArray}
abbrev PlainC (w : World) (vb mb : Nat) (M : Mod) (params decl : ByteArray) (v : VS) (x : Ins) : Prop :=
  Calls Tryz.prog 153 #[.pointer (some ⟨vb, 0, none⟩), .pointer (some ⟨mb, 0, none⟩), .string params, .string decl, x.val] w (VC vb w (encR (plainV M params decl v x)) (plainV M params decl v x).1)
set_option maxHeartbeats 4000000 in
theorem plain_call (h : SV w vb mb M v) (hw : VW v f r) (x : Ins) (hx : InsOk x) (ho : x.op = 16 ∨ x.op = 17) : PlainC w vb mb M params decl v x := by
  unfold PlainC
  have hA := h.new (w' := w.alloc (.cells #[.int .u8 x.op, .int .u32 x.x, .int .u64 x.y] 129)) ((Kp.refl _ _).alloc _)
  have hc : Calls Tryz.prog 203 #[.pointer (some ⟨vb, 0, none⟩), .pointer (some ⟨mb, 0, none⟩), x.val] (w.alloc (.cells #[.int .u8 x.op, .int .u32 x.x, .int .u64 x.y] 129)) (VC vb (w.alloc (.cells #[.int .u8 x.op, .int .u32 x.x, .int .u64 x.y] 129)) (encR (callV M v x)) (callV M v x).1) := by
    rcases ho with ho | ho
    · exact call16_calls hA hw x hx ho
    · exact call17_calls hA hw x hx ho
  have hP : plainV M params decl v x = callV M v x := by unfold plainV; rw [if_pos ho]
  rw [hP]
  generalize callV M v x = R at *
  obtain ⟨v1, g1, e1⟩ := R
  unfold encR at *
  dsimp only at hc ⊢
  obtain ⟨op, X, Y⟩ := x
  dsimp only at ho hc hA
  clear hP hx hA h
  unfold Ins.val at *
  dsimp only at hc ⊢
  rcases ho with rfl | rfl
  all_goals
    go_enter Tryz.func153, Tryz.ntmps153
    go_wp2_with fail
    refine hc.mono ?_
    rintro en w2 ⟨rfl, hv2, hk2⟩
    clear hc
    go_wp2
    go_ret2
    go_light
    exact ⟨rfl, hv2, ((Kp.refl _ _).alloc _).trans hk2⟩
set_option maxHeartbeats 4000000 in
theorem plain_drop (h : SV w vb mb M v) (hw : VW v f r) (x : Ins) (ho : x.op = 26) : PlainC w vb mb M params decl v x := by
  unfold PlainC
  have hA := h.new (w' := w.alloc (.cells #[.int .u8 26, .int .u32 x.x, .int .u64 x.y] 129)) ((Kp.refl _ _).alloc _)
  have hP : plainV M params decl v x = ((popV v 0).1, 64, typedV (popV v 0).2.2) := by unfold plainV; rw [if_neg (by omega), if_pos ho]
  rw [hP]
  obtain ⟨op, X, Y⟩ := x
  dsimp only at ho hA
  subst ho
  have HA : Hid _ := hA
  clear hP h hA
  unfold Ins.val encR
  dsimp only
  go_enter Tryz.func153, Tryz.ntmps153
  go_wp2_with (first | (go_at_call 202; refine (popW HA.out.vd hw 0 (by decide)).mono ?_; rintro en w2 ⟨rfl, hv2, hk2⟩) | (go_at_call 204; refine (typed_calls _).mono ?_; rintro en w6 ⟨rfl, hk6⟩))
  go_ret2
  go_light
  exact ⟨rfl, hv2.keep hk6 (fun h => h), (((Kp.refl _ _).alloc _).trans hk2).trans hk6.none⟩
set_option maxHeartbeats 4000000 in
theorem plain_sel (h : SV w vb mb M v) (hw : VW v f r) (x : Ins) (ho : x.op = 27) : PlainC w vb mb M params decl v x := by
  unfold PlainC
  have hA := h.new (w' := w.alloc (.cells #[.int .u8 27, .int .u32 x.x, .int .u64 x.y] 129)) ((Kp.refl _ _).alloc _)
  have hc := sel_calls hA.vd hw
  have hP : plainV M params decl v x = selV v := by unfold plainV; rw [if_neg (by omega), if_neg (by omega), if_pos ho]
  rw [hP]
  generalize selV v = R at *
  obtain ⟨v1, g1, e1⟩ := R
  unfold encR at *
  dsimp only at hc ⊢
  obtain ⟨op, X, Y⟩ := x
  dsimp only at ho hA hc
  subst ho
  clear hP h hA
  unfold Ins.val
  dsimp only
  go_enter Tryz.func153, Tryz.ntmps153
  go_wp2_with fail
  refine hc.mono ?_
  rintro en w2 ⟨rfl, hv2, hk2⟩
  clear hc
  go_wp2
  go_ret2
  go_light
  exact ⟨rfl, hv2, ((Kp.refl _ _).alloc _).trans hk2⟩
set_option maxHeartbeats 4000000 in
theorem plain_mem (h : SV w vb mb M v) (hw : VW v f r) (x : Ins) (hx : InsOk x) (ho : 40 ≤ x.op ∧ x.op ≤ 64) : PlainC w vb mb M params decl v x := by
  unfold PlainC
  have hA := h.new (w' := w.alloc (.cells #[.int .u8 x.op, .int .u32 x.x, .int .u64 x.y] 129)) ((Kp.refl _ _).alloc _)
  have hc := memory_calls2 hA hw x hx ho
  have hP : plainV M params decl v x = memoryV M v x := by unfold plainV; rw [if_neg (by omega), if_neg (by omega), if_neg (by omega), if_neg (by omega), if_neg (by omega), if_pos ho]
  rw [hP]
  generalize memoryV M v x = R at *
  obtain ⟨v1, g1, e1⟩ := R
  unfold encR at *
  dsimp only at hc ⊢
  obtain ⟨op, X, Y⟩ := x
  dsimp only at ho hA hc
  clear hP h hA hx
  unfold Ins.val at *
  dsimp only at hc ⊢
  have b16 : ((op : Int) == 16) = false := by rw [beq_eq_false_iff_ne]; omega
  have b17 : ((op : Int) == 17) = false := by rw [beq_eq_false_iff_ne]; omega
  have b26 : ((op : Int) == 26) = false := by rw [beq_eq_false_iff_ne]; omega
  have b27 : ((op : Int) == 27) = false := by rw [beq_eq_false_iff_ne]; omega
  have b35 : ((op : Int) == 35) = false := by rw [beq_eq_false_iff_ne]; omega
  have b36 : ((op : Int) == 36) = false := by rw [beq_eq_false_iff_ne]; omega
  have i1 : (32 : Int) ≤ (op : Int) := by omega
  have i2 : decide ((op : Int) ≤ 34) = false := decide_eq_false (by omega)
  have i3 : (40 : Int) ≤ (op : Int) := by omega
  have i4 : (op : Int) ≤ 64 := by omega
  go_enter Tryz.func153, Tryz.ntmps153
  go_wp2_with fail
  refine hc.mono ?_
  rintro en w2 ⟨rfl, hv2, hk2⟩
  clear hc
  go_wp2
  go_ret2
  go_light
  exact ⟨rfl, hv2, ((Kp.refl _ _).alloc _).trans hk2⟩
set_option maxHeartbeats 4000000 in
theorem plain_const (h : SV w vb mb M v) (hw : VW v f r) (x : Ins) (ho : 65 ≤ x.op ∧ x.op ≤ 68) : PlainC w vb mb M params decl v x := by
  unfold PlainC
  have hA := h.new (w' := w.alloc (.cells #[.int .u8 x.op, .int .u32 x.x, .int .u64 x.y] 129)) ((Kp.refl _ _).alloc _)
  have hP : plainV M params decl v x = (v, constOfV x.op, 0) := by unfold plainV; rw [if_neg (by omega), if_neg (by omega), if_neg (by omega), if_neg (by omega), if_neg (by omega), if_neg (by omega), if_pos ho]
  rw [hP]
  obtain ⟨op, X, Y⟩ := x
  dsimp only at ho hA
  have HA : Hid _ := hA
  clear hP h hA
  unfold Ins.val encR
  dsimp only
  have : op = 65 ∨ op = 66 ∨ op = 67 ∨ op = 68 := by omega
  clear ho
  rcases this with rfl | rfl | rfl | rfl
  all_goals
    go_enter Tryz.func153, Tryz.ntmps153
    go_wp2_with (go_at_call 144; refine (constOf_calls _ (by decide)).mono ?_; rintro en w6 ⟨rfl, hk6⟩)
    go_ret2
    go_light
    exact ⟨rfl, (HA.out.new hk6).vd, ((Kp.refl _ _).alloc _).trans hk6.none⟩
set_option maxHeartbeats 4000000 in
theorem plain_local (h : SV w vb mb M v) (hw : VW v f r) (x : Ins) (hx : InsOk x) (hp : params.size ≤ 4) (hd : decl.size ≤ 6) (ho : x.op = 32 ∨ x.op = 33 ∨ x.op = 34) : PlainC w vb mb M params decl v x := by
  unfold PlainC
  have hxr := hx.x
  unfold u32R at hxr
  have hA := h.new (w' := w.alloc (.cells #[.int .u8 x.op, .int .u32 x.x, .int .u64 x.y] 129)) ((Kp.refl _ _).alloc _)
  obtain ⟨R, hR⟩ : ∃ R, plainV M params decl v x = R := ⟨_, rfl⟩
  have HS : Hid (R = plainV M params decl v x) := hR.symm
  rw [hR]
  unfold plainV at HS
  rw [if_neg (by omega), if_neg (by omega), if_neg (by omega), if_pos (by omega)] at HS
  obtain ⟨op, X, Y⟩ := x
  dsimp only at ho hA hxr HS
  obtain ⟨X, rfl⟩ := Int.eq_ofNat_of_zero_le hxr.1
  have hc := local_calls (w := w.alloc (.cells #[.int .u8 op, .int .u32 (X : Int), .int .u64 Y] 129)) params decl hp hd X (by omega)
  have hlt : ∀ t, localV params decl X = some t → t < 256 := fun t ht => by
    unfold localV at ht
    split at ht
    · simp at ht; rw [← ht]; exact bAt_lt _ _
    · split at ht
      · simp at ht; rw [← ht]; exact bAt_lt _ _
      · simp at ht
  generalize localV params decl X = o at *
  have HA : Hid _ := hA
  clear hR h hA hx
  unfold Ins.val
  dsimp only
  cases o with
  | none =>
    unfold encO at hc
    dsimp only at hc HS
    clear hlt
    rcases ho with rfl | rfl | rfl
    all_goals
      go_enter Tryz.func153, Tryz.ntmps153
      go_wp2_with fail
      refine hc.mono ?_
      rintro en w2 ⟨rfl, hk2⟩
      clear hc
      go_wp2
      go_ret2
      go_light
      rw [HS.out]
      exact ⟨rfl, (HA.out.new hk2).vd, ((Kp.refl _ _).alloc _).trans hk2.none⟩
  | some t =>
    unfold encO at hc
    dsimp only at hc HS
    have ht := hlt t rfl
    clear hlt
    rcases ho with rfl | rfl | rfl
    · rw [if_pos rfl] at HS
      go_enter Tryz.func153, Tryz.ntmps153
      go_wp2_with fail
      refine hc.mono ?_
      rintro en w2 ⟨rfl, hk2⟩
      clear hc
      go_wp2
      go_ret2
      go_light
      rw [HS.out]
      exact ⟨rfl, (HA.out.new hk2).vd, ((Kp.refl _ _).alloc _).trans hk2.none⟩
    · rw [if_neg (by decide), if_pos rfl] at HS
      go_enter Tryz.func153, Tryz.ntmps153
      go_wp2_with fail
      refine hc.mono ?_
      rintro en w2 ⟨rfl, hk2⟩
      clear hc
      go_wp2_with (first | (go_at_call 149; refine (carryW (HA.out.new hk2).vd hw t ht).mono ?_; rintro en w4 ⟨rfl, hv4, hk4⟩) | (go_at_call 204; refine (typed_calls _).mono ?_; rintro en w6 ⟨rfl, hk6⟩))
      go_ret2
      go_light
      rw [HS.out]
      exact ⟨rfl, hv4.keep hk6 (fun h => h), ((((Kp.refl _ _).alloc _).trans hk2.none).trans hk4).trans hk6.none⟩
    · rw [if_neg (by decide), if_neg (by decide)] at HS
      go_enter Tryz.func153, Tryz.ntmps153
      go_wp2_with fail
      refine hc.mono ?_
      rintro en w2 ⟨rfl, hk2⟩
      clear hc
      go_wp2_with (first | (go_at_call 149; refine (carryW (HA.out.new hk2).vd hw t ht).mono ?_; rintro en w4 ⟨rfl, hv4, hk4⟩) | (go_at_call 204; refine (typed_calls _).mono ?_; rintro en w6 ⟨rfl, hk6⟩))
      go_ret2
      go_light
      rw [HS.out]
      exact ⟨rfl, hv4.keep hk6 (fun h => h), ((((Kp.refl _ _).alloc _).trans hk2.none).trans hk4).trans hk6.none⟩
end
end Go.Proofs.Qxb6500275aGreatDoor
