import Derived.Test.Qxb6500275aGreatDoorVa8
set_option maxRecDepth 100000
set_option linter.unusedVariables false
set_option linter.unusedSimpArgs false
namespace Go.Proofs.Qxb6500275aGreatDoor
open Go Go.RowKit
section
variable {w : World} {vb mb : Nat} {v : VS} {f : VF} {r : List VF} {M : Mod} {params decl : ByteArray}
theorem Md.globs (h : Md w mb M) : ∃ ga, w.cell? ⟨mb, 7, none⟩ = some (.slice ga M.globals.length M.globals.length) ∧ ∀ i g, M.globals[i]? = some g → ∃ k, ga = some ⟨k, 0, none⟩ ∧ w.cell? ⟨k, i * 5, none⟩ = some (.int .u8 g.ty) ∧ w.cell? ⟨k, i * 5 + 1, none⟩ = some (.bool g.mu) ∧ w.cell? ⟨k, i * 5 + 2, none⟩ = some (.int .u8 g.init.op) ∧ w.cell? ⟨k, i * 5 + 4, none⟩ = some (.int .u64 g.init.y) := by
  obtain ⟨F, hB, hF⟩ := h.is
  obtain ⟨ga, t1, t2⟩ := hF.g.at_
  refine ⟨ga, by rw [hB.cell (by decide), t1], fun i g hg => ?_⟩
  obtain ⟨k, f, ha, _, hc, hR⟩ := t2 i g hg
  have h0 := hc 0 (by decide)
  rw [Nat.add_zero] at h0
  exact ⟨k, ha, by rw [h0, hR.1], by rw [hc 1 (by decide), hR.2.1], by rw [hc 2 (by decide), hR.2.2.1], by rw [hc 4 (by decide), hR.2.2.2.2]⟩
set_option maxHeartbeats 4000000 in
theorem plain_global (h : SV w vb mb M v) (hw : VW v f r) (x : Ins) (hx : InsOk x) (ho : x.op = 35 ∨ x.op = 36) : PlainC w vb mb M params decl v x := by
  unfold PlainC
  have hxr := hx.x
  unfold u32R at hxr
  have hA := h.new (w' := w.alloc (.cells #[.int .u8 x.op, .int .u32 x.x, .int .u64 x.y] 129)) ((Kp.refl _ _).alloc _)
  obtain ⟨R, hR⟩ : ∃ R, plainV M params decl v x = R := ⟨_, rfl⟩
  have HS : Hid (R = plainV M params decl v x) := hR.symm
  rw [hR]
  unfold plainV at HS
  rw [if_neg (by omega), if_neg (by omega), if_neg (by omega), if_neg (by omega), if_pos (by omega)] at HS
  obtain ⟨op, X, Y⟩ := x
  dsimp only at ho hA hxr HS
  obtain ⟨X, rfl⟩ := Int.eq_ofNat_of_zero_le hxr.1
  rw [Int.toNat_natCast] at HS
  obtain ⟨ga, c7, gat⟩ := h.md.globs
  have hml := h.md.lt
  have hng := h.ok.ng
  have HM : Hid _ := h.ok
  have HA : Hid _ := hA
  clear hR h hA hx
  unfold Ins.val
  dsimp only
  by_cases hX : X < M.globals.length
  · obtain ⟨g, hg⟩ : ∃ g, M.globals[X]? = some g := ⟨_, List.getElem?_eq_getElem hX⟩
    rw [hg] at HS
    dsimp only at HS
    obtain ⟨gk, rfl, d0, d1, _, _⟩ := gat X g hg
    have hgk : gk < w.heap.size := lt_of_cell d0
    have hgt : g.ty < 256 := by
      have := (HM.out.globals g (List.mem_of_getElem? hg)).ty
      unfold isVal at this
      omega
    generalize M.globals.length = ng at *
    have i1 : decide ((ng : Int) ≤ (X : Int)) = false := decide_eq_false (by omega)
    have i2 : (X : Int) < (ng : Int) := by omega
    clear gat hg HM
    rcases ho with rfl | rfl
    · rw [if_pos rfl] at HS
      go_enter Tryz.func153, Tryz.ntmps153
      go_wp2_with fail
      go_quiet (fail)
      go_wp2_with fail
      go_quiet (fail)
      go_wp2
      go_ret2
      go_light
      rw [HS.out]
      exact ⟨rfl, (HA.out.new ((Kp.refl _ _).drewM _)).vd, ((Kp.refl _ _).alloc _).drewM _⟩
    · rw [if_neg (by decide)] at HS
      cases hmu : g.mu with
      | false =>
        rw [hmu] at HS d1
        rw [if_neg (by decide)] at HS
        go_enter Tryz.func153, Tryz.ntmps153
        go_wp2_with fail
        go_quiet (fail)
        go_wp2_with fail
        go_quiet (fail)
        go_wp2
        go_ret2
        go_light
        rw [HS.out]
        exact ⟨rfl, (HA.out.new ((Kp.refl _ _).drewM _)).vd, ((Kp.refl _ _).alloc _).drewM _⟩
      | true =>
        rw [hmu] at HS d1
        rw [if_pos rfl] at HS
        go_enter Tryz.func153, Tryz.ntmps153
        go_wp2_with fail
        go_quiet (fail)
        go_wp2_with fail
        go_quiet (fail)
        go_wp2_with (first | (go_at_call 149; refine (carryW (HA.out.new ((Kp.refl _ _).drewM _)).vd hw g.ty hgt).mono ?_; rintro en w4 ⟨rfl, hv4, hk4⟩) | (go_at_call 204; refine (typed_calls _).mono ?_; rintro en w6 ⟨rfl, hk6⟩))
        go_ret2
        go_light
        rw [HS.out]
        exact ⟨rfl, hv4.keep hk6 (fun h => h), ((((Kp.refl _ _).alloc _).drewM _).trans hk4).trans hk6.none⟩
  · have hn : M.globals[X]? = none := List.getElem?_eq_none (by omega)
    rw [hn] at HS
    dsimp only at HS
    generalize M.globals.length = ng at *
    have i1 : (ng : Int) ≤ (X : Int) := by omega
    clear gat HM
    rcases ho with rfl | rfl
    all_goals
      go_enter Tryz.func153, Tryz.ntmps153
      go_wp2_with fail
      go_quiet (fail)
      go_wp2
      go_ret2
      go_light
      rw [HS.out]
      exact ⟨rfl, (HA.out.new ((Kp.refl _ _).drewM _)).vd, ((Kp.refl _ _).alloc _).drewM _⟩
set_option maxHeartbeats 4000000 in
theorem numSig_all : ∀ op : Nat, op < 192 → 69 ≤ op → ((numSig op).1 = 1 ∨ (numSig op).1 = 2) ∧ (numSig op).2.1 < 256 := by decide +kernel
theorem numSig_some (op : Nat) (ho : 69 ≤ op ∧ op ≤ 191) : ((numSig op).1 = 1 ∨ (numSig op).1 = 2) ∧ (numSig op).2.1 < 256 := numSig_all op (by omega) ho.1
set_option maxHeartbeats 4000000 in
theorem plain_num (h : SV w vb mb M v) (hw : VW v f r) (x : Ins) (ho : 69 ≤ x.op ∧ x.op ≤ 191) : PlainC w vb mb M params decl v x := by
  unfold PlainC
  have hA := h.new (w' := w.alloc (.cells #[.int .u8 x.op, .int .u32 x.x, .int .u64 x.y] 129)) ((Kp.refl _ _).alloc _)
  have hc := numSig_calls (w := w.alloc (.cells #[.int .u8 x.op, .int .u32 x.x, .int .u64 x.y] 129)) x.op (by omega)
  obtain ⟨hn1, hn2⟩ := numSig_some x.op ho
  obtain ⟨R, hR⟩ : ∃ R, plainV M params decl v x = R := ⟨_, rfl⟩
  have HS : Hid (R = plainV M params decl v x) := hR.symm
  rw [hR]
  unfold plainV at HS
  rw [if_neg (by omega), if_neg (by omega), if_neg (by omega), if_neg (by omega), if_neg (by omega), if_neg (by omega), if_neg (by omega), if_neg (by omega)] at HS
  obtain ⟨op, X, Y⟩ := x
  dsimp only at ho hA hc hn1 hn2 HS
  generalize numSig op = sg at *
  obtain ⟨n, a, t⟩ := sg
  dsimp only at hn1 hn2 HS
  unfold enc3 at hc
  dsimp only at hc
  have HA : Hid _ := hA
  clear hR h hA
  unfold Ins.val
  dsimp only
  have b16 : ((op : Int) == 16) = false := by rw [beq_eq_false_iff_ne]; omega
  have b17 : ((op : Int) == 17) = false := by rw [beq_eq_false_iff_ne]; omega
  have b26 : ((op : Int) == 26) = false := by rw [beq_eq_false_iff_ne]; omega
  have b27 : ((op : Int) == 27) = false := by rw [beq_eq_false_iff_ne]; omega
  have b35 : ((op : Int) == 35) = false := by rw [beq_eq_false_iff_ne]; omega
  have b36 : ((op : Int) == 36) = false := by rw [beq_eq_false_iff_ne]; omega
  have i1 : (32 : Int) ≤ (op : Int) := by omega
  have i2 : decide ((op : Int) ≤ 34) = false := decide_eq_false (by omega)
  have i3 : (40 : Int) ≤ (op : Int) := by omega
  have i4 : decide ((op : Int) ≤ 64) = false := decide_eq_false (by omega)
  have i5 : (65 : Int) ≤ (op : Int) := by omega
  have i6 : decide ((op : Int) ≤ 68) = false := decide_eq_false (by omega)
  have hw1 := hw.carry a
  have hcc := fun (w' : World) (hv : Vd w' vb v) => carryW hv hw a hn2
  generalize carryV v a = c at *
  obtain ⟨v1, b1⟩ := c
  dsimp only at hw1 hcc HS
  cases b1 with
  | false =>
    rw [if_neg (by simp)] at HS
    rcases hn1 with rfl | rfl
    all_goals
      go_enter Tryz.func153, Tryz.ntmps153
      go_wp2_with fail
      refine hc.mono ?_
      rintro en w2 ⟨rfl, hk2⟩
      clear hc
      have HA2 : Hid _ := HA.out.new hk2
      have HK2 : Hid (Kp (fun k => k = vb) w w2) := ((Kp.refl _ _).alloc _).trans hk2.none
      clear hk2 HA
      go_wp2_with (first | (go_at_call 149; refine (hcc _ HA2.out.vd).mono ?_; rintro en w4 ⟨rfl, hv4, hk4⟩) | (go_at_call 204; refine (typed_calls _).mono ?_; rintro en w6 ⟨rfl, hk6⟩))
      go_ret2
      go_light
      rw [HS.out]
      exact ⟨rfl, hv4.keep hk6 (fun h => h), (HK2.out.trans hk4).trans hk6.none⟩
  | true =>
    rcases hn1 with rfl | rfl
    · rw [if_neg (by simp)] at HS
      go_enter Tryz.func153, Tryz.ntmps153
      go_wp2_with fail
      refine hc.mono ?_
      rintro en w2 ⟨rfl, hk2⟩
      clear hc
      have HA2 : Hid _ := HA.out.new hk2
      have HK2 : Hid (Kp (fun k => k = vb) w w2) := ((Kp.refl _ _).alloc _).trans hk2.none
      clear hk2 HA
      go_wp2_with (first | (go_at_call 149; refine (hcc _ HA2.out.vd).mono ?_; rintro en w4 ⟨rfl, hv4, hk4⟩) | (go_at_call 204; refine (typed_calls _).mono ?_; rintro en w6 ⟨rfl, hk6⟩))
      go_ret2
      go_light
      rw [HS.out]
      exact ⟨rfl, hv4.keep hk6 (fun h => h), (HK2.out.trans hk4).trans hk6.none⟩
    · rw [if_pos ⟨rfl, rfl⟩] at HS
      go_enter Tryz.func153, Tryz.ntmps153
      go_wp2_with fail
      refine hc.mono ?_
      rintro en w2 ⟨rfl, hk2⟩
      clear hc
      have HA2 : Hid _ := HA.out.new hk2
      have HK2 : Hid (Kp (fun k => k = vb) w w2) := ((Kp.refl _ _).alloc _).trans hk2.none
      clear hk2 HA
      go_wp2_with fail
      refine (hcc _ HA2.out.vd).mono ?_
      rintro en w4 ⟨rfl, hv4, hk4⟩
      clear hcc
      go_wp2_with (first | (go_at_call 149; refine (carryW hv4 hw1 a hn2).mono ?_; rintro en w5 ⟨rfl, hv5, hk5⟩) | (go_at_call 204; refine (typed_calls _).mono ?_; rintro en w6 ⟨rfl, hk6⟩))
      go_ret2
      go_light
      rw [HS.out]
      exact ⟨rfl, hv5.keep hk6 (fun h => h), ((HK2.out.trans hk4).trans hk5).trans hk6.none⟩
theorem plain_calls (h : SV w vb mb M v) (hw : VW v f r) (x : Ins) (hx : InsOk x) (hp : params.size ≤ 4) (hd : decl.size ≤ 6) (ho : ¬ (x.op ≤ 5 ∨ 11 ≤ x.op ∧ x.op ≤ 15)) : PlainC w vb mb M params decl v x := by
  have hop := hx.op
  unfold opOk at hop
  by_cases h1 : x.op = 16 ∨ x.op = 17
  · exact plain_call h hw x hx h1
  by_cases h2 : x.op = 26
  · exact plain_drop h hw x h2
  by_cases h3 : x.op = 27
  · exact plain_sel h hw x h3
  by_cases h4 : x.op = 32 ∨ x.op = 33 ∨ x.op = 34
  · exact plain_local h hw x hx hp hd h4
  by_cases h5 : x.op = 35 ∨ x.op = 36
  · exact plain_global h hw x hx h5
  by_cases h6 : x.op ≤ 64
  · exact plain_mem h hw x hx (by omega)
  by_cases h7 : x.op ≤ 68
  · exact plain_const h hw x (by omega)
  · exact plain_num h hw x (by omega)
end
end Go.Proofs.Qxb6500275aGreatDoor
