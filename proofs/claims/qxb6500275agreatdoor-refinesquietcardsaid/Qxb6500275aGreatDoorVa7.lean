import Derived.Test.Qxb6500275aGreatDoorVa6
set_option maxRecDepth 100000
set_option linter.unusedVariables false
set_option linter.unusedSimpArgs false
namespace Go.Proofs.Qxb6500275aGreatDoor
open Go Go.RowKit
section
variable {w : World} {vb mb : Nat} {v : VS} {f : VF} {r : List VF} {M : Mod}
theorem memSig_w (op : Nat) (ho : 40 ≤ op ∧ op ≤ 62) : ((memSig op).1 = 1 ∨ (memSig op).1 = 2 ∨ (memSig op).1 = 4 ∨ (memSig op).1 = 8) ∧ ((memSig op).2.1 = 127 ∨ (memSig op).2.1 = 126 ∨ (memSig op).2.1 = 125 ∨ (memSig op).2.1 = 124) := by
  have : op = 40 ∨ op = 41 ∨ op = 42 ∨ op = 43 ∨ op = 44 ∨ op = 45 ∨ op = 46 ∨ op = 47 ∨ op = 48 ∨ op = 49 ∨ op = 50 ∨ op = 51 ∨ op = 52 ∨ op = 53 ∨ op = 54 ∨ op = 55 ∨ op = 56 ∨ op = 57 ∨ op = 58 ∨ op = 59 ∨ op = 60 ∨ op = 61 ∨ op = 62 := by omega
  rcases this with rfl | rfl | rfl | rfl | rfl | rfl | rfl | rfl | rfl | rfl | rfl | rfl | rfl | rfl | rfl | rfl | rfl | rfl | rfl | rfl | rfl | rfl | rfl
  all_goals decide
set_option maxHeartbeats 4000000 in
theorem memory_lo (h : SV w vb mb M v) (hw : VW v f r) (x : Ins) (hx : InsOk x) (ho : 40 ≤ x.op ∧ x.op ≤ 62) (h0 : ¬ M.memMin < 0) : Calls Tryz.prog 207 #[.pointer (some ⟨vb, 0, none⟩), .pointer (some ⟨mb, 0, none⟩), x.val] w (VC vb w (encR (memoryV M v x)) (memoryV M v x).1) := by
  have hxr := hx.x
  unfold u32R at hxr
  obtain ⟨hW, hT⟩ := memSig_w x.op ho
  have hA := h.new (w' := w.alloc (.cells #[.int .u8 x.op, .int .u32 x.x, .int .u64 x.y] 129)) ((Kp.refl _ _).alloc _)
  have hc1 := memSig_calls (w := w.alloc (.cells #[.int .u8 x.op, .int .u32 x.x, .int .u64 x.y] 129)) x.op ho
  obtain ⟨R, hR⟩ : ∃ R, memoryV M v x = R := ⟨_, rfl⟩
  have HS : Hid (R = memoryV M v x) := hR.symm
  rw [hR]
  unfold memoryV at HS
  rw [if_neg h0, if_neg (by omega), if_pos ho.2] at HS
  have c5 : w.cell? ⟨mb, 5, none⟩ = some (.int .i64 M.memMin) := by
    obtain ⟨F, hB, hF⟩ := h.md.is
    rw [hB.cell (by decide), hF.mm]
  have hml := h.md.lt
  have hmm := h.ok.memMin
  unfold limR at hmm
  obtain ⟨op, X, Y⟩ := x
  dsimp only at ho hxr hc1 hW hT hA HS
  obtain ⟨X, rfl⟩ := Int.eq_ofNat_of_zero_le hxr.1
  rw [Int.toNat_natCast] at HS
  generalize memSig op = sg at *
  obtain ⟨W, T, sn⟩ := sg
  dsimp only at hW hT HS
  unfold encM at hc1
  dsimp only at hc1
  have HA : Hid _ := hA
  have b63 : ((op : Int) == 63) = false := by rw [beq_eq_false_iff_ne]; omega
  clear h hx hA hR
  unfold Ins.val
  dsimp only
  have hT256 : T < 256 := by omega
  by_cases h3 : 3 < X
  · rw [if_pos (.inl (by omega))] at HS
    go_enter Tryz.func207, Tryz.ntmps207
    go_wp2_with fail
    refine hc1.mono ?_
    rintro en w2 ⟨rfl, hk2⟩
    clear hc1
    have g1 := hk2.cell (p := ⟨w.heap.size, 1, none⟩) (by simp) (fun h => h)
    rw [World.cell?_alloc_at _ _ _ _ rfl] at g1
    have g1' : w2.cell? ⟨w.heap.size, 1, none⟩ = some (.int .u32 (X : Int)) := g1
    clear g1
    go_wp2
    go_ret2
    go_light
    rw [HS.out]
    exact ⟨rfl, (HA.out.new hk2).vd, ((Kp.refl _ _).alloc _).trans hk2.none⟩
  · have hdv : ((W : Int) / 2 ^ X) = ((W / 2 ^ X : Nat) : Int) := by simp
    by_cases hz : W / 2 ^ X = 0
    · rw [if_pos (.inr hz)] at HS
      have hzb : ((W : Int) / 2 ^ X == 0) = true := by rw [hdv, hz]; rfl
      clear hdv hz
      go_enter Tryz.func207, Tryz.ntmps207
      go_wp2_with fail
      refine hc1.mono ?_
      rintro en w2 ⟨rfl, hk2⟩
      clear hc1
      have g1 := hk2.cell (p := ⟨w.heap.size, 1, none⟩) (by simp) (fun h => h)
      rw [World.cell?_alloc_at _ _ _ _ rfl] at g1
      have g1' : w2.cell? ⟨w.heap.size, 1, none⟩ = some (.int .u32 (X : Int)) := g1
      clear g1
      have HA2 : Hid _ := HA.out.new hk2
      have HK2 : Hid (Kp (fun k => k = vb) w w2) := ((Kp.refl _ _).alloc _).trans hk2.none
      clear HA hk2
      go_wp2
      go_ret2
      go_light
      rw [HS.out]
      exact ⟨rfl, HA2.out.vd, HK2.out⟩
    · rw [if_neg (by omega)] at HS
      have hzb : ((W : Int) / 2 ^ X == 0) = false := by rw [hdv, beq_eq_false_iff_ne]; omega
      clear hdv hz
      by_cases h54 : 54 ≤ op
      · rw [if_pos h54] at HS
        have hw1 := hw.carry T
        have hcc := fun (w' : World) (hv : Vd w' vb v) => carryW hv hw T hT256
        generalize carryV v T = c at *
        obtain ⟨v1, b1⟩ := c
        dsimp only at hw1 hcc HS
        cases b1 with
        | false =>
          rw [if_neg (by decide)] at HS
          go_enter Tryz.func207, Tryz.ntmps207
          go_wp2_with fail
          refine hc1.mono ?_
          rintro en w2 ⟨rfl, hk2⟩
          clear hc1
          have g1 := hk2.cell (p := ⟨w.heap.size, 1, none⟩) (by simp) (fun h => h)
          rw [World.cell?_alloc_at _ _ _ _ rfl] at g1
          have g1' : w2.cell? ⟨w.heap.size, 1, none⟩ = some (.int .u32 (X : Int)) := g1
          clear g1
          have HA2 : Hid _ := HA.out.new hk2
          have HK2 : Hid (Kp (fun k => k = vb) w w2) := ((Kp.refl _ _).alloc _).trans hk2.none
          clear HA hk2
          go_wp2_with (go_at_call 149; refine (hcc _ HA2.out.vd).mono ?_; rintro en w3 ⟨rfl, hv3, hk3⟩)
          go_ret2
          go_light
          rw [HS.out]
          exact ⟨rfl, hv3, HK2.out.trans hk3⟩
        | true =>
          rw [if_pos rfl] at HS
          go_enter Tryz.func207, Tryz.ntmps207
          go_wp2_with fail
          refine hc1.mono ?_
          rintro en w2 ⟨rfl, hk2⟩
          clear hc1
          have g1 := hk2.cell (p := ⟨w.heap.size, 1, none⟩) (by simp) (fun h => h)
          rw [World.cell?_alloc_at _ _ _ _ rfl] at g1
          have g1' : w2.cell? ⟨w.heap.size, 1, none⟩ = some (.int .u32 (X : Int)) := g1
          clear g1
          have HA2 : Hid _ := HA.out.new hk2
          have HK2 : Hid (Kp (fun k => k = vb) w w2) := ((Kp.refl _ _).alloc _).trans hk2.none
          clear HA hk2
          go_wp2_with fail
          refine (hcc _ HA2.out.vd).mono ?_
          rintro en w3 ⟨rfl, hv3, hk3⟩
          have HV3 : Hid _ := hv3
          have HK3 : Hid _ := HK2.out.trans hk3
          clear hcc hv3 hk3 HA2 HK2
          go_wp2_with (first | (go_at_call 149; refine (carryW HV3.out hw1 127 (by decide)).mono ?_; rintro en w4 ⟨rfl, hv4, hk4⟩) | (go_at_call 204; refine (typed_calls _).mono ?_; rintro en w6 ⟨rfl, hk6⟩))
          go_ret2
          go_light
          rw [HS.out]
          exact ⟨rfl, hv4.keep hk6 (fun h => h), (HK3.out.trans hk4).trans hk6.none⟩
      · rw [if_neg h54] at HS
        go_enter Tryz.func207, Tryz.ntmps207
        go_wp2_with fail
        refine hc1.mono ?_
        rintro en w2 ⟨rfl, hk2⟩
        clear hc1
        have g1 := hk2.cell (p := ⟨w.heap.size, 1, none⟩) (by simp) (fun h => h)
        rw [World.cell?_alloc_at _ _ _ _ rfl] at g1
        have g1' : w2.cell? ⟨w.heap.size, 1, none⟩ = some (.int .u32 (X : Int)) := g1
        clear g1
        have HA2 : Hid _ := HA.out.new hk2
        have HK2 : Hid (Kp (fun k => k = vb) w w2) := ((Kp.refl _ _).alloc _).trans hk2.none
        clear HA hk2
        go_wp2_with (first | (go_at_call 149; refine (carryW HA2.out.vd hw 127 (by decide)).mono ?_; rintro en w4 ⟨rfl, hv4, hk4⟩) | (go_at_call 204; refine (typed_calls _).mono ?_; rintro en w6 ⟨rfl, hk6⟩))
        go_ret2
        go_light
        rw [HS.out]
        exact ⟨rfl, hv4.keep hk6 (fun h => h), (HK2.out.trans hk4).trans hk6.none⟩
set_option maxHeartbeats 4000000 in
theorem memory_calls2 (h : SV w vb mb M v) (hw : VW v f r) (x : Ins) (hx : InsOk x) (ho : 40 ≤ x.op ∧ x.op ≤ 64) : Calls Tryz.prog 207 #[.pointer (some ⟨vb, 0, none⟩), .pointer (some ⟨mb, 0, none⟩), x.val] w (VC vb w (encR (memoryV M v x)) (memoryV M v x).1) := by
  by_cases hc : ¬ M.memMin < 0 ∧ x.op ≤ 62
  · exact memory_lo h hw x hx ⟨ho.1, hc.2⟩ hc.1
  have hA := h.new (w' := w.alloc (.cells #[.int .u8 x.op, .int .u32 x.x, .int .u64 x.y] 129)) ((Kp.refl _ _).alloc _)
  obtain ⟨R, hR⟩ : ∃ R, memoryV M v x = R := ⟨_, rfl⟩
  have HS : Hid (R = memoryV M v x) := hR.symm
  rw [hR]
  unfold memoryV at HS
  have c5 : w.cell? ⟨mb, 5, none⟩ = some (.int .i64 M.memMin) := by
    obtain ⟨F, hB, hF⟩ := h.md.is
    rw [hB.cell (by decide), hF.mm]
  have hml := h.md.lt
  have hmm := h.ok.memMin
  unfold limR at hmm
  obtain ⟨op, X, Y⟩ := x
  dsimp only at ho hA HS hc
  have HA : Hid _ := hA
  clear h hx hA hR
  unfold Ins.val
  dsimp only
  by_cases h0 : M.memMin < 0
  · rw [if_pos h0] at HS
    go_enter Tryz.func207, Tryz.ntmps207
    go_wp2
    go_ret2
    go_light
    rw [HS.out]
    exact ⟨rfl, HA.out.vd, (Kp.refl _ _).alloc _⟩
  · rw [if_neg h0] at HS
    by_cases h63 : op = 63
    · subst h63
      rw [if_pos rfl] at HS
      go_enter Tryz.func207, Tryz.ntmps207
      go_wp2
      go_ret2
      go_light
      rw [HS.out]
      exact ⟨rfl, HA.out.vd, (Kp.refl _ _).alloc _⟩
    · have h64 : op = 64 := by omega
      subst h64
      rw [if_neg h63, if_neg (by omega)] at HS
      go_enter Tryz.func207, Tryz.ntmps207
      go_wp2_with (first | (go_at_call 149; refine (carryW HA.out.vd hw 127 (by decide)).mono ?_; rintro en w4 ⟨rfl, hv4, hk4⟩) | (go_at_call 204; refine (typed_calls _).mono ?_; rintro en w6 ⟨rfl, hk6⟩))
      go_ret2
      go_light
      rw [HS.out]
      exact ⟨rfl, hv4.keep hk6 (fun h => h), (((Kp.refl _ _).alloc _).trans hk4).trans hk6.none⟩
end
end Go.Proofs.Qxb6500275aGreatDoor
