import Derived.Test.Qxb6500275aGreatDoorVb2
import Derived.StillTailTactics
set_option maxRecDepth 1000000
set_option linter.unusedVariables false
set_option linter.unusedSimpArgs false
namespace Go.Proofs.Qxb6500275aGreatDoor
open Go Go.RowKit
section
variable {w w1 : World} {vb mb fk fo : Nat} {M : Mod} {fn : Fn} {params : ByteArray} {pc : Nat} {v : VS} {x : Ins} {f : VF} {r : List VF}
set_option maxHeartbeats 8000000 in
theorem c84_blk2 (ho : x.op = 2) : Case84 w vb mb fk fo M fn params pc v x := by
  intro wr c u Q hB hI hcn hF hX hx hps hu hN hR
  obtain ⟨kb, nb, f, r, hd⟩ := rd84 hB hI hcn hF hX hx
  have HI : Hid _ := hI
  obtain ⟨c1, c2, d0, d1, d2, hpn, hnb2, hnb, hkl, hfl, hctl, hw, hA, hxr, hyr, hfr⟩ := hd
  have HN : Hid (Next84 w vb mb fk fo M fn params pc c (stepV M fn params pc v x) Q) := hN
  have HR : Hid (Home84 w vb mb fk fo M fn (stepV M fn params pc v x) Q) := hR
  have HA : Hid _ := hA
  have HW : Hid _ := hw
  have HC : Hid _ := hctl
  have HNB : Hid _ := hnb
  clear hB hI hcn hF hX hx hN hR hnb hw hctl hA
  obtain ⟨S, hS⟩ : ∃ S, stepV M fn params pc v x = S := ⟨_, rfl⟩
  have HS : Hid (S = if 6 < v.ctl.length then (v, some (pc + 1, 11)) else (⟨v.ops, ⟨x.op, x.x.toNat % 256, v.ops.length, false⟩ :: v.ctl⟩, none)) := by
    show _ = _
    rw [← hS]
    unfold stepV
    rw [if_neg (by omega), if_neg (by omega), if_pos (by omega)]
  rw [hS] at HN HR
  obtain ⟨op, X1, Y1⟩ := x
  dsimp only at ho d0 d1 d2 hxr hyr HS HA
  subst ho
  obtain ⟨X1, rfl⟩ := Int.eq_ofNat_of_zero_le hxr.1
  rw [Int.toNat_natCast] at HS
  clear hS
  have lC := HA.out.sv.vd.n.2.2.2.2.2
  have hvl : vb < wr.heap.size := by
    have h1 := HA.out.sv.lt
    have h2 := HA.out.fn.le
    omega
  obtain ⟨b11, g11, b40, g40, lO, _⟩ := HA.out.sv.vd.n
  have b40w := b40
  rw [World.cell?_alloc_past _ _ _ hvl] at b40w
  obtain ⟨d, hd⟩ : ∃ d, v.ctl.length = d := ⟨_, rfl⟩
  rw [hd] at b40 lC b40w
  have HD : Hid _ := hd
  clear hd
  by_cases h6 : 6 < d
  · rw [if_pos (by rw [HD.out]; exact h6)] at HS
    unfold fr84
    rw [hu]
    conv => arg 2; whnf
    go_wp2
    exact HR.out _ _ v (pc + 1) 11 HS.out rfl rfl HA.out
  · rw [if_neg (by rw [HD.out]; exact h6)] at HS
    obtain ⟨F, hF1, _⟩ := HA.out.sv.vd.is
    have e0 := hF1 (12 + d * 4) (by omega)
    have e1 := hF1 (12 + d * 4 + 1) (by omega)
    have e2 := hF1 (12 + d * 4 + 2) (by omega)
    have e3 := hF1 (12 + d * 4 + 3) (by omega)
    obtain ⟨e0, z0⟩ := e0
    obtain ⟨e1, z1⟩ := e1
    obtain ⟨e2, z2⟩ := e2
    obtain ⟨e3, z3⟩ := e3
    have hd7 : (d : Int) < 7 := by omega
    have hne : ¬ 12 + d * 4 = 40 := by omega
    clear hF1
    have x0 : (wr.alloc (.cells #[.int .u8 2, .int .u32 (X1 : Int), .int .u64 Y1] 129)).cell? ⟨wr.heap.size, 0, none⟩ = some (.int .u8 2) := by rw [World.cell?_alloc_at _ _ _ _ rfl]; rfl
    have x1 : (wr.alloc (.cells #[.int .u8 2, .int .u32 (X1 : Int), .int .u64 Y1] 129)).cell? ⟨wr.heap.size, 1, none⟩ = some (.int .u32 (X1 : Int)) := by rw [World.cell?_alloc_at _ _ _ _ rfl]; rfl
    unfold fr84
    rw [hu]
    conv => arg 2; whnf
    go_wp2_with fail
    have hxv : ¬ wr.heap.size = vb := by omega
    generalize wr.heap.size = xb at *
    generalize wr.alloc (.cells #[.int .u8 2, .int .u32 (X1 : Int), .int .u64 Y1] 129) = W at *
    clear d0 d1 d2 c1 c2 b40w hkl hfl hvl
    go_still_tail 18, (by kernel_rfl)
    go_wp2
    have hO : Vd _ vb _ := HA.out.sv.vd.open1 (ops := v.ops) (ctl := v.ctl) HD.out (by omega) 2 (X1 % 256)
    rw [show ((X1 % 256 : Nat) : Int) = (X1 : Int) % 256 by omega] at hO
    exact HN.out _ _ _ HS.out (by kernel_rfl) rfl ((HA.out.step (((((kself vb W).put _).put _).put _).put _ |>.put _) hO).new (Kp.refl _ _).drew)
set_option maxHeartbeats 8000000 in
theorem c84_blk3 (ho : x.op = 3) : Case84 w vb mb fk fo M fn params pc v x := by
  intro wr c u Q hB hI hcn hF hX hx hps hu hN hR
  obtain ⟨kb, nb, f, r, hd⟩ := rd84 hB hI hcn hF hX hx
  have HI : Hid _ := hI
  obtain ⟨c1, c2, d0, d1, d2, hpn, hnb2, hnb, hkl, hfl, hctl, hw, hA, hxr, hyr, hfr⟩ := hd
  have HN : Hid (Next84 w vb mb fk fo M fn params pc c (stepV M fn params pc v x) Q) := hN
  have HR : Hid (Home84 w vb mb fk fo M fn (stepV M fn params pc v x) Q) := hR
  have HA : Hid _ := hA
  have HW : Hid _ := hw
  have HC : Hid _ := hctl
  have HNB : Hid _ := hnb
  clear hB hI hcn hF hX hx hN hR hnb hw hctl hA
  obtain ⟨S, hS⟩ : ∃ S, stepV M fn params pc v x = S := ⟨_, rfl⟩
  have HS : Hid (S = if 6 < v.ctl.length then (v, some (pc + 1, 11)) else (⟨v.ops, ⟨x.op, x.x.toNat % 256, v.ops.length, false⟩ :: v.ctl⟩, none)) := by
    show _ = _
    rw [← hS]
    unfold stepV
    rw [if_neg (by omega), if_neg (by omega), if_pos (by omega)]
  rw [hS] at HN HR
  obtain ⟨op, X1, Y1⟩ := x
  dsimp only at ho d0 d1 d2 hxr hyr HS HA
  subst ho
  obtain ⟨X1, rfl⟩ := Int.eq_ofNat_of_zero_le hxr.1
  rw [Int.toNat_natCast] at HS
  clear hS
  have lC := HA.out.sv.vd.n.2.2.2.2.2
  have hvl : vb < wr.heap.size := by
    have h1 := HA.out.sv.lt
    have h2 := HA.out.fn.le
    omega
  obtain ⟨b11, g11, b40, g40, lO, _⟩ := HA.out.sv.vd.n
  have b40w := b40
  rw [World.cell?_alloc_past _ _ _ hvl] at b40w
  obtain ⟨d, hd⟩ : ∃ d, v.ctl.length = d := ⟨_, rfl⟩
  rw [hd] at b40 lC b40w
  have HD : Hid _ := hd
  clear hd
  by_cases h6 : 6 < d
  · rw [if_pos (by rw [HD.out]; exact h6)] at HS
    unfold fr84
    rw [hu]
    conv => arg 2; whnf
    go_wp2
    exact HR.out _ _ v (pc + 1) 11 HS.out rfl rfl HA.out
  · rw [if_neg (by rw [HD.out]; exact h6)] at HS
    obtain ⟨F, hF1, _⟩ := HA.out.sv.vd.is
    have e0 := hF1 (12 + d * 4) (by omega)
    have e1 := hF1 (12 + d * 4 + 1) (by omega)
    have e2 := hF1 (12 + d * 4 + 2) (by omega)
    have e3 := hF1 (12 + d * 4 + 3) (by omega)
    obtain ⟨e0, z0⟩ := e0
    obtain ⟨e1, z1⟩ := e1
    obtain ⟨e2, z2⟩ := e2
    obtain ⟨e3, z3⟩ := e3
    have hd7 : (d : Int) < 7 := by omega
    have hne : ¬ 12 + d * 4 = 40 := by omega
    clear hF1
    have x0 : (wr.alloc (.cells #[.int .u8 3, .int .u32 (X1 : Int), .int .u64 Y1] 129)).cell? ⟨wr.heap.size, 0, none⟩ = some (.int .u8 3) := by rw [World.cell?_alloc_at _ _ _ _ rfl]; rfl
    have x1 : (wr.alloc (.cells #[.int .u8 3, .int .u32 (X1 : Int), .int .u64 Y1] 129)).cell? ⟨wr.heap.size, 1, none⟩ = some (.int .u32 (X1 : Int)) := by rw [World.cell?_alloc_at _ _ _ _ rfl]; rfl
    unfold fr84
    rw [hu]
    conv => arg 2; whnf
    go_wp2_with fail
    have hxv : ¬ wr.heap.size = vb := by omega
    generalize wr.heap.size = xb at *
    generalize wr.alloc (.cells #[.int .u8 3, .int .u32 (X1 : Int), .int .u64 Y1] 129) = W at *
    clear d0 d1 d2 c1 c2 b40w hkl hfl hvl
    go_still_tail 18, (by kernel_rfl)
    go_wp2
    have hO : Vd _ vb _ := HA.out.sv.vd.open1 (ops := v.ops) (ctl := v.ctl) HD.out (by omega) 3 (X1 % 256)
    rw [show ((X1 % 256 : Nat) : Int) = (X1 : Int) % 256 by omega] at hO
    exact HN.out _ _ _ HS.out (by kernel_rfl) rfl ((HA.out.step (((((kself vb W).put _).put _).put _).put _ |>.put _) hO).new (Kp.refl _ _).drew)
end
end Go.Proofs.Qxb6500275aGreatDoor
