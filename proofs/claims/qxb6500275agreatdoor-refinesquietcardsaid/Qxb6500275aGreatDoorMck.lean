import Derived.Test.Qxb6500275aGreatDoorMeb
import Derived.Deep.QuietTactic
import Derived.BigQuiet
set_option maxRecDepth 100000
set_option linter.unusedVariables false
set_option linter.unusedSimpArgs false
namespace Go.Proofs.Qxb6500275aGreatDoor
open Go Go.RowKit
theorem eq263 (b0 b1 b2 b3 b4 b5 b6 b7 : Int) (w : World) : (Op.equalIn 10000 263 (.agg #[.int .u8 b0, .int .u8 b1, .int .u8 b2, .int .u8 b3, .int .u8 b4, .int .u8 b5, .int .u8 b6, .int .u8 b7]) (.agg #[.int .u8 b0, .int .u8 b1, .int .u8 b2, .int .u8 b3, .int .u8 b4, .int .u8 b5, .int .u8 b6, .int .u8 b7])).run Tryz.prog w = .ok true w := by
  have u5 := Tryz.underlying5
  have a5 := Tryz.isAgg5
  have z5 := Tryz.sizeOf5
  rw [show (10000 : Nat) = 9999 + 1 from rfl, Op.equalIn]
  simp only [Sem.run_bind, run_underlying Tryz.underlying263, Result.andThen_ok]
  simp only [Std.Legacy.Range.forIn_eq_forIn_range', Std.Legacy.Range.size, Nat.sub_zero, Nat.add_sub_cancel, Nat.div_one, List.range'_succ, List.range'_zero, List.forIn_cons, List.forIn_nil]
  go_simp
theorem sizeOfU104 (w : World) : (sizeOf (Tryz.prog.elem 104)).run Tryz.prog w = .ok 1 w := by
  have e : Tryz.prog.elem 104 = 5 := by kernel_rfl
  have h : (sizeOf 5).run Tryz.prog w = .ok 1 w := by kernel_rfl
  rw [e]
  exact h
theorem slice104 (B len cap i : Nat) (h : i + 8 ≤ cap) (w : World) : (Instr.sliceAt 104 (.slice (some ⟨B, 0, none⟩) len cap) (some (.int .i64 (i : Int))) (some (.int .i64 ((i : Int) + 8))) none).run Tryz.prog w = .ok (.slice (some ⟨B, i, none⟩) 8 (cap - i)) w := by
  rw [run_sliceAt_slice w 104 _ _ _ _ (by kernel_rfl), run_slice_lh w 104 _ len cap (by kernel_rfl) .i64 .i64 (i : Int) ((i : Int) + 8) (by omega) (by omega) (by omega), sizeOfU104]
  have e1 : ((i : Int) + 8).toNat = i + 8 := by omega
  have e2 : ¬ cap = i := by omega
  simp only [Result.andThen_ok, sliced, Int.toNat_natCast, e1]
  simp [add_non, e2]
section
variable {w w' : World} {sb rb : Nat} {S : Sm}
set_option maxHeartbeats 8000000 in
theorem mcheck_calls (h : Mm w sb rb S) (hS : SmOk S) : Calls Tryz.prog 141 #[.pointer (some ⟨sb, 0, none⟩)] w (fun en w' => en = .returned (.bool true) ∧ Kp (fun _ => False) w w') := by
  have HH : Hid _ := h
  have hc := h.cells
  have c0 := hc.c0
  have c1 := hc.c1
  have c2 := hc.c2
  have c11 := hc.c11
  have c16 := hc.c16
  have HTB : Hid _ := hc.tb
  have HBB : Hid _ := hc.bb
  have hm := hS.m
  have ht8 := hS.t.1
  have hg4 := hS.g.1
  have HT : Hid _ := hS.t.2
  have HNO : Hid _ := hS.no
  obtain ⟨nt, hnt⟩ : ∃ n, S.tab.length = n := ⟨_, rfl⟩
  obtain ⟨ng, hng⟩ : ∃ n, S.gl.length = n := ⟨_, rfl⟩
  obtain ⟨nm, hnm⟩ : ∃ n, S.bs.length = n := ⟨_, rfl⟩
  obtain ⟨cp, hcp⟩ : ∃ n, S.cap = n := ⟨_, rfl⟩
  rw [hnt] at c11 ht8
  rw [hng] at c16 hg4
  rw [hnm, hcp] at c2 hm
  have HNT : Hid _ := hnt
  have HNM : Hid _ := hnm
  have HCP : Hid _ := hcp
  obtain ⟨m1, m2, m3, m4⟩ := hm
  have HM1 : Hid _ := m1
  have HM2 : Hid _ := m2
  have i1 : ¬ ((nt : Int) < 0) := by omega
  have i2 : ¬ ((8 : Int) < (nt : Int)) := by omega
  have i3 : ¬ ((ng : Int) < 0) := by omega
  have i4 : ¬ ((4 : Int) < (ng : Int)) := by omega
  clear h hS hc hnt hng hnm hcp m1 m2
  go_enter Tryz.func141, Tryz.ntmps141
  go_wp2_with fail
  go_loopw [44] (fun ii w1 => ∃ (i : Nat), i ≤ nt ∧ ii = .int .i64 i ∧ Hid (w1 = w)) (fun ii _ => nt + 1 - (intOf ii).toNat)
  case atStart => exact ⟨0, by omega, rfl, rfl⟩
  case round =>
    obtain ⟨i, hi, rfl, HW⟩ := hrel
    have hw := HW.out
    subst hw
    by_cases hlt : i < nt
    · obtain ⟨x, hx⟩ : ∃ x, S.tab[i]? = some x := ⟨_, List.getElem?_eq_getElem (by rw [HNT.out]; exact hlt)⟩
      have cx := HTB.out i x hx (by omega)
      have hx1 := (HT.out x (List.mem_of_getElem? hx)).1
      have hib : (i : Int) < (nt : Int) := by omega
      have hxn : ¬ (x < -1) := by omega
      clear hx
      go_wp2_with fail
      go_roundw
      case rel => exact ⟨i + 1, by omega, by go_num, by trivial⟩
      case measure => simp [intOf]; omega
    · have hie : nt = i := by omega
      subst hie
      cases hh : S.has with
      | false =>
        rw [hh] at c1 c2
        obtain ⟨e1, e2⟩ := HNO.out hh
        have e3 : nm = 0 := by rw [← HNM.out, e1]; rfl
        have e4 : cp = 0 := by rw [← HCP.out, e2]
        subst e3 e4
        clear hh
        go_wp2_with fail
        refine bodyPost_ret (v := .bool true) (by simp [results, Tryz.results141, go_sem]) rfl ?_
        exact ⟨rfl, Kp.refl _ _⟩
      | true =>
        rw [hh, if_pos rfl] at c2
        rw [hh] at c1
        obtain ⟨q, hq⟩ : ∃ q, nm = 8 * q := ⟨nm / 8, by have := HM1.out; omega⟩
        have r1 : (nm : Int) % 64 = 0 := by have := HM1.out; omega
        have r2 : (cp : Int) % 64 = 0 := by have := HM2.out; omega
        have r3 : Int.tmod (nm : Int) 64 = 0 := by rw [Int.tmod_eq_emod_of_nonneg (by omega)]; exact r1
        have r4 : Int.tmod (cp : Int) 64 = 0 := by rw [Int.tmod_eq_emod_of_nonneg (by omega)]; exact r2
        have r5 : ¬ ((384 : Int) < (cp : Int)) := by omega
        have HHS : Hid _ := hh
        clear hh
        go_wp2_with fail
        clear c0 c1 c2 c11 c16 r1 r2 r3 r4 r5 i1 i2 i3 i4
        go_loopw [6] (fun ii w1 => ∃ (i : Nat) (j : Nat), j ≤ q ∧ i = 8 * j ∧ ii = .int .i64 i ∧ Hid (Kp (fun _ => False) w1 w1 ∧ Kp (fun _ => False) wr w1)) (fun ii _ => 8 * q + 1 - (intOf ii).toNat)
        case atStart => exact ⟨0, 0, by omega, rfl, rfl, Kp.refl _ _, Kp.refl _ _⟩
        case round =>
          obtain ⟨i, j, hj, hij, rfl, HK⟩ := hrel
          have hc := (HH.out.keep HK.out.2 (fun h => h) (fun h => h)).cells
          have c0 := hc.c0
          have c2 := hc.c2
          rw [HHS.out, if_pos rfl, HNM.out, HCP.out] at c2
          by_cases hlt : j < q
          · have hin : i + 8 ≤ nm := by omega
            have hb : ∀ t, t < 8 → ∃ x, S.bs[i + t]? = some x := fun t ht => ⟨_, List.getElem?_eq_getElem (by rw [HNM.out]; omega)⟩
            obtain ⟨b0, e0⟩ := hb 0 (by decide)
            obtain ⟨b1, e1⟩ := hb 1 (by decide)
            obtain ⟨b2, e2⟩ := hb 2 (by decide)
            obtain ⟨b3, e3⟩ := hb 3 (by decide)
            obtain ⟨b4, e4⟩ := hb 4 (by decide)
            obtain ⟨b5, e5⟩ := hb 5 (by decide)
            obtain ⟨b6, e6⟩ := hb 6 (by decide)
            obtain ⟨b7, e7⟩ := hb 7 (by decide)
            rw [Nat.add_zero] at e0
            have d0 := hc.bb i b0 e0 (by omega)
            have d1 := hc.bb (i + 1) b1 e1 (by omega)
            have d2 := hc.bb (i + 2) b2 e2 (by omega)
            have d3 := hc.bb (i + 3) b3 e3 (by omega)
            have d4 := hc.bb (i + 4) b4 e4 (by omega)
            have d5 := hc.bb (i + 5) b5 e5 (by omega)
            have d6 := hc.bb (i + 6) b6 e6 (by omega)
            have d7 := hc.bb (i + 7) b7 e7 (by omega)
            have heq := eq263 (b0 : Int) (b1 : Int) (b2 : Int) (b3 : Int) (b4 : Int) (b5 : Int) (b6 : Int) (b7 : Int)
            have hib : (i : Int) < (nm : Int) := by omega
            have hc1 : (i : Int) + 8 ≤ (cp : Int) := by omega
            have hc2 : (i : Int) + 8 ≤ 384 := by omega
            have hs1 := slice104 rb nm cp i (by omega)
            have hs2 := slice104 rb 384 384 i (by omega)
            have ha1 := fun W => at263 W (some ⟨rb, i, none⟩) 8 (cp - i) (by decide)
            have ha2 := fun W => at263 W (some ⟨rb, i, none⟩) 8 (384 - i) (by decide)
            have HMJ : Hid (i + 8 = 8 * (j + 1)) := by show i + 8 = 8 * (j + 1); omega
            clear hb hc e0 e1 e2 e3 e4 e5 e6 e7 hij hin m3 m4
            go_wp2_with fail
            go_quiet (fail)
            go_wp2_with fail
            go_roundw
            case rel => exact ⟨i + 8, j + 1, by omega, HMJ.out, by go_num, Kp.refl _ _, HK.out.2.trans ⟨rfl, rfl, rfl, Nat.le_refl _, fun _ _ _ => rfl⟩⟩
            case measure =>
              have := HMJ.out
              simp [intOf]
              omega
          · have hin : ¬ ((i : Int) < (nm : Int)) := by omega
            go_wp2_with fail
            refine bodyPost_ret (v := .bool true) (by simp [results, Tryz.results141, go_sem]) rfl ?_
            exact ⟨rfl, HK.out.2⟩
end
end Go.Proofs.Qxb6500275aGreatDoor
