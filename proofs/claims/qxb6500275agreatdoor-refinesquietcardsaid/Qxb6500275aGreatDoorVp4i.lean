import Derived.Test.Qxb6500275aGreatDoorVp1
import Derived.Test.Qxb6500275aGreatDoorVm4
set_option maxRecDepth 1000000
set_option linter.unusedVariables false
set_option linter.unusedSimpArgs false
namespace Go.Proofs.Qxb6500275aGreatDoor
open Go Go.RowKit
def fr188x (m nf ii xp : Value) (c u : Nat → Value) : Array Value := #[m, c 1, u 2, u 3, nf, c 5, c 6, c 7, ii, xp, u 10, u 11, c 12, c 13, c 14, c 15, c 16, c 17, c 18, c 19, c 20, c 21, c 22, c 23, c 24, c 25, c 26, c 27, c 28, c 29, c 30, c 31, c 32, c 33, c 34, c 35, c 36, c 37, c 38, c 39, c 40, c 41, c 42, c 43, c 44, c 45, c 46, c 47, c 48, c 49, c 50, c 51, c 52, c 53, c 54, c 55, c 56, c 57, c 58, c 59, c 60, c 61, c 62, c 63, c 64, c 65, c 66, c 67, c 68, c 69, c 70, c 71, c 72, c 73, c 74, c 75, c 76, c 77, c 78, c 79, c 80, c 81, c 82, c 83, c 84, c 85, c 86, c 87, c 88, c 89, c 90, c 91, c 92, c 93, c 94, c 95, c 96, c 97, c 98, c 99, c 100, c 101, c 102, c 103, c 104, c 105, c 106, c 107, c 108, c 109, c 110, c 111, c 112, c 113, c 114, c 115, c 116, c 117, c 118, c 119, c 120, c 121, c 122, c 123, c 124, c 125, c 126, c 127, c 128, c 129, c 130, c 131, c 132, c 133, c 134, c 135, c 136, c 137, c 138, c 139, c 140, c 141, c 142, c 143, c 144, c 145, c 146, c 147, c 148, c 149, c 150, c 151, c 152, c 153, c 154, c 155, c 156, c 157, c 158, c 159, c 160, c 161, c 162, c 163, c 164, c 165, c 166, c 167, c 168, c 169, c 170, c 171, c 172, c 173, c 174, c 175, c 176, c 177, u 178, u 179, u 180, u 181, u 182, u 183, u 184, u 185, u 186, u 187, u 188, u 189, u 190, u 191, u 192, u 193, u 194, u 195, u 196, u 197, u 198, u 199, u 200, u 201, u 202, u 203, u 204, u 205, u 206, u 207, u 208, u 209, u 210, u 211, u 212, u 213, u 214, u 215, u 216, u 217, u 218, u 219, u 220, u 221, u 222, u 223, u 224, u 225, u 226, u 227, u 228, u 229, u 230, u 231, u 232, u 233, u 234, u 235, u 236, u 237, u 238, u 239, u 240, u 241, c 242, c 243, c 244, c 245, c 246, c 247, c 248, c 249, c 250, c 251, c 252, c 253, c 254, c 255, c 256, c 257, c 258, c 259, c 260, c 261, c 262, c 263, c 264, c 265, c 266, c 267, c 268, c 269, c 270, c 271, c 272, c 273, c 274, c 275, c 276, c 277, c 278, c 279, c 280, c 281, c 282, c 283, c 284, c 285, c 286, c 287, c 288, c 289, c 290, c 291, c 292, c 293, c 294, c 295, c 296, c 297, c 298, c 299, c 300, c 301, c 302, c 303, c 304, c 305, c 306, c 307, c 308, c 309, c 310, c 311, c 312, c 313, c 314, c 315, c 316, c 317, c 318, c 319, c 320, c 321, c 322, c 323, c 324, c 325, c 326, c 327, c 328, c 329, c 330, c 331, c 332, c 333, c 334, c 335, c 336, c 337, c 338, c 339, c 340]
set_option maxHeartbeats 8000000 in
theorem parts_l4i {w0 w1 : World} {mb nx xb i : Nat} {m : MT} {nf : Nat} {nm : ByteArray} {kd ix : Value} {c : Nat → Value} {tmps : Array Value} {Q : Exit → Act → World → Prop} (hm : Mw w0 mb m) (hk : Kp (fun _ => False) w0 w1) (hn : m.exports.length = nx) (hin : i < nx) (hn8 : nx ≤ 8) (hx : w1.cell? ⟨xb, 0, none⟩ = some (.string nm))
    (ht : tmps = fr188x (.pointer (some ⟨mb, 0, none⟩)) (.int .i64 (nf : Int)) (.int .i64 (i : Int)) (.pointer (some ⟨xb, 0, none⟩)) c (fun j => tmps.getD j undef)) (h0 : tmps.getD 11 undef = .int .i64 0)
    (hE : ∀ tmps' w', tmps' = fr188x (.pointer (some ⟨mb, 0, none⟩)) (.int .i64 (nf : Int)) (.int .i64 (i : Int)) (.pointer (some ⟨xb, 0, none⟩)) c (fun j => tmps'.getD j undef) → Kp (fun _ => False) w0 w' → (m.exports.take i).any (fun y => decide (y.name = nm)) = false → Q (.exit 9) ⟨tmps', []⟩ w')
    (hR : ∀ tmps' w', (m.exports.take i).any (fun y => decide (y.name = nm)) = true → tmps'.getD 2 undef = .int .i64 (i : Int) → tmps'.getD 3 undef = .int .i64 18 → Kp (fun _ => False) w0 w' → Q .ret ⟨tmps', []⟩ w') :
    Code.wp Tryz.prog (.loop ((lpsOf ((((Tryz.f188.body.map lpsOf).getD [])[3]?).getD .skip))[0]?.getD .skip)) Q ⟨tmps, []⟩ w1 := by
  have HW : Hid (Mw w0 mb m) := hm
  have HK0 : Hid (Kp (fun _ => False) w0 w1) := hk
  have HN : Hid _ := hn
  have HX0 : Hid _ := hx
  have HE : Hid (∀ tmps' w', tmps' = fr188x (.pointer (some ⟨mb, 0, none⟩)) (.int .i64 (nf : Int)) (.int .i64 (i : Int)) (.pointer (some ⟨xb, 0, none⟩)) c (fun j => tmps'.getD j undef) → Kp (fun _ => False) w0 w' → (m.exports.take i).any (fun y => decide (y.name = nm)) = false → Q (.exit 9) ⟨tmps', []⟩ w') := hE
  have HR : Hid (∀ tmps' w', (m.exports.take i).any (fun y => decide (y.name = nm)) = true → tmps'.getD 2 undef = .int .i64 (i : Int) → tmps'.getD 3 undef = .int .i64 18 → Kp (fun _ => False) w0 w' → Q .ret ⟨tmps', []⟩ w') := hR
  clear hm hk hE hR hn hx
  generalize (fun j => tmps.getD j undef) = u at ht
  have h0' : u 11 = .int .i64 0 := by rw [ht] at h0; exact h0
  clear h0
  subst ht
  unfold fr188x
  dsimp only
  rw [h0']
  conv => arg 2; arg 1; whnf
  go_loopw [11] (fun jj u2 => ∃ (j : Nat), j ≤ i ∧ jj = .int .i64 j ∧ Hid (Kp (fun _ => False) w1 u2) ∧ Hid (∀ (k : Nat) (t : Exp), k < j → m.exports[k]? = some t → ¬ t.name = nm)) (fun jj _ => i + 1 - (intOf jj).toNat)
  case atStart => exact ⟨0, by omega, rfl, Kp.refl _ _, fun k t h => by omega⟩
  case round =>
    obtain ⟨j, hj, rfl, HK, HJ⟩ := hrel
    have HWu : Hid (Mw _ mb m) := HW.out.keep (HK0.out.trans HK.out) (fun _ _ h => h)
    obtain ⟨la, lc, hlv⟩ := HWu.out.slEx
    have cL := HWu.out.c8
    rw [hlv, HN.out] at cL
    have cX : wr.cell? ⟨xb, 0, none⟩ = some (.string nm) := by
      rw [HK.out.cell (p := ⟨xb, 0, none⟩) (lt_of_cell HX0.out) (fun h => h)]
      exact HX0.out
    by_cases hjt : j < i
    · obtain ⟨y, hy⟩ : ∃ t, m.exports[j]? = some t := ⟨_, List.getElem?_eq_getElem (by rw [HN.out]; omega)⟩
      obtain ⟨g, cap, gv, g1, g2, g3, gc⟩ := HWu.out.atEx hy
      rw [hlv] at gv
      simp at gv
      obtain ⟨rfl, rfl⟩ := gv
      have e0 := gc 0 (.string y.name) rfl
      rw [Nat.add_zero] at e0
      have HY : Hid (m.exports[j]? = some y) := hy
      have hjb : (j : Int) < (nx : Int) := by omega
      have hji : (j : Int) < (i : Int) := by omega
      obtain ⟨yn, hyn⟩ : ∃ n, y.name = n := ⟨_, rfl⟩
      have HYN : Hid (y.name = yn) := hyn
      rw [hyn] at e0
      clear hy hyn gc hlv
      by_cases hnn : yn = nm
      · have hany : (m.exports.take i).any (fun y => decide (y.name = nm)) = true := by
          rw [List.any_eq_true]
          refine ⟨y, ?_, by rw [HYN.out]; simpa using hnn⟩
          have : (m.exports.take i)[j]? = some y := by rw [List.getElem?_take_of_lt hjt]; exact HY.out
          exact List.mem_of_getElem? this
        have HA : Hid _ := hany
        subst hnn
        clear hany
        go_wp2_with fail
        go_quiet (fail)
        go_wp2_with fail
        exact HR.out _ _ HA.out rfl rfl ((HK0.out.trans HK.out).drewM _)
      · have hnb : (yn.toList == nm.toList) = false := by rw [beq_eq_false_iff_ne]; intro h; exact hnn (bytes_xt h)
        have HNN : Hid (¬ yn = nm) := hnn
        clear hnn
        go_wp2_with fail
        go_quiet (fail)
        go_wp2_with fail
        go_roundw
        case rel =>
          refine ⟨j + 1, by omega, by go_num, HK.out.drewM _, ?_⟩
          intro k t' hk hkt
          by_cases e1 : k = j
          · subst e1
            rw [HY.out] at hkt
            simp at hkt
            rw [← hkt, HYN.out]
            exact HNN.out
          · exact HJ.out k t' (by omega) hkt
        case measure => simp [intOf]; omega
    · have hjn : j = i := by omega
      subst hjn
      have hji : decide ((j : Int) < (j : Int)) = false := decide_eq_false (by omega)
      have HA : Hid ((m.exports.take j).any (fun y => decide (y.name = nm)) = false) := by
        show _ = false
        rw [List.any_eq_false]
        intro y hy
        obtain ⟨k, hk, e⟩ := List.getElem_of_mem hy
        have hk2 : k < j := by rw [List.length_take] at hk; omega
        have := HJ.out k y hk2 (by rw [← List.getElem?_take_of_lt hk2, List.getElem?_eq_getElem hk, e])
        simpa using this
      clear hlv
      go_wp2_with fail
      exact HE.out _ _ (by kernel_rfl) (HK0.out.trans HK.out) HA.out
end Go.Proofs.Qxb6500275aGreatDoor
