import Derived.Test.Qxb6500275aGreatDoorVb1
set_option maxRecDepth 1000000
set_option linter.unusedVariables false
set_option linter.unusedSimpArgs false
namespace Go.Proofs.Qxb6500275aGreatDoor
open Go Go.RowKit
/- a function's first loop: what it goes round -/
def firstLoop : Code → Option Code
  | .loop c => some c
  | .seq a b => match firstLoop a with
    | some c => some c
    | none => firstLoop b
  | .block _ c => firstLoop c
  | .scope c => firstLoop c
  | .cond _ a b => match firstLoop a with
    | some c => some c
    | none => firstLoop b
  | _ => none
def fr84 (k0 k1 k2 k8 : Value) (c u : Nat → Value) : Array Value := #[k0, k1, k2, c 3, c 4, c 5, u 6, u 7, k8, c 9, u 10, u 11, u 12, u 13, u 14, u 15, u 16, u 17, u 18, u 19, u 20, c 21, c 22, c 23, c 24, c 25, c 26, c 27, c 28, c 29, c 30, c 31, c 32, c 33, c 34, c 35, c 36, c 37, c 38, c 39, c 40, c 41, c 42, c 43, c 44, c 45, c 46, c 47, u 48, u 49, u 50, u 51, u 52, u 53, u 54, u 55, u 56, u 57, u 58, u 59, u 60, u 61, u 62, u 63, u 64, u 65, u 66, u 67, u 68, u 69, u 70, u 71, u 72, u 73, u 74, u 75, u 76, u 77, u 78, u 79, u 80, u 81, u 82, u 83, u 84, u 85, u 86, u 87, u 88, u 89, u 90, u 91, u 92, u 93, u 94, u 95, u 96, u 97, u 98, u 99, u 100, u 101, u 102, u 103, u 104, u 105, u 106, u 107, u 108, u 109, u 110, u 111, u 112, u 113, u 114, u 115, u 116, u 117, u 118, u 119, u 120, u 121, u 122, u 123, u 124, u 125, u 126, u 127, u 128, u 129, u 130, u 131, u 132, u 133, u 134, u 135, u 136, u 137, u 138, u 139, u 140, u 141, u 142, u 143, u 144, u 145, u 146, u 147, u 148, u 149, u 150, u 151, u 152, u 153, u 154, u 155, u 156, u 157, u 158, u 159, u 160, u 161, u 162, u 163, u 164, u 165, u 166, u 167, u 168, u 169, u 170, u 171, u 172, u 173, u 174, u 175, u 176, u 177, u 178, u 179, u 180, u 181, u 182, u 183, u 184, u 185, u 186, u 187, u 188, u 189, u 190, u 191, u 192, u 193, u 194, u 195, u 196, u 197, u 198, u 199, u 200, u 201, u 202, u 203, u 204, u 205, u 206, u 207, u 208, u 209, u 210, u 211, u 212, u 213, u 214, u 215, u 216, u 217, u 218, u 219, u 220, u 221, u 222, u 223, u 224, u 225, u 226, u 227, u 228, u 229, u 230, u 231, u 232, u 233, u 234, u 235, u 236, u 237, u 238, u 239, u 240, u 241, u 242, u 243, u 244, u 245, u 246, u 247, u 248, u 249, u 250, u 251, u 252, u 253, u 254, u 255, u 256, u 257, u 258, u 259, u 260, u 261, u 262, u 263, u 264, u 265, u 266, u 267, u 268, u 269, u 270, u 271, u 272, u 273, u 274, u 275, u 276, u 277, u 278, u 279, u 280, u 281, u 282, u 283, u 284, u 285, u 286, u 287, u 288, u 289, u 290, u 291, u 292, u 293, u 294, u 295, u 296, u 297, u 298, u 299, u 300, u 301, u 302, u 303, u 304, u 305, u 306, u 307, u 308, u 309, u 310, u 311, u 312, u 313, u 314, u 315, u 316, u 317, u 318, u 319, u 320, u 321, u 322, u 323, u 324, u 325, u 326, u 327, u 328, u 329, u 330, u 331, u 332, u 333, u 334, u 335, u 336, u 337, u 338, u 339, u 340, u 341, u 342, u 343, u 344, u 345, u 346, u 347, u 348, u 349, u 350, u 351, u 352, u 353, u 354, u 355, u 356, u 357, u 358, u 359, u 360, u 361, u 362, u 363, u 364, u 365, u 366, u 367, u 368, u 369, u 370, u 371, u 372, u 373, u 374, u 375, u 376, u 377, u 378, u 379, u 380, u 381, u 382, u 383, u 384, u 385, u 386, u 387, u 388, u 389, u 390, u 391, u 392, u 393, u 394, u 395, u 396, u 397, u 398, u 399, u 400, u 401, u 402, u 403, u 404, c 405, c 406, c 407, c 408, c 409]
/- how a round may end: on to the next, or home -/
def Next84 (w : World) (vb mb fk fo : Nat) (M : Mod) (fn : Fn) (params : ByteArray) (pc : Nat) (c : Nat → Value) (s : VO) (Q : Exit → Act → World → Prop) : Prop :=
  ∀ tmps w' v', s = (v', none) → tmps = fr84 (.pointer (some ⟨vb, 0, none⟩)) (.pointer (some ⟨mb, 0, none⟩)) (.pointer (some ⟨fk, fo, none⟩)) (.string params) c (fun i => tmps.getD i undef) → tmps.getD 10 undef = .int .i64 ((pc : Int) + 1) → SB w w' vb mb fk fo M fn v' → Q .normal ⟨tmps, []⟩ w'
def Home84 (w : World) (vb mb fk fo : Nat) (M : Mod) (fn : Fn) (s : VO) (Q : Exit → Act → World → Prop) : Prop :=
  ∀ tmps w' v' (p : Nat) (e : Int), s = (v', some (p, e)) → tmps.getD 6 undef = .int .i64 p → tmps.getD 7 undef = .int .i64 e → SB w w' vb mb fk fo M fn v' → Q .ret ⟨tmps, []⟩ w'
/- one round of the validator's body: what it must come to -/
def Case84 (w : World) (vb mb fk fo : Nat) (M : Mod) (fn : Fn) (params : ByteArray) (pc : Nat) (v : VS) (x : Ins) : Prop :=
  ∀ (wr : World) (c u : Nat → Value) (Q : Exit → Act → World → Prop), SB w wr vb mb fk fo M fn v → VI v → v.ctl ≠ [] → FnOk fn → InsOk x → fn.body[pc]? = some x → params.size ≤ 4 → u 10 = .int .i64 pc →
    Next84 w vb mb fk fo M fn params pc c (stepV M fn params pc v x) Q → Home84 w vb mb fk fo M fn (stepV M fn params pc v x) Q →
    Code.wp Tryz.prog ((Tryz.f84.body.bind firstLoop).getD .skip) Q ⟨fr84 (.pointer (some ⟨vb, 0, none⟩)) (.pointer (some ⟨mb, 0, none⟩)) (.pointer (some ⟨fk, fo, none⟩)) (.string params) c u, []⟩ wr
section
variable {w w1 : World} {vb mb fk fo : Nat} {M : Mod} {fn : Fn} {params : ByteArray} {pc : Nat} {v : VS} {x : Ins} {f : VF} {r : List VF}
theorem cutW (h : Vd w1 vb v) (hw : VW v f r) : Calls Tryz.prog 148 #[.pointer (some ⟨vb, 0, none⟩)] w1 (VC vb w1 (.tuple #[]) (cutV v)) := by
  obtain ⟨o, rfl, h1, h2⟩ := hw.is
  exact cut_calls h h1
theorem settledW (h : Vd w1 vb v) (hw : VW v f r) (hr : f.res < 256) : Calls Tryz.prog 150 #[.pointer (some ⟨vb, 0, none⟩)] w1 (VC vb w1 (.bool (settledV v).2) (settledV v).1) := by
  obtain ⟨o, rfl, h1, h2⟩ := hw.is
  exact settled_calls h h1 h2 hr
theorem pushW (h : Vd w1 vb v) (t : Nat) (ht : t < 256) : Calls Tryz.prog 154 #[.pointer (some ⟨vb, 0, none⟩), .int .u8 t] w1 (VC vb w1 (.bool (pushV v t).2) (pushV v t).1) := by
  obtain ⟨ops, ctl⟩ := v
  exact push_calls h t ht
/- what stands at a round's head, the instruction laid out -/
structure Rd84 (w wr : World) (vb mb fk fo kb : Nat) (M : Mod) (fn : Fn) (pc nb : Nat) (v : VS) (x : Ins) (f : VF) (r : List VF) : Prop where
  c1 : wr.cell? ⟨fk, fo + 1, none⟩ = some (.string fn.locals)
  c2 : wr.cell? ⟨fk, fo + 2, none⟩ = some (.slice (some ⟨kb, 0, none⟩) nb nb)
  d0 : wr.cell? ⟨kb, pc * 3, none⟩ = some (.int .u8 x.op)
  d1 : wr.cell? ⟨kb, pc * 3 + 1, none⟩ = some (.int .u32 x.x)
  d2 : wr.cell? ⟨kb, pc * 3 + 2, none⟩ = some (.int .u64 x.y)
  hpn : (pc : Int) < (nb : Int)
  hnb2 : nb ≤ 96
  hnb : fn.body.length = nb
  hkl : kb < wr.heap.size
  hfl : fk < wr.heap.size
  hctl : v.ctl = f :: r
  hw : VW v f r
  hA : SB w (wr.alloc (.cells #[.int .u8 x.op, .int .u32 x.x, .int .u64 x.y] 129)) vb mb fk fo M fn v
  hxr : 0 ≤ x.x ∧ x.x < 4294967296
  hyr : 0 ≤ x.y ∧ x.y < 18446744073709551616
  hfr : f.res < 256
theorem rd84 {wr : World} (hB : SB w wr vb mb fk fo M fn v) (hI : VI v) (hcn : v.ctl ≠ []) (hF : FnOk fn) (hX : InsOk x) (hx : fn.body[pc]? = some x) : ∃ kb nb f r, Rd84 w wr vb mb fk fo kb M fn pc nb v x f r := by
  obtain ⟨f, r, hctl, hw⟩ := hI.vw hcn
  obtain ⟨ba, ta, c0, c1, c2, c3, bat, tat⟩ := hB.fn.cells
  obtain ⟨kb, rfl, d0, d1, d2⟩ := bat pc x hx
  have hpl := (List.getElem?_eq_some_iff.1 hx).1
  have hnb2 := hF.nb.2
  refine ⟨kb, fn.body.length, f, r, c1, c2, d0, d1, d2, by omega, hnb2, rfl, lt_of_cell d0, lt_of_cell c0, hctl, hw, hB.new ((Kp.refl _ _).alloc _), hX.x, hX.y, ?_⟩
  have := (hI.ctl f (by rw [hctl]; simp)).2
  unfold resOk isVal at this
  omega
/- a block more -/
theorem Vd.open1 {ops : List Nat} {ctl : List VF} {d : Nat} (h : Vd w1 vb ⟨ops, ctl⟩) (hd : ctl.length = d) (hl : d < 7) (op res : Nat) : Vd (((((w1.setCell ⟨vb, 12 + d * 4, none⟩ (.int .u8 op)).setCell ⟨vb, 12 + d * 4 + 1, none⟩ (.int .u8 res)).setCell ⟨vb, 12 + d * 4 + 2, none⟩ (.int .i64 ops.length)).setCell ⟨vb, 12 + d * 4 + 3, none⟩ (.bool false)).setCell ⟨vb, 40, none⟩ (.int .i64 ((d : Int) + 1))) vb ⟨ops, ⟨op, res, ops.length, false⟩ :: ctl⟩ := by
  subst hd
  obtain ⟨F, h1, cO, nH, cC, nD, ⟨x, hx1, hx2, hx3⟩, lO, lC⟩ := h.is
  dsimp only at lO lC hx2
  refine ⟨_, ((((h1.set (i := 12 + ctl.length * 4) (by omega) _).set (i := 12 + ctl.length * 4 + 1) (by omega) _).set (i := 12 + ctl.length * 4 + 2) (by omega) _).set (i := 12 + ctl.length * 4 + 3) (by omega) _).set (i := 40) (by decide) _, ?_, ?_, ?_, ?_, ⟨x, ?_, hx2, hx3⟩, lO, by simp; omega⟩
  · intro i t hi
    have hil := (List.getElem?_eq_some_iff.1 hi).1
    simp at hil
    rw [upd_ne _ _ (by omega), upd_ne _ _ (by omega), upd_ne _ _ (by omega), upd_ne _ _ (by omega), upd_ne _ _ (by omega)]
    exact cO i t hi
  · rw [upd_ne _ _ (by decide), upd_ne _ _ (by omega), upd_ne _ _ (by omega), upd_ne _ _ (by omega), upd_ne _ _ (by omega)]; exact nH
  · intro j g hg
    have hj := (List.getElem?_eq_some_iff.1 hg).1
    have hg' : (ctl.reverse ++ [(⟨op, res, ops.length, false⟩ : VF)])[j]? = some g := by simpa using hg
    simp at hj
    by_cases e : j = ctl.length
    · subst e
      rw [List.getElem?_append_right (by simp)] at hg'
      simp at hg'
      subst hg'
      refine ⟨?_, ?_, ?_, ?_⟩
      · rw [upd_ne _ _ (by omega), upd_ne _ _ (by omega), upd_ne _ _ (by omega), upd_ne _ _ (by omega), upd_same]
      · rw [upd_ne _ _ (by omega), upd_ne _ _ (by omega), upd_ne _ _ (by omega), upd_same]
      · rw [upd_ne _ _ (by omega), upd_ne _ _ (by omega), upd_same]
      · rw [upd_ne _ _ (by omega), upd_same]
    · rw [List.getElem?_append_left (by simp; omega)] at hg'
      obtain ⟨a0, a1, a2, a3⟩ := cC j g hg'
      refine ⟨?_, ?_, ?_, ?_⟩
      · rw [upd_ne _ _ (by omega), upd_ne _ _ (by omega), upd_ne _ _ (by omega), upd_ne _ _ (by omega), upd_ne _ _ (by omega)]; exact a0
      · rw [upd_ne _ _ (by omega), upd_ne _ _ (by omega), upd_ne _ _ (by omega), upd_ne _ _ (by omega), upd_ne _ _ (by omega)]; exact a1
      · rw [upd_ne _ _ (by omega), upd_ne _ _ (by omega), upd_ne _ _ (by omega), upd_ne _ _ (by omega), upd_ne _ _ (by omega)]; exact a2
      · rw [upd_ne _ _ (by omega), upd_ne _ _ (by omega), upd_ne _ _ (by omega), upd_ne _ _ (by omega), upd_ne _ _ (by omega)]; exact a3
  · rw [upd_same]; simp
  · rw [upd_ne _ _ (by decide), upd_ne _ _ (by omega), upd_ne _ _ (by omega), upd_ne _ _ (by omega), upd_ne _ _ (by omega)]; exact hx1
set_option maxHeartbeats 8000000 in
theorem c84_nop (ho : x.op = 1) : Case84 w vb mb fk fo M fn params pc v x := by
  intro wr c u Q hB hI hcn hF hX hx hps hu hN hR
  obtain ⟨kb, nb, f, r, hd⟩ := rd84 hB hI hcn hF hX hx
  have HI : Hid _ := hI
  obtain ⟨c1, c2, d0, d1, d2, hpn, hnb2, hnb, hkl, hfl, hctl, hw, hA, hxr, hyr, hfr⟩ := hd
  have HN : Hid (Next84 w vb mb fk fo M fn params pc c (stepV M fn params pc v x) Q) := hN
  have HR : Hid (Home84 w vb mb fk fo M fn (stepV M fn params pc v x) Q) := hR
  have HA : Hid _ := hA
  have HW : Hid _ := hw
  have HC : Hid _ := hctl
  have HNB : Hid _ := hnb
  clear hB hI hcn hF hX hx hN hR hnb hw hctl hA
  have hs : stepV M fn params pc v x = (v, none) := if_pos ho
  have HS : Hid _ := hs
  obtain ⟨op, X1, Y1⟩ := x
  dsimp only at ho d0 d1 d2 hxr hyr
  subst ho
  clear hs
  unfold fr84
  rw [hu]
  conv => arg 2; whnf
  go_wp2
  exact HN.out _ _ v HS.out (by kernel_rfl) rfl HA.out
set_option maxHeartbeats 8000000 in
theorem c84_unr (ho : x.op = 0) : Case84 w vb mb fk fo M fn params pc v x := by
  intro wr c u Q hB hI hcn hF hX hx hps hu hN hR
  obtain ⟨kb, nb, f, r, hd⟩ := rd84 hB hI hcn hF hX hx
  have HI : Hid _ := hI
  obtain ⟨c1, c2, d0, d1, d2, hpn, hnb2, hnb, hkl, hfl, hctl, hw, hA, hxr, hyr, hfr⟩ := hd
  have HN : Hid (Next84 w vb mb fk fo M fn params pc c (stepV M fn params pc v x) Q) := hN
  have HR : Hid (Home84 w vb mb fk fo M fn (stepV M fn params pc v x) Q) := hR
  have HA : Hid _ := hA
  have HW : Hid _ := hw
  have HC : Hid _ := hctl
  have HNB : Hid _ := hnb
  clear hB hI hcn hF hX hx hN hR hnb hw hctl hA
  have hs : stepV M fn params pc v x = (cutV v, none) := by unfold stepV; rw [if_neg (by omega), if_pos ho]
  have HS : Hid _ := hs
  obtain ⟨op, X1, Y1⟩ := x
  dsimp only at ho d0 d1 d2 hxr hyr
  subst ho
  clear hs
  unfold fr84
  rw [hu]
  conv => arg 2; whnf
  go_wp2_with fail
  refine (cutW HA.out.sv.vd HW.out).mono ?_
  rintro en w2 ⟨rfl, hv2, hk2⟩
  go_wp2
  exact HN.out _ _ _ HS.out (by kernel_rfl) rfl (HA.out.step hk2 hv2)
end
end Go.Proofs.Qxb6500275aGreatDoor
