import Derived.Test.Qxb6500275aGreatDoorXra
set_option maxRecDepth 100000
set_option linter.unusedVariables false
set_option linter.unusedSimpArgs false
namespace Go.Proofs.Qxb6500275aGreatDoor
open Go Go.RowKit
section
variable {W w1 : World} {a0 : Option Addr} {len cap : Nat}
theorem O8.mk8 (w : World) (kd oa ob oc : Int) (os ot : ByteArray) : O8 (w.alloc (.cells #[.int .i64 kd, .int .i64 oa, .int .i64 ob, .int .i64 oc, .string os, .string ot] 30)) w.heap.size ⟨kd, oa, ob, oc, os, ot⟩ := by
  have hb8 := blk_alloc w #[.int .i64 kd, .int .i64 oa, .int .i64 ob, .int .i64 oc, .string os, .string ot] 30
  exact ⟨hb8.cell (i := 0) (by simp), hb8.cell (i := 1) (by simp), hb8.cell (i := 2) (by simp), hb8.cell (i := 3) (by simp), hb8.cell (i := 4) (by simp), hb8.cell (i := 5) (by simp)⟩
set_option maxHeartbeats 32000000 in
theorem walk_quiet (hkn : Kn W) (hs : Script W a0 len) : Calls Tryz.prog 11 #[.slice a0 len cap, .bool true] W (fun en w' => (∃ n, en = .returned (.tuple #[.int .i64 (-1), .int .i64 n])) ∧ Kp (fun _ => False) W w') := by
  have HKN : Hid (Kn W) := hkn
  have HSC : Hid (Script W a0 len) := hs
  have hle := hs.le
  clear hkn hs
  go_enter Tryz.func11, Tryz.ntmps11
  go_wp2_with fail
  refine (tnew_calls _).mono ?_
  rintro en w1 ⟨X, rfl, hX, x1, x2, k1, bx⟩
  go_wp2_with fail
  refine (new_w _).mono ?_
  rintro en w2 ⟨N, A, rfl, hm, k2, hA⟩
  obtain ⟨xb, hxb⟩ : ∃ xb, N.xb = xb := ⟨_, rfl⟩
  have HD0 : Hid (Dw (fun _ => False) W w2 X xb ma0 ma0) := by
    have s1 := k1.size
    have s2 := k2.size
    refine ⟨k1.trans k2, fun k e => e.elim, _, N, A, (mach_new hX x2 bx).keep k2 (fun _ _ h => h), hxb, hm, fun k e e2 => by have := hA k e2; omega, fun k e => ⟨?_, fun h => h⟩⟩
    rcases e with e | e
    · omega
    · have := hA k e; omega
  rw [hxb]
  clear hX k1 k2 x1 x2 bx hm hA hxb
  go_wp2_with fail
  go_loopw [8] (fun ii w1 => ∃ (i : Nat) (st : Ma), i ≤ len ∧ ii = .int .i64 i ∧ Hid (Dw (fun _ => False) W w1 X xb st st)) (fun ii _ => len + 1 - (intOf ii).toNat)
  case atStart => exact ⟨0, ma0, by omega, rfl, HD0⟩
  case round =>
    clear HD0
    obtain ⟨i, st, hi, rfl, HL⟩ := hrel
    by_cases hlt : i < len ∧ (i : Int) < 4398046511104
    · obtain ⟨hlt, hmx⟩ := hlt
      obtain ⟨o, sb, off, hsc⟩ := HSC.out.at_ i hlt
      obtain ⟨kd, oa, ob, oc, os, ot⟩ := o
      have hat := hsc.at_
      subst hat
      have hib : (i : Int) < (len : Int) := by omega
      have kc : ∀ j v, W.cell? ⟨sb, j, none⟩ = some v → wr.cell? ⟨sb, j, none⟩ = some v := fun j v e => by
        rw [HL.out.kp.cell (p := ⟨sb, j, none⟩) (lt_of_cell e) (fun h => h)]
        exact e
      have c0 := kc _ _ hsc.c0
      have c1 := kc _ _ hsc.c1
      have c2 := kc _ _ hsc.c2
      have c3 := kc _ _ hsc.c3
      have c4 := kc _ _ hsc.c4
      have c5 := kc _ _ hsc.c5
      have HOK : Hid _ := hsc.ok
      clear kc hsc
      dsimp only at c0 c1 c2 c3 c4 c5
      obtain ⟨n9, hn9⟩ : ∃ n, wr.heap.size = n := ⟨_, rfl⟩
      have h9 := O8.mk8 wr kd oa ob oc os ot
      rw [hn9] at h9
      obtain ⟨U, hU⟩ : ∃ U, wr.alloc (.cells #[.int .i64 kd, .int .i64 oa, .int .i64 ob, .int .i64 oc, .string os, .string ot] 30) = U := ⟨_, rfl⟩
      rw [hU] at h9
      have k9 : Kp (fun _ => False) wr U := by rw [← hU]; exact (Kp.refl _ _).alloc _
      have hUs : U.heap.size = n9 + 1 := by rw [← hU, World.size_alloc, hn9]
      have HGD : Hid (Good numI st) := HL.out.good
      have HD : Hid (Dw (fun k => k = n9) W U X xb st st) := HL.out.quiet k9 (fun k e => .inr ⟨by omega, by omega⟩)
      have H9 : Hid _ := h9
      have hdo := HD.out.do_ W HKN.out ⟨kd, oa, ob, oc, os, ot⟩ HOK.out
      unfold Op6.val at hdo
      dsimp only at hdo
      obtain ⟨q0, q1, q2, q3, q4, q5⟩ := h9
      dsimp only at q0 q1 q2 q3 q4 q5
      clear HL k9
      go_wp2_with fail
      try rw [hU]
      try rw [hn9]
      clear hU hn9 c0 c1 c2 c3 c4 c5
      refine hdo.mono ?_
      rintro en u2 ⟨a, st1, rfl, hR, t2, k2⟩
      obtain ⟨ae, an, am, asx⟩ := a
      unfold An4.val
      dsimp only at hR ⊢
      have HR : Hid (DoR numI st ⟨kd, oa, ob, oc, os, ot⟩ ⟨ae, an, am, asx⟩ st1) := hR
      obtain ⟨n10, hn10⟩ : ∃ n, u2.heap.size = n := ⟨_, rfl⟩
      obtain ⟨U2, hU2⟩ : ∃ U, u2.alloc (.cells #[.int .i64 ae, .int .i64 an, .int .i64 am, .string asx] 39) = U := ⟨_, rfl⟩
      have hka : Kp (fun _ => False) u2 U2 := by rw [← hU2]; exact (Kp.refl _ _).alloc _
      have hU2s : U2.heap.size = n10 + 1 := by rw [← hU2, World.size_alloc, hn10]
      have hsz2 := k2.size
      have HD2 : Hid (Dw (fun k => k = n9 ∨ k = n10) W U2 X xb st1 st) := t2.quiet hka (fun k e => by
        rcases e with e | e
        · exact .inl e
        · exact .inr ⟨by omega, by omega⟩)
      have H92 : Hid (O8 U2 n9 ⟨kd, oa, ob, oc, os, ot⟩) := (H9.out.keep k2 (fun e => e.2 rfl)).keep hka (fun h => h)
      have hA2 := A4.new u2 ae an am asx
      rw [hU2, hn10] at hA2
      have HA2 : Hid _ := hA2
      have hdm := HD2.out.dom HGD.out ⟨kd, oa, ob, oc, os, ot⟩ HOK.out HR.out
      unfold Op6.val An4.val at hdm
      dsimp only at hdm
      clear hR t2 k2 hdo HD H9 q0 q1 q2 q3 q4 q5 hka hA2 hsz2
      obtain ⟨q0, q1, q2, q3, q4, q5⟩ := H92.out
      dsimp only at q0 q1 q2 q3 q4 q5
      go_wp2_with fail
      try rw [hU2]
      try rw [hn10]
      clear hU2 hn10
      refine hdm.mono ?_
      rintro en u3 ⟨rfl, t3, k3⟩
      obtain ⟨U3, hU3⟩ : ∃ U, u3.alloc (.cells #[.int .i64 ae, .int .i64 an, .int .i64 am, .string asx] 39) = U := ⟨_, rfl⟩
      have hka : Kp (fun _ => False) u3 U3 := by rw [← hU3]; exact (Kp.refl _ _).alloc _
      have HD3 : Hid (Dw (fun k => k = n9 ∨ k = n10) W U3 X xb st1 st1) := t3.quiet hka (fun k e => .inl e)
      have HA3 : Hid (A4 U3 n10 ⟨ae, an, am, asx⟩) := (HA2.out.keep k3 (fun e => e.2 (.inr rfl))).keep hka (fun h => h)
      have hA4 := A4.new u3 ae an am asx
      rw [hU3] at hA4
      have HA4 : Hid _ := hA4
      obtain ⟨a0', a1', a2', a3'⟩ := HA3.out
      obtain ⟨b0', b1', b2', b3'⟩ := HA4.out
      dsimp only at a0' a1' a2' a3' b0' b1' b2' b3'
      have heq := eq39s ⟨ae, an, am, asx⟩
      unfold An4.val at heq
      dsimp only at heq
      have hsh := HD3.out.showX
      clear hdm t3 k3 HD2 H92 HA2 q0 q1 q2 q3 q4 q5 hka hA4
      go_wp2_with fail
      try rw [hU3]
      have HD6 : Hid (Dw (fun _ => False) W _ X xb st1 st1) := HD3.out.quiet (Kp.refl _ _) (fun k e => e.elim)
      go_roundw
      case rel => exact ⟨i + 1, st1, by omega, by go_num, HD6⟩
      case measure => simp only [intOf]; omega
    · have hex : ¬ (i : Int) < (len : Int) ∨ ¬ (i : Int) < 4398046511104 := by omega
      have HK : Hid _ := HL.out.kp
      have hi2 : (i : Int) ≤ (len : Int) := by omega
      clear HL
      rcases (by omega : ¬ (i : Int) < (len : Int) ∨ ((i : Int) < (len : Int) ∧ ¬ (i : Int) < 4398046511104)) with h1 | ⟨h1, h2⟩
      · clear hlt hex
        rcases (by omega : (len : Int) < 4398046511104 ∨ ¬ (len : Int) < 4398046511104) with h3 | h3
        · go_wp2_with fail
          refine bodyPost_ret (v := .tuple #[.int .i64 (-1), .int .i64 (len : Int)]) (by simp [results, Tryz.results11, go_sem]) rfl ?_
          exact ⟨⟨_, rfl⟩, HK.out⟩
        · go_wp2_with fail
          refine bodyPost_ret (v := .tuple #[.int .i64 (-1), .int .i64 4398046511104]) (by simp [results, Tryz.results11, go_sem]) rfl ?_
          exact ⟨⟨_, rfl⟩, HK.out⟩
      · clear hlt hex
        have h3 : ¬ (len : Int) < 4398046511104 := by omega
        go_wp2_with fail
        refine bodyPost_ret (v := .tuple #[.int .i64 (-1), .int .i64 4398046511104]) (by simp [results, Tryz.results11, go_sem]) rfl ?_
        exact ⟨⟨_, rfl⟩, HK.out⟩
end
end Go.Proofs.Qxb6500275aGreatDoor
