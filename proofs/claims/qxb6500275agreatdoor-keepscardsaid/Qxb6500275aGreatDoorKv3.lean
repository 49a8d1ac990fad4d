import Derived.Test.Qxb6500275aGreatDoorKvon
import Derived.Test.Qxb6500275aGreatDoorKvop
import Derived.Test.Qxb6500275aGreatDoorKvtn
import Derived.Test.Qxb6500275aGreatDoorKvtp
import Derived.Test.Qxb6500275aGreatDoorKvln
import Derived.Test.Qxb6500275aGreatDoorKvlp
import Derived.Test.Qxb6500275aGreatDoorKvdn
import Derived.Test.Qxb6500275aGreatDoorKvdp
set_option maxRecDepth 100000
set_option linter.unusedVariables false
set_option linter.unusedSimpArgs false
namespace Go.Proofs.Qxb6500275aGreatDoor
open Go Go.RowKit
section
variable {num : NumF} {W w1 : World} {a0 : Option Addr} {len cap : Nat} {X Y Z : Mx}
theorem case9 (i : Nat) (o : Op6) : Case9 num W a0 len cap X Y Z i o := by
  obtain ⟨kd, oa, ob, oc, os, ot⟩ := o
  by_cases h : oa < 0
  · by_cases h6 : kd = 6
    · subst h6; exact c9_6n h
    by_cases h1 : kd = 1
    · subst h1; exact c9_1n h
    by_cases h3 : kd = 3
    · subst h3; exact c9_3n h
    exact c9_on h6 h1 h3 h
  · have h : 0 ≤ oa := by omega
    by_cases h6 : kd = 6
    · subst h6; exact c9_6p h
    by_cases h1 : kd = 1
    · subst h1; exact c9_1p h
    by_cases h3 : kd = 3
    · subst h3; exact c9_3p h
    exact c9_op h6 h1 h3 h
/- amid the loop -/
structure Lo9 (num : NumF) (W w1 : World) (a0 : Option Addr) (len cap : Nat) (X Y Z : Mx) (n : Nat) (a : Act) : Prop where
  is : ∃ (i : Nat) (lev : Bool) (st stz : Ma) (u : Nat → Value), a = ⟨fr9 (.slice a0 len cap) (.pointer (some ⟨X.xb, 0, none⟩)) (.pointer (some ⟨Y.xb, 0, none⟩)) (.pointer (some ⟨Z.xb, 0, none⟩)) (.bool lev) (.int .i64 i) u, []⟩ ∧ i + n = len ∧ Kl num W w1 X Y Z st stz lev
/- how it ends -/
def End9 (W : World) (a0 : Option Addr) (len cap : Nat) (X Y Z : Mx) (Q : Exit → Act → World → Prop) : Prop :=
  ∀ tmps w' lv ii, tmps = fr9 (.slice a0 len cap) (.pointer (some ⟨X.xb, 0, none⟩)) (.pointer (some ⟨Y.xb, 0, none⟩)) (.pointer (some ⟨Z.xb, 0, none⟩)) lv ii (fun j => tmps.getD j undef) → Kp (fun _ => False) W w' → Q (.exit 0) ⟨tmps, []⟩ w'
set_option maxHeartbeats 8000000 in
theorem lo9_round {n : Nat} {a : Act} {Q : Exit → Act → World → Prop} (hNr : NumR num) (hNo : NumOk num) (hkn : Kn W) (hs : Script W a0 len) (hE : End9 W a0 len cap X Y Z Q) (h : Lo9 num W w1 a0 len cap X Y Z n a) :
    Code.wp Tryz.prog ((Tryz.f9.body.bind firstLoop).getD .skip) (Exit.then (fun a' w' => ∃ m', m' < n ∧ Lo9 num W w' a0 len cap X Y Z m' a') Q) a w1 := by
  obtain ⟨i, lev, st, stz, u, rfl, hn, hL⟩ := h.is
  have hle := hs.le
  by_cases hlt : i < len
  · by_cases hmx : (i : Int) < 4398046511104
    · obtain ⟨o, sb, off, hsc⟩ := hs.at_ i hlt
      refine case9 i o w1 u lev st stz _ hNr hNo hkn (lt_of_cell (hkn 0 (by decide))) hlt hle hmx ⟨sb, off, hsc⟩ hL ?_
      intro tmps w' lev' st' stz' ht hL'
      exact ⟨n - 1, by omega, ⟨i + 1, lev', st', stz', fun j => tmps.getD j undef, by rw [show ((i + 1 : Nat) : Int) = (i : Int) + 1 by omega, ← ht], by omega, hL'⟩⟩
    · have hib : (i : Int) < (len : Int) := by omega
      have HK : Hid _ := hL.t.kp
      have HE : Hid (End9 W a0 len cap X Y Z Q) := hE
      clear hL hE hs hkn hNr hNo hn
      unfold fr9
      conv => arg 2; whnf
      go_wp2
      exact HE.out _ _ (.bool lev) (.int .i64 (i : Int)) (by kernel_rfl) HK.out
  · have hib : ¬ ((i : Int) < (len : Int)) := by omega
    have HK : Hid _ := hL.t.kp
    have HE : Hid (End9 W a0 len cap X Y Z Q) := hE
    clear hL hE hs hkn hNr hNo hn
    unfold fr9
    conv => arg 2; whnf
    go_wp2
    exact HE.out _ _ (.bool lev) (.int .i64 (i : Int)) (by kernel_rfl) HK.out
theorem lo9_start {st stz : Ma} {tmps : Array Value} {Q : Exit → Act → World → Prop} (hNr : NumR num) (hNo : NumOk num) (hkn : Kn W) (hs : Script W a0 len) (hL : Kl num W w1 X Y Z st stz true)
    (ht : tmps = fr9 (.slice a0 len cap) (.pointer (some ⟨X.xb, 0, none⟩)) (.pointer (some ⟨Y.xb, 0, none⟩)) (.pointer (some ⟨Z.xb, 0, none⟩)) (.bool true) (.int .i64 0) (fun j => tmps.getD j undef)) (hE : End9 W a0 len cap X Y Z Q) :
    Code.wp Tryz.prog (.loop ((Tryz.f9.body.bind firstLoop).getD .skip)) Q ⟨tmps, []⟩ w1 :=
  wp_loop_n (fun n a w1 => Lo9 num W w1 a0 len cap X Y Z n a) (fun n a w1 h => lo9_round hNr hNo hkn hs hE h) len ⟨0, true, st, stz, fun j => tmps.getD j undef, by rw [show ((0 : Nat) : Int) = 0 from rfl, ← ht], by omega, hL⟩
set_option maxHeartbeats 8000000 in
theorem keepsUp_calls (hNr : NumR num) (hNo : NumOk num) (hkn : Kn W) (hs : Script W a0 len) : Calls Tryz.prog 9 #[.slice a0 len cap] W (fun en w' => en = .returned (.int .i64 (-1)) ∧ Kp (fun _ => False) W w') := by
  have HNR : Hid (NumR num) := hNr
  have HNO : Hid (NumOk num) := hNo
  have HKN : Hid (Kn W) := hkn
  have HSC : Hid (Script W a0 len) := hs
  clear hNr hNo hkn hs
  go_enter Tryz.func9, Tryz.ntmps9
  go_wp2_with fail
  refine (tnew_calls _).mono ?_
  rintro en w1 ⟨X, rfl, hX, x1, x2, k1, bx⟩
  go_wp2_with fail
  refine (tnew_calls _).mono ?_
  rintro en w2 ⟨Y, rfl, hY, y1, y2, k2, b_y⟩
  go_wp2_with fail
  refine (tnew_calls _).mono ?_
  rintro en w3 ⟨Z, rfl, hZ, z1, z2, k3, bz⟩
  have HT0 : Hid (Kl num W w3 X Y Z ma0 ma0 true) := ⟨tri_new hX hY hZ k1 k2 k3 x1 x2 y1 y2 z1 z2 bx b_y bz, fun _ => rfl⟩
  clear hX hY hZ k1 k2 k3 x1 x2 y1 y2 z1 z2 bx b_y bz
  go_wp2_with fail
  refine lo9_start (cap := cap) (X := X) (Y := Y) (Z := Z) HNR.out HNO.out HKN.out HSC.out HT0.out (by kernel_rfl) ?_
  intro tmps w' lv ii ht hk
  generalize (fun j => tmps.getD j undef) = u' at ht
  subst ht
  have HK : Hid _ := hk
  clear hk HT0
  unfold fr9
  go_wp2_with fail
  refine bodyPost_ret (v := .int .i64 (-1)) (by simp [results, Tryz.results9, go_sem]) rfl ?_
  exact ⟨rfl, HK.out⟩
end
end Go.Proofs.Qxb6500275aGreatDoor
