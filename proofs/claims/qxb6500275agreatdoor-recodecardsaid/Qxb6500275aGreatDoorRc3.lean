import Derived.Test.Qxb6500275aGreatDoorRca
import Derived.Test.Qxb6500275aGreatDoorRcb
import Derived.Test.Qxb6500275aGreatDoorRcc
set_option maxRecDepth 100000
set_option linter.unusedVariables false
set_option linter.unusedSimpArgs false
namespace Go.Proofs.Qxb6500275aGreatDoor
open Go Go.RowKit
section
variable {num : NumF} {W w1 : World} {a0 : Option Addr} {len cap : Nat} {X Y : Mx} {bb ib tb : Nat} {v : Value}
theorem case10 (i : Nat) (o : Op6) : Case10 num W a0 len cap X Y bb ib tb i o := by
  obtain ⟨kd, oa, ob, oc, os, ot⟩ := o
  by_cases h1 : kd = 1
  · subst h1
    cases hd : decodeS os with
    | error e =>
      obtain ⟨c, p⟩ := e
      exact c10_e hd (by have := er_decode c p hd; omega)
    | ok M => exact c10_k hd
  · exact c10_o h1
/- amid the loop -/
structure Lo10 (num : NumF) (W w1 : World) (a0 : Option Addr) (len cap : Nat) (X Y : Mx) (bb ib tb : Nat) (v : Value) (n : Nat) (a : Act) : Prop where
  is : ∃ (i : Nat) (st : Ma) (t : TV) (u : Nat → Value), a = ⟨fr10 (.slice a0 len cap) (.pointer (some ⟨bb, 0, none⟩)) v (.pointer (some ⟨X.xb, 0, none⟩)) (.pointer (some ⟨Y.xb, 0, none⟩)) (.int .i64 i) u, []⟩ ∧ i + n = len ∧ Kr num W w1 X Y st bb ib tb t
def End10 (W : World) (a0 : Option Addr) (len cap : Nat) (X Y : Mx) (bb : Nat) (v : Value) (Q : Exit → Act → World → Prop) : Prop :=
  ∀ tmps w' ii, tmps = fr10 (.slice a0 len cap) (.pointer (some ⟨bb, 0, none⟩)) v (.pointer (some ⟨X.xb, 0, none⟩)) (.pointer (some ⟨Y.xb, 0, none⟩)) ii (fun j => tmps.getD j undef) → Kp (fun _ => False) W w' → Q (.exit 0) ⟨tmps, []⟩ w'
set_option maxHeartbeats 8000000 in
theorem lo10_round {n : Nat} {a : Act} {Q : Exit → Act → World → Prop} (hNr : NumR num) (hNo : NumOk num) (hkn : Kn W) (hs : Script W a0 len) (hE : End10 W a0 len cap X Y bb v Q) (h : Lo10 num W w1 a0 len cap X Y bb ib tb v n a) :
    Code.wp Tryz.prog ((Tryz.f10.body.bind firstLoop).getD .skip) (Exit.then (fun a' w' => ∃ m', m' < n ∧ Lo10 num W w' a0 len cap X Y bb ib tb v m' a') Q) a w1 := by
  obtain ⟨i, st, t, u, rfl, hn, hL⟩ := h.is
  have hle := hs.le
  by_cases hlt : i < len
  · by_cases hmx : (i : Int) < 4398046511104
    · obtain ⟨o, sb, off, hsc⟩ := hs.at_ i hlt
      refine case10 i o w1 v u st t _ hNr hNo hkn (lt_of_cell (hkn 0 (by decide))) hlt hle hmx ⟨sb, off, hsc⟩ hL ?_
      intro tmps w' st' t' ht hL'
      exact ⟨n - 1, by omega, ⟨i + 1, st', t', fun j => tmps.getD j undef, by rw [show ((i + 1 : Nat) : Int) = (i : Int) + 1 by omega, ← ht], by omega, hL'⟩⟩
    · have hib : (i : Int) < (len : Int) := by omega
      have HK : Hid _ := hL.d.kp
      have HE : Hid (End10 W a0 len cap X Y bb v Q) := hE
      clear hL hE hs hkn hNr hNo hn
      unfold fr10
      conv => arg 2; whnf
      go_wp2
      exact HE.out _ _ (.int .i64 (i : Int)) (by kernel_rfl) HK.out
  · have hib : ¬ ((i : Int) < (len : Int)) := by omega
    have HK : Hid _ := hL.d.kp
    have HE : Hid (End10 W a0 len cap X Y bb v Q) := hE
    clear hL hE hs hkn hNr hNo hn
    unfold fr10
    conv => arg 2; whnf
    go_wp2
    exact HE.out _ _ (.int .i64 (i : Int)) (by kernel_rfl) HK.out
theorem lo10_start {st : Ma} {t : TV} {tmps : Array Value} {Q : Exit → Act → World → Prop} (hNr : NumR num) (hNo : NumOk num) (hkn : Kn W) (hs : Script W a0 len) (hL : Kr num W w1 X Y st bb ib tb t)
    (ht : tmps = fr10 (.slice a0 len cap) (.pointer (some ⟨bb, 0, none⟩)) v (.pointer (some ⟨X.xb, 0, none⟩)) (.pointer (some ⟨Y.xb, 0, none⟩)) (.int .i64 0) (fun j => tmps.getD j undef)) (hE : End10 W a0 len cap X Y bb v Q) :
    Code.wp Tryz.prog (.loop ((Tryz.f10.body.bind firstLoop).getD .skip)) Q ⟨tmps, []⟩ w1 :=
  wp_loop_n (fun n a w1 => Lo10 num W w1 a0 len cap X Y bb ib tb v n a) (fun n a w1 h => lo10_round hNr hNo hkn hs hE h) len ⟨0, st, t, fun j => tmps.getD j undef, by rw [show ((0 : Nat) : Int) = 0 from rfl, ← ht], by omega, hL⟩
/- tower.Front -/
set_option maxHeartbeats 4000000 in
theorem front_calls (w : World) : Calls Tryz.prog 21 #[] w (fun en w' => ∃ bb ib tb vb, en = .returned (.tuple #[.pointer (some ⟨bb, 0, none⟩), .pointer (some ⟨vb, 0, none⟩)]) ∧ Kp (fun _ => False) w w' ∧ Bq w' bb ib tb (fun _ => (none, 0)) ∧ ∀ k, VB bb ib tb (fun _ => (none, 0)) k → w.heap.size ≤ k) := by
  go_enter Tryz.func21, Tryz.ntmps21
  go_wp2_with fail
  refine (bnew_calls _).mono ?_
  rintro en w1 ⟨bb, ib, tb, rfl, h1, h2, h3, k1, hb⟩
  have HQ : Hid (Bq w1 bb ib tb (fun _ => (none, 0))) := ⟨⟨[], hb⟩, fun j _ _ => .inl ⟨rfl, rfl⟩, fun i j _ _ _ _ _ k e => by simp [tlB, tlV, Value.ownBlock] at e, fun j _ _ k e => by simp [tlB, tlV, Value.ownBlock] at e⟩
  have HK1 : Hid (Kp (fun _ => False) w w1) := k1
  clear hb k1
  go_wp2_with fail
  refine (vnew_calls _).mono ?_
  rintro en w2 ⟨rfl, k2, _, _⟩
  go_wp2_with fail
  refine bodyPost_ret (v := .tuple #[.pointer (some ⟨bb, 0, none⟩), .pointer (some ⟨w1.heap.size, 0, none⟩)]) (by simp [results, Tryz.results21, go_sem]) rfl ?_
  refine ⟨bb, ib, tb, w1.heap.size, rfl, HK1.out.trans k2, HQ.out.keep k2 (fun _ _ e => e), fun k e => ?_⟩
  rcases e with e | e | e | ⟨j, _, _, e⟩
  · omega
  · omega
  · omega
  · simp [tlB, tlV, Value.ownBlock] at e
set_option maxHeartbeats 8000000 in
theorem recodeUp_calls (hNr : NumR num) (hNo : NumOk num) (hkn : Kn W) (hs : Script W a0 len) : Calls Tryz.prog 10 #[.slice a0 len cap] W (fun en w' => en = .returned (.int .i64 (-1)) ∧ Kp (fun _ => False) W w') := by
  have HNR : Hid (NumR num) := hNr
  have HNO : Hid (NumOk num) := hNo
  have HKN : Hid (Kn W) := hkn
  have HSC : Hid (Script W a0 len) := hs
  clear hNr hNo hkn hs
  go_enter Tryz.func10, Tryz.ntmps10
  go_wp2_with fail
  refine (front_calls _).mono ?_
  rintro en w0 ⟨bb, ib, tb, vb, rfl, k0, hq, hv⟩
  have HQ0 : Hid (Bq w0 bb ib tb (fun _ => (none, 0))) := hq
  have HV0 : Hid (∀ k, VB bb ib tb (fun _ => (none, 0)) k → W.heap.size ≤ k) := hv
  have HK0 : Hid (Kp (fun _ => False) W w0) := k0
  clear hq hv k0
  go_wp2_with fail
  refine (tnew_calls _).mono ?_
  rintro en w1 ⟨X, rfl, hX, x1, x2, k1, bx⟩
  go_wp2_with fail
  refine (tnew_calls _).mono ?_
  rintro en w2 ⟨Y, rfl, hY, y1, y2, k2, b_y⟩
  have HT0 : Hid (Kr num W w2 X Y ma0 bb ib tb (fun _ => (none, 0))) := ⟨duo_new hX hY HK0.out k1 k2 x1 x2 y1 y2 bx b_y (fun k e => ⟨HV0.out k e, HQ0.out.lt e⟩), HQ0.out.keep (k1.trans k2) (fun _ _ e => e)⟩
  clear hX hY k1 k2 x1 x2 y1 y2 bx b_y HQ0 HV0 HK0
  go_wp2_with fail
  refine lo10_start (cap := cap) (X := X) (Y := Y) (bb := bb) (ib := ib) (tb := tb) (v := .pointer (some ⟨vb, 0, none⟩)) HNR.out HNO.out HKN.out HSC.out HT0.out (by kernel_rfl) ?_
  intro tmps w' ii ht hk
  generalize (fun j => tmps.getD j undef) = u' at ht
  subst ht
  have HK : Hid _ := hk
  clear hk HT0
  unfold fr10
  go_wp2_with fail
  refine bodyPost_ret (v := .int .i64 (-1)) (by simp [results, Tryz.results10, go_sem]) rfl ?_
  exact ⟨rfl, HK.out⟩
end
end Go.Proofs.Qxb6500275aGreatDoor
