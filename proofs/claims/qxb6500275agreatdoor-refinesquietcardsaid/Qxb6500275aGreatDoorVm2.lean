import Derived.Test.Qxb6500275aGreatDoorVm1
import Derived.Test.Qxb6500275aGreatDoorBm5
set_option maxRecDepth 100000
set_option linter.unusedVariables false
set_option linter.unusedSimpArgs false
namespace Go.Proofs.Qxb6500275aGreatDoor
open Go Go.RowKit
def oneB (t : Nat) : ByteArray := ⟨#[UInt8.ofNat t]⟩
theorem oneB_size (t : Nat) : (oneB t).size = 1 := rfl
theorem oneB_at {t : Nat} (h : t < 256) : bAt (oneB t) 0 = t := by
  unfold oneB bAt
  simp
  omega
section
variable {w : World}
set_option maxHeartbeats 1000000 in
theorem one_m (t : Nat) (ht : t < 256) : Calls Tryz.prog 255 #[.int .u8 (t : Int)] w (fun en w' => en = .returned (.string (oneB t)) ∧ Kp (fun _ => False) w w') := by
  have HO := one_str w t ht
  go_enter Tryz.func255, Tryz.ntmps255
  go_wp2_with (simp only [HO])
  go_ret
  exact ⟨rfl, (Kp.refl _ _).alloc _⟩
/- the text of a block's type -/
def btT (x : Int) : ByteArray := if x = 64 then ⟨#[]⟩ else oneB (x.toNat % 256)
set_option maxHeartbeats 1000000 in
theorem blockType_m (x : Int) (hx : u32R x) : Calls Tryz.prog 253 #[.int .u32 x] w (fun en w' => en = .returned (.string (btT x)) ∧ Kp (fun _ => False) w w') := by
  unfold u32R at hx
  obtain ⟨n, hn⟩ : ∃ n : Nat, x = n := ⟨x.toNat, by omega⟩
  subst hn
  by_cases h : (n : Int) = 64
  · have e : btT (n : Int) = ⟨#[]⟩ := by unfold btT; rw [if_pos h]
    rw [e]
    clear e
    go_enter Tryz.func253, Tryz.ntmps253
    go_wp2
    go_ret
    exact ⟨rfl, Kp.refl _ _⟩
  · have hb : ((n : Int) == 64) = false := by rw [beq_eq_false_iff_ne]; exact h
    have e : btT (n : Int) = oneB (n % 256) := by unfold btT; rw [if_neg h, Int.toNat_natCast]
    rw [e]
    have HO := one_m (w := w) (n % 256) (by omega)
    have hw : IntKind.u8.wrap (n : Int) = ((n % 256 : Nat) : Int) := by simp only [IntKind.wrap, IntKind.bits, IntKind.signed]; simp
    clear e h
    go_enter Tryz.func253, Tryz.ntmps253
    go_wp2_with fail
    refine HO.mono ?_
    rintro en w2 ⟨rfl, hk⟩
    go_wp2
    go_ret
    exact ⟨rfl, hk⟩
def constT (op : Nat) : Nat := if op = 65 then 127 else if op = 66 then 126 else if op = 67 then 125 else if op = 68 then 124 else 0
theorem constT_V (op : Nat) : constT op = constOfV op := by
  unfold constT constOfV
  by_cases h1 : op = 65
  · subst h1; rfl
  by_cases h2 : op = 66
  · subst h2; rfl
  by_cases h3 : op = 67
  · subst h3; rfl
  by_cases h4 : op = 68
  · subst h4; rfl
  rw [if_neg h1, if_neg h2, if_neg h3, if_neg h4, if_pos (by omega)]
set_option maxHeartbeats 1000000 in
theorem constType_m (x : Ins) (hx : x.op < 256) : Calls Tryz.prog 250 #[Ins.val x] w (fun en w' => en = .returned (.int .u8 (constT x.op : Int)) ∧ Kp (fun _ => False) w w') := by
  obtain ⟨op, hop⟩ : ∃ op, x.op = op := ⟨_, rfl⟩
  unfold Ins.val
  rw [hop] at hx ⊢
  unfold constT
  by_cases h1 : op = 65
  · subst h1
    clear hop
    go_enter Tryz.func250, Tryz.ntmps250
    go_wp2
    go_ret
    exact ⟨rfl, (Kp.refl _ _).alloc _⟩
  by_cases h2 : op = 66
  · subst h2
    clear hop
    go_enter Tryz.func250, Tryz.ntmps250
    go_wp2
    go_ret
    exact ⟨rfl, (Kp.refl _ _).alloc _⟩
  by_cases h3 : op = 67
  · subst h3
    clear hop
    go_enter Tryz.func250, Tryz.ntmps250
    go_wp2
    go_ret
    exact ⟨rfl, (Kp.refl _ _).alloc _⟩
  by_cases h4 : op = 68
  · subst h4
    clear hop
    go_enter Tryz.func250, Tryz.ntmps250
    go_wp2
    go_ret
    exact ⟨rfl, (Kp.refl _ _).alloc _⟩
  rw [if_neg h1, if_neg h2, if_neg h3, if_neg h4]
  have q1 : ((op : Int) == 65) = false := by rw [beq_eq_false_iff_ne]; omega
  have q2 : ((op : Int) == 66) = false := by rw [beq_eq_false_iff_ne]; omega
  have q3 : ((op : Int) == 67) = false := by rw [beq_eq_false_iff_ne]; omega
  have q4 : ((op : Int) == 68) = false := by rw [beq_eq_false_iff_ne]; omega
  clear hop h1 h2 h3 h4
  go_enter Tryz.func250, Tryz.ntmps250
  go_wp2
  go_ret
  exact ⟨rfl, (Kp.refl _ _).alloc _⟩
def encP3 (x : ByteArray × Nat × Bool) : Value := .tuple #[.string x.1, .int .u8 (x.2.1 : Int), .bool x.2.2]
set_option maxHeartbeats 2000000 in
theorem vpop_m (st : ByteArray) (p : Bool) (want : Nat) (hs : st.size ≤ 100) (hw : want < 256) : Calls Tryz.prog 252 #[.string st, .bool p, .int .u8 (want : Int)] w (fun en w' => en = .returned (encP3 (popS st p want)) ∧ w' = w) := by
  unfold popS
  by_cases h0 : st.size = 0
  · rw [if_pos h0]
    have hz : (st.size : Int) = 0 := by omega
    clear h0
    go_enter Tryz.func252, Tryz.ntmps252
    go_wp2
    go_ret3
    exact ⟨rfl, rfl⟩
  · rw [if_neg h0]
    obtain ⟨n, hn⟩ : ∃ n, st.size - 1 = n := ⟨_, rfl⟩
    have hnl : n < st.size := by omega
    have hni : (st.size : Int) - 1 = (n : Int) := by omega
    have hz : ((st.size : Int) == 0) = false := by rw [beq_eq_false_iff_ne]; omega
    have hnb : (n : Int) ≤ 1000 := by omega
    have hnb2 : n ≤ 1000 := by omega
    rw [hn]
    obtain ⟨c, hc⟩ : ∃ c, bAt st n = c := ⟨_, rfl⟩
    have hcc : (st[n].toNat : Int) = (c : Int) := by rw [bAt_get st n hnl, hc]
    have hc256 : c < 256 := by rw [← hc]; exact bAt_lt _ _
    rw [hc]
    clear hn h0
    by_cases hc0 : c = 0
    · rw [if_pos hc0]
      have hd : decide (c = 0 ∨ want = 0 ∨ c = want) = true := by simp [hc0]
      rw [hd]
      have hci : (st[n].toNat : Int) = 0 := by omega
      clear hcc hc hd hc0
      go_enter Tryz.func252, Tryz.ntmps252
      go_wp2
      go_ret3
      exact ⟨rfl, rfl⟩
    · rw [if_neg hc0]
      have hcb : ((c : Int) == 0) = false := by rw [beq_eq_false_iff_ne]; omega
      by_cases hw0 : want = 0
      · have hd : decide (c = 0 ∨ want = 0 ∨ c = want) = true := by simp [hw0]
        rw [hd]
        subst hw0
        clear hd hc
        go_enter Tryz.func252, Tryz.ntmps252
        go_wp2
        go_ret3
        exact ⟨rfl, rfl⟩
      · have hwb : ((want : Int) == 0) = false := by rw [beq_eq_false_iff_ne]; omega
        have hd : decide (c = 0 ∨ want = 0 ∨ c = want) = ((c : Int) == (want : Int)) := by rw [Bool.eq_iff_iff]; simp; omega
        rw [hd]
        clear hd hc
        go_enter Tryz.func252, Tryz.ntmps252
        go_wp2
        go_ret3
        exact ⟨rfl, rfl⟩
def encP2 (x : ByteArray × Bool) : Value := .tuple #[.string x.1, .bool x.2]
theorem popsS_step (p : Bool) {ts : ByteArray} {j : Nat} (hj : j < ts.size) (st : ByteArray) : popsS p ((argsV (ts.extract 0 (j + 1)))) st = if (popS st p (bAt ts j)).2.2 = true then popsS p (argsV (ts.extract 0 j)) (popS st p (bAt ts j)).1 else ((popS st p (bAt ts j)).1, false) := by
  have hsz : (ts.extract 0 (j + 1)).size = j + 1 := by rw [ByteArray.size_extract]; omega
  rw [argsV_top (s := ts.extract 0 (j + 1)) (by omega), hsz]
  have e1 : bAt (ts.extract 0 (j + 1)) (j + 1 - 1) = bAt ts j := by
    unfold bAt
    congr 1
    rw [ByteArray.data_extract]
    simp
  have e2 : (ts.extract 0 (j + 1)).extract 0 (j + 1 - 1) = ts.extract 0 j := by
    rw [Nat.add_sub_cancel]
    apply ByteArray.ext
    simp only [ByteArray.data_extract]
    simp
  rw [e1, e2, popsS]
set_option maxHeartbeats 2000000 in
theorem vpops_m (st : ByteArray) (p : Bool) (ts : ByteArray) (hs : st.size ≤ 100) (ht : ts.size ≤ 100) : Calls Tryz.prog 251 #[.string st, .bool p, .string ts] w (fun en w' => en = .returned (encP2 (popsS p (argsV ts) st)) ∧ w' = w) := by
  obtain ⟨X, hX⟩ : ∃ X, popsS p (argsV ts) st = X := ⟨_, rfl⟩
  rw [hX]
  have HX : Hid (popsS p (argsV (ts.extract 0 ts.size)) st = X) := by
    show _ = _
    rw [show ts.extract 0 ts.size = ts from ByteArray.extract_zero_size]
    exact hX
  clear hX
  go_enter Tryz.func251, Tryz.ntmps251
  go_wp2
  go_loopw [0, 8, 9] (fun ss oo ii w1 => ∃ (j : Nat) (s1 : ByteArray) (ok : Bool), j ≤ ts.size ∧ s1.size ≤ 100 ∧ ss = .string s1 ∧ oo = .bool ok ∧ ii = .int .i64 ((j : Int) - 1) ∧ w1 = w ∧ Hid ((if ok = true then popsS p (argsV (ts.extract 0 j)) s1 else (s1, false)) = X)) (fun _ oo ii _ => (intOf ii + 1).toNat)
  case atStart => exact ⟨ts.size, st, true, Nat.le_refl _, hs, rfl, rfl, by first | rfl | go_num, rfl, by show (if true = true then _ else _) = X; rw [if_pos rfl]; exact HX.out⟩
  case round =>
    obtain ⟨j, s1, ok, hj, hs1, rfl, rfl, rfl, rfl, HM⟩ := hrel
    clear HX
    cases ok with
    | false =>
      by_cases hj0 : j = 0
      · subst hj0
        go_wp2
        go_ret2
        have := HM.out
        rw [if_neg (by decide)] at this
        rw [← this]
        exact ⟨rfl, rfl⟩
      · have hji : (0 : Int) ≤ (j : Int) - 1 := by omega
        go_wp2
        go_ret2
        have := HM.out
        rw [if_neg (by decide)] at this
        rw [← this]
        exact ⟨rfl, rfl⟩
    | true =>
      by_cases hj0 : j = 0
      · subst hj0
        go_wp2
        go_ret2
        have := HM.out
        rw [if_pos (by trivial), argsV_nil (by rw [ByteArray.size_extract]; omega)] at this
        rw [← this]
        exact ⟨rfl, rfl⟩
      · obtain ⟨i, rfl⟩ : ∃ i, j = i + 1 := ⟨j - 1, by omega⟩
        have hii : ((i + 1 : Nat) : Int) - 1 = (i : Int) := by omega
        rw [hii]
        have hil : i < ts.size := by omega
        have HP := fun (u : World) => vpop_m (w := u) s1 p (bAt ts i) hs1 (bAt_lt _ _)
        have hcc : (ts[i].toNat : Int) = (bAt ts i : Int) := by rw [bAt_get ts i hil]
        have hps := popS_size s1 p (bAt ts i)
        have HM2 := HM.out
        rw [if_pos (by trivial), popsS_step p hil] at HM2
        obtain ⟨r, hr⟩ : ∃ r, popS s1 p (bAt ts i) = r := ⟨_, rfl⟩
        rw [hr] at HP HM2 hps
        have HM3 : Hid _ := HM2
        obtain ⟨c, hc⟩ : ∃ c, bAt ts i = c := ⟨_, rfl⟩
        rw [hc] at hcc HP
        clear HM HM2 hr hc
        go_wp2_with fail
        refine (HP _).mono ?_
        rintro en w2 ⟨rfl, rfl⟩
        unfold encP3
        go_wp2
        exact ⟨⟨i, r.1, r.2.2, by omega, by omega, rfl, rfl, by first | rfl | go_num, by trivial, HM3.out⟩, by simp [intOf]⟩
end
end Go.Proofs.Qxb6500275aGreatDoor
