import Derived.Test.Qxb6500275aGreatDoorRh1
set_option maxRecDepth 100000
set_option linter.unusedVariables false
set_option linter.unusedSimpArgs false
namespace Go.Proofs.Qxb6500275aGreatDoor
open Go Go.RowKit
theorem beq_toList (s : ByteArray) (l : List UInt8) (b : Bool) (h : (s == ⟨⟨l⟩⟩) = b) : (s.toList == l) = b := by
  rw [← h, Go.ByteArray.toList_eq]
  show _ = (s.data == (⟨l⟩ : Array UInt8))
  rw [Bool.eq_iff_iff, beq_iff_eq, beq_iff_eq]
  constructor
  · intro e; rw [← e]
  · intro e; rw [e]
/- how a method of the model's host ends -/
def Hz (w : World) (hb : Nat) (vk vt v : Value) (H : Hm) (en : Ending) (w' : World) : Prop := en = .returned v ∧ ∃ vk' vt', Mh w' hb vk' vt' H ∧ Gw w w' (Mhv hb vk vt) (Mhv hb vk' vt')
theorem Hz.mk {w u : World} {hb : Nat} {vk vt v vk' vt' : Value} {H : Hm} (h : Mj w u (Mhv hb vk vt) hb vk' vt' H) : Hz w hb vk vt v H (.returned v) u := ⟨rfl, vk', vt', h.1, h.2⟩
theorem hnew_m (w : World) : Calls Tryz.prog 76 #[] w (fun en w' => ∃ hb, en = .returned (.pointer (some ⟨hb, 0, none⟩)) ∧ Mh w' hb (.slice none 0 0) (.slice none 0 0) ⟨[], [], [], 0⟩ ∧ Kp (fun _ => False) w w' ∧ w.heap.size ≤ hb) := by
  go_enter Tryz.func76, Tryz.ntmps76
  go_wp2
  refine bodyPost_ret (v := .pointer (some ⟨w.heap.size, 0, none⟩)) (by simp [results, Tryz.results76, go_sem]) rfl ?_
  refine ⟨w.heap.size, rfl, ⟨⟨_, blk_arr3 _ _ _, rfl, rfl, rfl, rfl⟩, OR.nil _ _ _, RDr.of (e := 91) (OR.nil _ _ _), fun k e => (nil_own e).elim, fun k e => (nil_own e).elim⟩, (Kp.refl _ _).alloc _, Nat.le_refl _⟩
section
variable {w : World} {hb : Nat} {vk vt : Value} {H : Hm}
set_option maxHeartbeats 4000000 in
theorem hclear_m (h : Mh w hb vk vt H) : Calls Tryz.prog 130 #[.pointer (some ⟨hb, 0, none⟩)] w (Hz w hb vk vt (.tuple #[]) (clearS H)) := by
  obtain ⟨c0, c1, c2, c3⟩ := h.c
  have f0 := h.fz 0 (by decide)
  have f2 := h.fz 2 (by decide)
  have f3 := h.fz 3 (by decide)
  have HH : Hid _ := h
  clear h
  go_enter Tryz.func130, Tryz.ntmps130
  go_wp2
  go_end0
  exact Hz.mk (((Mj.start HH.out).kn.tr []).rw_ 0)
set_option maxHeartbeats 4000000 in
theorem hfresh_m (h : Mh w hb vk vt H) : Calls Tryz.prog 137 #[.pointer (some ⟨hb, 0, none⟩)] w (Hz w hb vk vt (.tuple #[]) { H with tr := [], rows := 0 }) := by
  obtain ⟨c0, c1, c2, c3⟩ := h.c
  have f2 := h.fz 2 (by decide)
  have f3 := h.fz 3 (by decide)
  have HH : Hid _ := h
  clear h
  go_enter Tryz.func137, Tryz.ntmps137
  go_wp2
  go_end0
  exact Hz.mk (((Mj.start HH.out).tr []).rw_ 0)
set_option maxHeartbeats 4000000 in
theorem hbind_1 (h : Mh w hb vk vt H) {s : ByteArray} (hs : s.size ≤ 8) (hl : H.bd.length < 4) (q1 : (s.toList == [116, 97, 112, 101]) = true) : Calls Tryz.prog 191 #[.pointer (some ⟨hb, 0, none⟩), .string s] w (Hz w hb vk vt (.int .i64 0) { H with bd := H.bd ++ [1] }) := by
  obtain ⟨c0, c1, c2, c3⟩ := h.c
  have f0 := h.fz 0 (by decide)
  obtain ⟨ka, kc, hkv⟩ := h.k.slice
  obtain ⟨n, hn⟩ : ∃ n, H.bd.length = n := ⟨_, rfl⟩
  rw [hn] at hkv hl
  have hs' : ¬ (8 : Int) < (s.size : Int) := by omega
  have hl' : ¬ (4 : Int) ≤ (n : Int) := by omega
  have HH : Hid _ := h
  have HN : Hid _ := hn
  clear h hn hs hl
  obtain ⟨v', w', r1, ⟨r2, r3⟩, ⟨ra, rn, rc, rfl⟩, r5⟩ := (Mj.start HH.out).pk (by have := HN.out; omega) 1
  rw [hkv] at c0 r1 r2
  have HR : Hid _ := r5
  have HV : Hid _ := hkv
  clear r5 hkv
  go_enter Tryz.func191, Tryz.ntmps191
  go_wp2_with (at_builtin; refine wpList_app rfl _ _ 203 rfl r1 ?_)
  go_wp2
  go_ret
  exact Hz.mk HR.out
set_option maxHeartbeats 4000000 in
theorem hbind_2 (h : Mh w hb vk vt H) {s : ByteArray} (hs : s.size ≤ 8) (hl : H.bd.length < 4) (q1 : (s.toList == [116, 97, 112, 101]) = false) (q2 : (s.toList == [122, 101, 114, 111]) = true) : Calls Tryz.prog 191 #[.pointer (some ⟨hb, 0, none⟩), .string s] w (Hz w hb vk vt (.int .i64 0) { H with bd := H.bd ++ [2] }) := by
  obtain ⟨c0, c1, c2, c3⟩ := h.c
  have f0 := h.fz 0 (by decide)
  obtain ⟨ka, kc, hkv⟩ := h.k.slice
  obtain ⟨n, hn⟩ : ∃ n, H.bd.length = n := ⟨_, rfl⟩
  rw [hn] at hkv hl
  have hs' : ¬ (8 : Int) < (s.size : Int) := by omega
  have hl' : ¬ (4 : Int) ≤ (n : Int) := by omega
  have HH : Hid _ := h
  have HN : Hid _ := hn
  clear h hn hs hl
  obtain ⟨v', w', r1, ⟨r2, r3⟩, ⟨ra, rn, rc, rfl⟩, r5⟩ := (Mj.start HH.out).pk (by have := HN.out; omega) 2
  rw [hkv] at c0 r1 r2
  have HR : Hid _ := r5
  have HV : Hid _ := hkv
  clear r5 hkv
  go_enter Tryz.func191, Tryz.ntmps191
  go_wp2_with (at_builtin; refine wpList_app rfl _ _ 203 rfl r1 ?_)
  go_wp2
  go_ret
  exact Hz.mk HR.out
set_option maxHeartbeats 4000000 in
theorem hbind_3 (h : Mh w hb vk vt H) {s : ByteArray} (hs : s.size ≤ 8) (hl : H.bd.length < 4) (q1 : (s.toList == [116, 97, 112, 101]) = false) (q2 : (s.toList == [122, 101, 114, 111]) = false) (q3 : (s.toList == [115, 105, 122, 101]) = true) : Calls Tryz.prog 191 #[.pointer (some ⟨hb, 0, none⟩), .string s] w (Hz w hb vk vt (.int .i64 0) { H with bd := H.bd ++ [3] }) := by
  obtain ⟨c0, c1, c2, c3⟩ := h.c
  have f0 := h.fz 0 (by decide)
  obtain ⟨ka, kc, hkv⟩ := h.k.slice
  obtain ⟨n, hn⟩ : ∃ n, H.bd.length = n := ⟨_, rfl⟩
  rw [hn] at hkv hl
  have hs' : ¬ (8 : Int) < (s.size : Int) := by omega
  have hl' : ¬ (4 : Int) ≤ (n : Int) := by omega
  have HH : Hid _ := h
  have HN : Hid _ := hn
  clear h hn hs hl
  obtain ⟨v', w', r1, ⟨r2, r3⟩, ⟨ra, rn, rc, rfl⟩, r5⟩ := (Mj.start HH.out).pk (by have := HN.out; omega) 3
  rw [hkv] at c0 r1 r2
  have HR : Hid _ := r5
  have HV : Hid _ := hkv
  clear r5 hkv
  go_enter Tryz.func191, Tryz.ntmps191
  go_wp2_with (at_builtin; refine wpList_app rfl _ _ 203 rfl r1 ?_)
  go_wp2
  go_ret
  exact Hz.mk HR.out
set_option maxHeartbeats 4000000 in
theorem hbind_4 (h : Mh w hb vk vt H) {s : ByteArray} (hs : s.size ≤ 8) (hl : H.bd.length < 4) (q1 : (s.toList == [116, 97, 112, 101]) = false) (q2 : (s.toList == [122, 101, 114, 111]) = false) (q3 : (s.toList == [115, 105, 122, 101]) = false) (q4 : (s.toList == [116, 114, 97, 112]) = true) : Calls Tryz.prog 191 #[.pointer (some ⟨hb, 0, none⟩), .string s] w (Hz w hb vk vt (.int .i64 0) { H with bd := H.bd ++ [4] }) := by
  obtain ⟨c0, c1, c2, c3⟩ := h.c
  have f0 := h.fz 0 (by decide)
  obtain ⟨ka, kc, hkv⟩ := h.k.slice
  obtain ⟨n, hn⟩ : ∃ n, H.bd.length = n := ⟨_, rfl⟩
  rw [hn] at hkv hl
  have hs' : ¬ (8 : Int) < (s.size : Int) := by omega
  have hl' : ¬ (4 : Int) ≤ (n : Int) := by omega
  have HH : Hid _ := h
  have HN : Hid _ := hn
  clear h hn hs hl
  obtain ⟨v', w', r1, ⟨r2, r3⟩, ⟨ra, rn, rc, rfl⟩, r5⟩ := (Mj.start HH.out).pk (by have := HN.out; omega) 4
  rw [hkv] at c0 r1 r2
  have HR : Hid _ := r5
  have HV : Hid _ := hkv
  clear r5 hkv
  go_enter Tryz.func191, Tryz.ntmps191
  go_wp2_with (at_builtin; refine wpList_app rfl _ _ 203 rfl r1 ?_)
  go_wp2
  go_ret
  exact Hz.mk HR.out
set_option maxHeartbeats 4000000 in
theorem hbind_5 (h : Mh w hb vk vt H) {s : ByteArray} (hs : s.size ≤ 8) (hl : H.bd.length < 4) (q1 : (s.toList == [116, 97, 112, 101]) = false) (q2 : (s.toList == [122, 101, 114, 111]) = false) (q3 : (s.toList == [115, 105, 122, 101]) = false) (q4 : (s.toList == [116, 114, 97, 112]) = false) : Calls Tryz.prog 191 #[.pointer (some ⟨hb, 0, none⟩), .string s] w (Hz w hb vk vt (.int .i64 30) H) := by
  obtain ⟨c0, c1, c2, c3⟩ := h.c
  have f0 := h.fz 0 (by decide)
  obtain ⟨ka, kc, hkv⟩ := h.k.slice
  obtain ⟨n, hn⟩ : ∃ n, H.bd.length = n := ⟨_, rfl⟩
  rw [hn] at hkv hl
  have hs' : ¬ (8 : Int) < (s.size : Int) := by omega
  have hl' : ¬ (4 : Int) ≤ (n : Int) := by omega
  have HH : Hid _ := h
  have HN : Hid _ := hn
  clear h hn hs hl
  rw [hkv] at c0
  clear hkv
  go_enter Tryz.func191, Tryz.ntmps191
  go_wp2
  go_ret
  exact Hz.mk (Mj.start HH.out)
theorem hbind_m (h : Mh w hb vk vt H) (s : ByteArray) (hs : s.size ≤ 8) (hl : H.bd.length < 4) : Calls Tryz.prog 191 #[.pointer (some ⟨hb, 0, none⟩), .string s] w (Hz w hb vk vt (.int .i64 ((bindS H s).1 : Nat)) (bindS H s).2) := by
  unfold bindS
  rw [if_neg (by omega), if_neg (by omega)]
  unfold kindN
  cases q1 : s == tapeB
  · cases q2 : s == zeroB
    · cases q3 : s == sizeB
      · cases q4 : s == trapB
        · exact hbind_5 h hs hl (beq_toList _ _ _ q1) (beq_toList _ _ _ q2) (beq_toList _ _ _ q3) (beq_toList _ _ _ q4)
        · exact hbind_4 h hs hl (beq_toList _ _ _ q1) (beq_toList _ _ _ q2) (beq_toList _ _ _ q3) (beq_toList _ _ _ q4)
      · exact hbind_3 h hs hl (beq_toList _ _ _ q1) (beq_toList _ _ _ q2) (beq_toList _ _ _ q3)
    · exact hbind_2 h hs hl (beq_toList _ _ _ q1) (beq_toList _ _ _ q2)
  · exact hbind_1 h hs hl (beq_toList _ _ _ q1)
end
end Go.Proofs.Qxb6500275aGreatDoor
