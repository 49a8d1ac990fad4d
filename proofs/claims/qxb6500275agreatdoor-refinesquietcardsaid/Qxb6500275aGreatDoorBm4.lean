import Derived.Test.Qxb6500275aGreatDoorBm3
set_option maxRecDepth 100000
set_option linter.unusedVariables false
set_option linter.unusedSimpArgs false
namespace Go.Proofs.Qxb6500275aGreatDoor
open Go Go.RowKit
section
variable {w w' : World} {b : Nat} {s : ByteArray} {p e : Nat} {er : Int} {a : Nat}
def encI8 (n : Int) : Value := .int .i64 n
/- one behind the other -/
theorem Cu.trans {α β : Type} {o : R α} {k : α × Nat → R β} {v : α} {v2 : β} {q q2 a1 a2 : Nat} {er1 er2 : Int} (h1 : Cu o er a v q er1 a1) (h2 : Cu (k (v, q)) er1 a1 v2 q2 er2 a2) : Cu (bindQ o k) er a v2 q2 er2 a2 := by
  constructor
  · intro h0
    rcases h1.1 h0 with ⟨ho, e1⟩ | ⟨ho, e1⟩
    · rw [ho]
      exact h2.1 e1
    · rw [ho]
      obtain ⟨g1, g2⟩ := h2.2 e1
      subst g1 g2
      exact .inr ⟨rfl, e1⟩
  · intro h0
    obtain ⟨g1, g2⟩ := h1.2 h0
    subst g1 g2
    exact h2.2 h0
theorem Cu.pure {α : Type} (v : α) (q : Nat) : Cu (.ok (v, q)) er a v q er a := ⟨fun h => .inl ⟨rfl, h⟩, fun _ => ⟨rfl, rfl⟩⟩
theorem Cu.fail {α : Type} {c er' : Int} {a0 a' : Nat} (v : α) (q : Nat) (h : Flq er a c a0 er' a') (hc : c ≠ 0) : Cu (.error (c, a0)) er a v q er' a' :=
  ⟨fun h0 => .inr (by obtain ⟨g1, g2⟩ := h.1 h0; subst g1 g2; exact ⟨rfl, hc⟩), h.2⟩
theorem Cu.eq {α : Type} {o o' : R α} {v : α} {q a1 : Nat} {er1 : Int} (h : Cu o er a v q er1 a1) (e : o = o') : Cu o' er a v q er1 a1 := by rw [← e]; exact h
theorem Cu.le {α : Type} {o : R α} {v : α} {q a1 : Nat} {er1 : Int} (h : Cu o er a v q er1 a1) (h1 : er1 = 0) : o = .ok (v, q) := by
  have h0 : er = 0 := Classical.byContradiction (fun h2 => h2 ((h.2 h2).1.symm.trans h1))
  rcases h.1 h0 with ⟨g, _⟩ | ⟨_, g⟩
  · exact g
  · exact absurd h1 g
set_option maxHeartbeats 1000000 in
theorem u32_m (h : Rc w b s p e er a) : Calls Tryz.prog 184 #[.pointer (some ⟨b, 0, none⟩)] w (Cm encI8 (fun v => 0 ≤ v ∧ v < 4294967296) (u32S s p e) b s e er a w) := by
  have HL := leb_m (n := 32) (L := 4) (sg := false) h (.inl ⟨rfl, rfl⟩)
  rw [lebU_all] at HL
  clear h
  go_enter Tryz.func184, Tryz.ntmps184
  go_wp2_with fail
  refine HL.mono ?_
  rintro en w2 ⟨v, q, er', a', rfl, hR, hK, hB, hC⟩
  have hB2 : 0 ≤ v ∧ v < 4294967296 := by simpa using hB
  unfold encQ8
  clear hB
  go_wp2
  go_ret
  exact ⟨v, q, er', a', rfl, hR, hK, hB2, hC⟩
theorem countS_b (s : ByteArray) (p e : Nat) (mx : Int) : countS s p e mx = bindQ (u32S s p e) (fun x => if x.1 > mx then .error (7, p) else .ok (x.1, x.2)) := by
  unfold countS bindQ
  cases u32S s p e <;> rfl
set_option maxHeartbeats 1000000 in
theorem count_m (h : Rc w b s p e er a) (mx : Int) (hm : -1 ≤ mx ∧ mx ≤ 4096) : Calls Tryz.prog 241 #[.pointer (some ⟨b, 0, none⟩), .int .i64 mx] w (Cm encI8 (fun v => 0 ≤ v ∧ (v ≤ mx ∨ v = 0)) (countS s p e mx) b s e er a w) := by
  obtain ⟨c0, c1, c2, c3, c4, ⟨⟨f1, f2⟩, f3, f4⟩, le, es, sz, al⟩ := id h
  have HU := u32_m h
  rw [countS_b]
  clear h
  go_enter Tryz.func241, Tryz.ntmps241
  go_wp2_with fail
  refine HU.mono ?_
  rintro en w2 ⟨v, q, er', a', rfl, hR, hK, hB, hC⟩
  unfold encI8
  have HF := fail_m hR 7 p (by omega)
  have HR : Hid _ := hR
  clear hR c0 c1 c2 c3 c4 f1 f2 f3 f4
  by_cases hv : v > mx
  · have HC : Hid (∀ er2 a2, Flq er' a' 7 p er2 a2 → Cu (bindQ (u32S s p e) (fun x => if x.1 > mx then .error (7, p) else .ok (x.1, x.2))) er a 0 q er2 a2) := fun er2 a2 hf => hC.out.trans (by rw [if_pos hv]; exact Cu.fail 0 q hf (by decide))
    clear hC
    go_wp2_with fail
    refine HF.mono ?_
    rintro en w3 ⟨er2, a2, rfl, hR2, hK2, hF⟩
    go_wp2
    go_ret
    exact ⟨0, q, er2, a2, rfl, hR2, hK.trans hK2, by omega, HC.out _ _ hF.out⟩
  · have HC : Hid (Cu (bindQ (u32S s p e) (fun x => if x.1 > mx then .error (7, p) else .ok (x.1, x.2))) er a v q er' a') := hC.out.trans (by rw [if_neg hv]; exact Cu.pure v q)
    clear hC
    go_wp2
    go_ret
    exact ⟨v, q, er', a', rfl, HR.out, hK, by omega, HC.out⟩
set_option maxHeartbeats 1000000 in
theorem take_m (h : Rc w b s p e er a) (n : Nat) (hn : n ≤ 4294967296) : Calls Tryz.prog 249 #[.pointer (some ⟨b, 0, none⟩), .int .i64 n] w (Cm encS (fun v => v.size ≤ n) (takeS s p e n) b s e er a w) := by
  obtain ⟨c0, c1, c2, c3, c4, ⟨⟨f1, f2⟩, f3, f4⟩, le, es, sz, al⟩ := id h
  by_cases he : er = 0
  · subst he
    by_cases hp : e - p < n
    · have HF := fun u (hu : Kp (fun _ => False) w u) => fail_m (h.keep hu (fun h => h)) 3 e (by omega)
      have hgt : ((e : Int) - (p : Int) < (n : Int)) := by omega
      clear h
      go_enter Tryz.func249, Tryz.ntmps249
      go_wp2
      go_region
      go_wp2_with fail
      refine (HF _ (Kp.refl _ _).drew).mono ?_
      rintro en w3 ⟨er2, a2, rfl, hR2, hK2, hF⟩
      go_wp2
      go_ret
      exact ⟨ByteArray.empty, p, er2, a2, rfl, hR2, ((Kp.refl (· = b) w).drew).trans hK2, Nat.zero_le _, (Cu.fail _ _ hF.out (by decide)).eq (by unfold takeS; rw [if_pos hp])⟩
    · have HR : Hid _ := (h.setP (p + n) (by omega)).drew.drew
      have hk := (((Kp.refl (· = b) w).setCell (p := ⟨b, 1, none⟩) (.inl rfl) (.int .i64 ((p + n : Nat) : Int))).drew.drew)
      have HK : Hid _ := hk
      have hle : ¬ ((e : Int) - (p : Int) < (n : Int)) := by omega
      have hps : p + n ≤ s.size := by omega
      clear hk h
      go_enter Tryz.func249, Tryz.ntmps249
      go_wp2
      go_region
      go_wp2
      go_region
      go_wp2
      go_ret
      refine ⟨s.extract p (p + n), p + n, 0, a, ?_, HR.out, HK.out, by show (s.extract p (p + n)).size ≤ n; rw [ByteArray.size_extract]; omega, (Cu.pure _ _).eq (by unfold takeS; rw [if_neg hp])⟩
      first | rfl | (rfl               )
  · have heb : (er == 0) = false := by rw [beq_eq_false_iff_ne]; exact he
    have HR : Hid _ := h
    clear h
    go_enter Tryz.func249, Tryz.ntmps249
    go_wp2
    go_ret
    exact ⟨ByteArray.empty, p, er, a, rfl, HR.out, Kp.refl _ _, Nat.zero_le _, ⟨fun h => absurd h he, fun _ => ⟨rfl, rfl⟩⟩⟩
theorem nameS_b (s : ByteArray) (p e : Nat) : nameS s p e = bindQ (countS s p e 8) (fun x => takeS s x.2 e x.1.toNat) := by
  unfold nameS bindQ
  cases countS s p e 8 <;> rfl
set_option maxHeartbeats 1000000 in
theorem name_m (h : Rc w b s p e er a) : Calls Tryz.prog 246 #[.pointer (some ⟨b, 0, none⟩)] w (Cm encS (fun v => v.size ≤ 8) (nameS s p e) b s e er a w) := by
  have HU := count_m h 8 (by decide)
  rw [nameS_b]
  clear h
  go_enter Tryz.func246, Tryz.ntmps246
  go_wp2_with fail
  refine HU.mono ?_
  rintro en w2 ⟨v, q, er', a', rfl, hR, hK, hB, hC⟩
  obtain ⟨n, hn⟩ : ∃ n : Nat, v = n := ⟨v.toNat, by omega⟩
  subst hn
  have HT := take_m hR n (by omega)
  clear hR
  unfold encI8
  go_wp2_with fail
  refine HT.mono ?_
  rintro en w3 ⟨t, q2, er2, a2, rfl, hR2, hK2, hB2, hC2⟩
  go_wp2
  go_ret
  exact ⟨t, q2, er2, a2, rfl, hR2, hK.trans hK2, by omega, hC.out.trans hC2.out⟩
theorem fixedS_b (s : ByteArray) (p e want : Nat) : fixedS s p e want = bindQ (nextS s p e) (fun x => if x.1 = want then .ok ((), x.2) else .error (8, p)) := by
  unfold fixedS nextS bindQ
  by_cases h : p < e
  · rw [if_pos h, if_pos h]
  · rw [if_neg h, if_neg h]
set_option maxHeartbeats 1000000 in
theorem fixed_m (h : Rc w b s p e er a) (want : Nat) (hw : want < 256) : Calls Tryz.prog 244 #[.pointer (some ⟨b, 0, none⟩), .int .i64 want] w (Cm encN (fun _ => True) (fixedS s p e want) b s e er a w) := by
  obtain ⟨c0, c1, c2, c3, c4, ⟨⟨f1, f2⟩, f3, f4⟩, le, es, sz, al⟩ := id h
  have HU := byte_m h
  rw [fixedS_b]
  clear h
  go_enter Tryz.func244, Tryz.ntmps244
  go_wp2_with fail
  refine HU.mono ?_
  rintro en w2 ⟨v, q, er', a', rfl, hR, hK, hB, hC⟩
  unfold encN8
  have HF := fail_m hR 8 p (by omega)
  have HR : Hid _ := hR
  clear hR c0 c1 c2 c3 c4 f1 f2 f3 f4
  by_cases hv : v = want
  · subst hv
    have HC : Hid (Cu (bindQ (nextS s p e) (fun x => if x.1 = v then (.ok ((), x.2) : R Unit) else .error (8, p))) er a () q er' a') := hC.out.trans (by rw [if_pos rfl]; exact Cu.pure () q)
    clear hC
    go_wp2
    refine bodyPost_end (v := .tuple #[]) (results_none rfl _ _ _) rfl ?_
    exact ⟨(), q, er', a', rfl, HR.out, hK, trivial, HC.out⟩
  · have HC : Hid (∀ er2 a2, Flq er' a' 8 p er2 a2 → Cu (bindQ (nextS s p e) (fun x => if x.1 = want then (.ok ((), x.2) : R Unit) else .error (8, p))) er a () q er2 a2) := fun er2 a2 hf => hC.out.trans (by rw [if_neg hv]; exact Cu.fail () q hf (by decide))
    have h1 : ((v : Int) == (want : Int)) = false := by rw [beq_eq_false_iff_ne]; omega
    have h2 : ((v : Int) != (want : Int)) = true := by simp; omega
    clear hC hv
    go_wp2_with fail
    refine HF.mono ?_
    rintro en w3 ⟨er2, a2, rfl, hR2, hK2, hF⟩
    go_wp2
    refine bodyPost_end (v := .tuple #[]) (results_none rfl _ _ _) rfl ?_
    exact ⟨(), q, er2, a2, rfl, hR2, hK.trans hK2, trivial, HC.out _ _ hF.out⟩
set_option maxHeartbeats 1000000 in
theorem isVal_m (t : Nat) (ht : t < 256) (w : World) : Calls Tryz.prog 262 #[.int .u8 t] w (fun en w' => en = .returned (.bool (decide (124 ≤ t ∧ t ≤ 127))) ∧ w' = w) := by
  by_cases h1 : t = 127
  · subst h1
    go_enter Tryz.func262, Tryz.ntmps262
    go_wp2
    go_ret
    exact ⟨rfl, rfl⟩
  by_cases h2 : t = 126
  · subst h2
    go_enter Tryz.func262, Tryz.ntmps262
    go_wp2
    go_ret
    exact ⟨rfl, rfl⟩
  by_cases h3 : t = 125
  · subst h3
    go_enter Tryz.func262, Tryz.ntmps262
    go_wp2
    go_ret
    exact ⟨rfl, rfl⟩
  by_cases h4 : t = 124
  · subst h4
    go_enter Tryz.func262, Tryz.ntmps262
    go_wp2
    go_ret
    exact ⟨rfl, rfl⟩
  have q1 : ((t : Int) == 127) = false := by rw [beq_eq_false_iff_ne]; omega
  have q2 : ((t : Int) == 126) = false := by rw [beq_eq_false_iff_ne]; omega
  have q3 : ((t : Int) == 125) = false := by rw [beq_eq_false_iff_ne]; omega
  have q4 : ((t : Int) == 124) = false := by rw [beq_eq_false_iff_ne]; omega
  have hd : decide (124 ≤ t ∧ t ≤ 127) = false := by simp; omega
  rw [hd]
  clear h1 h2 h3 h4 hd
  go_enter Tryz.func262, Tryz.ntmps262
  go_wp2
  go_ret
  exact ⟨rfl, rfl⟩
theorem valtypeS_b (s : ByteArray) (p e : Nat) : valtypeS s p e = bindQ (nextS s p e) (fun x => if 124 ≤ x.1 ∧ x.1 ≤ 127 then .ok (x.1, x.2) else .error (9, p)) := by
  unfold valtypeS nextS bindQ
  by_cases h : p < e
  · rw [if_pos h, if_pos h]
    dsimp only
    by_cases h2 : 124 ≤ bAt s p ∧ bAt s p ≤ 127
    · rw [if_pos h2, if_neg (by omega)]
    · rw [if_neg h2, if_pos (by omega)]
  · rw [if_neg h, if_neg h]
set_option maxHeartbeats 1000000 in
theorem valtype_m (h : Rc w b s p e er a) : Calls Tryz.prog 242 #[.pointer (some ⟨b, 0, none⟩)] w (Cm encB (· < 256) (valtypeS s p e) b s e er a w) := by
  obtain ⟨c0, c1, c2, c3, c4, ⟨⟨f1, f2⟩, f3, f4⟩, le, es, sz, al⟩ := id h
  have HU := byte_m h
  rw [valtypeS_b]
  clear h
  go_enter Tryz.func242, Tryz.ntmps242
  go_wp2_with fail
  refine HU.mono ?_
  rintro en w2 ⟨v, q, er', a', rfl, hR, hK, hB, hC⟩
  unfold encN8
  have HF := fail_m hR 9 p (by omega)
  have HI := isVal_m v hB w2
  have HR : Hid _ := hR
  clear hR c0 c1 c2 c3 c4 f1 f2 f3 f4
  by_cases hv : 124 ≤ v ∧ v ≤ 127
  · have HC : Hid (Cu (bindQ (nextS s p e) (fun x => if 124 ≤ x.1 ∧ x.1 ≤ 127 then (.ok (x.1, x.2) : R Nat) else .error (9, p))) er a v q er' a') := hC.out.trans (by rw [if_pos hv]; exact Cu.pure v q)
    clear hC
    rw [decide_eq_true hv] at HI
    clear hv
    go_wp2_with fail
    refine HI.mono ?_
    rintro en w3 ⟨rfl, rfl⟩
    go_wp2
    go_ret
    exact ⟨v, q, er', a', rfl, HR.out, hK, hB, HC.out⟩
  · have HC : Hid (∀ er2 a2, Flq er' a' 9 p er2 a2 → Cu (bindQ (nextS s p e) (fun x => if 124 ≤ x.1 ∧ x.1 ≤ 127 then (.ok (x.1, x.2) : R Nat) else .error (9, p))) er a 0 q er2 a2) := fun er2 a2 hf => hC.out.trans (by rw [if_neg hv]; exact Cu.fail 0 q hf (by decide))
    clear hC
    rw [decide_eq_false hv] at HI
    clear hv
    go_wp2_with fail
    refine HI.mono ?_
    rintro en w3 ⟨rfl, rfl⟩
    go_wp2_with fail
    refine HF.mono ?_
    rintro en w3 ⟨er2, a2, rfl, hR2, hK2, hF⟩
    go_wp2
    go_ret
    exact ⟨0, q, er2, a2, rfl, hR2, hK.trans hK2, by decide, HC.out _ _ hF.out⟩
end
end Go.Proofs.Qxb6500275aGreatDoor
