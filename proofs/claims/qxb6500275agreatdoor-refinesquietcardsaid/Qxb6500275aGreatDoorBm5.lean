import Derived.Test.Qxb6500275aGreatDoorBm4
import Derived.Test.Qxb6500275aGreatDoorWr14
set_option maxRecDepth 100000
set_option linter.unusedVariables false
set_option linter.unusedSimpArgs false
namespace Go.Proofs.Qxb6500275aGreatDoor
open Go Go.RowKit
section
variable {w w' : World} {b : Nat} {s : ByteArray} {p e : Nat} {er : Int} {a : Nat}
theorem limitsS_b (s : ByteArray) (p e : Nat) : limitsS s p e = bindQ (nextS s p e) (fun x => if 1 < x.1 then .error (8, p) else bindQ (u32S s x.2 e) (fun y => if x.1 = 0 then .ok ((y.1, -1), y.2) else bindQ (u32S s y.2 e) (fun z => .ok ((y.1, z.1), z.2)))) := by
  unfold limitsS flagS nextS
  by_cases h : p < e
  · rw [if_pos h, if_pos h]
    unfold bindQ
    dsimp only
    by_cases h1 : 1 < bAt s p
    · rw [if_pos h1, if_pos h1]
    · rw [if_neg h1, if_neg h1]
      dsimp only
      cases u32S s (p + 1) e with
      | error f => rfl
      | ok y =>
        dsimp only
        by_cases h0 : bAt s p = 0
        · rw [if_pos h0, if_pos h0]
        · rw [if_neg h0, if_neg h0]
          cases u32S s y.2 e <;> rfl
  · rw [if_neg h, if_neg h]
    rfl
def encL8 (x : Int × Int) : Value := .tuple #[.int .i64 x.1, .int .i64 x.2]
set_option maxHeartbeats 1000000 in
theorem limits_m (h : Rc w b s p e er a) : Calls Tryz.prog 247 #[.pointer (some ⟨b, 0, none⟩)] w (Cm encL8 (fun v => (0 ≤ v.1 ∧ v.1 < 4294967296) ∧ (-1 ≤ v.2 ∧ v.2 < 4294967296)) (limitsS s p e) b s e er a w) := by
  obtain ⟨c0, c1, c2, c3, c4, ⟨⟨f1, f2⟩, f3, f4⟩, le, es, sz, al⟩ := id h
  have HU := byte_m h
  rw [limitsS_b]
  clear h
  go_enter Tryz.func247, Tryz.ntmps247
  go_wp2_with fail
  refine HU.mono ?_
  rintro en w2 ⟨v, q, er', a', rfl, hR, hK, hB, hC⟩
  unfold encN8
  have HF := fail_m hR 8 p (by omega)
  have HL := u32_m hR
  clear hR c0 c1 c2 c3 c4 f1 f2 f3 f4
  by_cases hv : 1 < v
  · have HC : Hid _ := fun er2 a2 (hf : Flq er' a' 8 p er2 a2) => hC.out.trans (k := (fun x => if 1 < x.1 then .error (8, p) else bindQ (u32S s x.2 e) (fun y => if x.1 = 0 then .ok ((y.1, -1), y.2) else bindQ (u32S s y.2 e) (fun z => .ok ((y.1, z.1), z.2))))) (by rw [if_pos hv]; exact Cu.fail ((0 : Int), (-1 : Int)) q hf (by decide))
    clear hC
    go_wp2_with fail
    refine HF.mono ?_
    rintro en w3 ⟨er2, a2, rfl, hR2, hK2, hF⟩
    go_wp2
    go_ret2
    exact ⟨(0, -1), q, er2, a2, rfl, hR2, hK.trans hK2, by decide, HC.out _ _ hF.out⟩
  · go_wp2_with fail
    refine HL.mono ?_
    rintro en w3 ⟨y, q2, er2, a2, rfl, hR2, hK2, hB2, hC2⟩
    unfold encI8
    have HL2 := u32_m hR2
    have HR2 : Hid _ := hR2
    clear hR2
    by_cases h0 : v = 0
    · subst h0
      have HC : Hid _ := hC.out.trans (k := (fun x => if 1 < x.1 then .error (8, p) else bindQ (u32S s x.2 e) (fun y => if x.1 = 0 then .ok ((y.1, -1), y.2) else bindQ (u32S s y.2 e) (fun z => .ok ((y.1, z.1), z.2))))) (by rw [if_neg hv]; exact hC2.out.trans (by rw [if_pos rfl]; exact Cu.pure (y, (-1 : Int)) q2))
      clear hC hC2
      go_wp2
      go_ret2
      exact ⟨(y, -1), q2, er2, a2, rfl, HR2.out, hK.trans hK2, ⟨hB2, (by decide : (-1 : Int) ≤ -1), (by decide : (-1 : Int) < 4294967296)⟩, HC.out⟩
    · have h1 : v = 1 := by omega
      subst h1
      go_wp2_with fail
      refine HL2.mono ?_
      rintro en w4 ⟨z, q3, er3, a3, rfl, hR3, hK3, hB3, hC3⟩
      unfold encI8
      have HC : Hid _ := hC.out.trans (k := (fun x => if 1 < x.1 then .error (8, p) else bindQ (u32S s x.2 e) (fun y => if x.1 = 0 then .ok ((y.1, -1), y.2) else bindQ (u32S s y.2 e) (fun z => .ok ((y.1, z.1), z.2))))) (by rw [if_neg hv]; exact hC2.out.trans (by rw [if_neg h0]; exact hC3.out.trans (Cu.pure (y, z) q3)))
      clear hC hC2 hC3
      go_wp2
      go_ret2
      exact ⟨(y, z), q3, er3, a3, rfl, hR3, (hK.trans hK2).trans hK3, ⟨hB2, by omega⟩, HC.out⟩
/- n value types, one by one -/
def valsL (s : ByteArray) (e : Nat) : Nat → ByteArray → Nat → R ByteArray
  | 0, t, q => .ok (t, q)
  | n + 1, t, q => bindQ (valtypeS s q e) fun x => valsL s e n (t ++ ⟨#[UInt8.ofNat x.1]⟩) x.2
theorem valsL_eq (s : ByteArray) (e : Nat) (he : e ≤ s.size) : ∀ (n : Nat) (t : ByteArray) (q : Nat), valsL s e n t q = (match valtypesL s e n q with
    | .error f => .error f
    | .ok r => .ok (t ++ s.extract q r, r))
  | 0, t, q => by
    unfold valsL valtypesL
    dsimp only
    congr 2
    apply ByteArray.ext
    rw [ByteArray.data_append, ByteArray.data_extract]
    simp
    omega
  | n + 1, t, q => by
    unfold valsL valtypesL bindQ
    cases h : valtypeS s q e with
    | error f => rfl
    | ok x =>
      dsimp only
      rw [valsL_eq s e he n]
      obtain ⟨v, q2⟩ := x
      obtain ⟨h1, h2, h3⟩ := valtypeS_ok h
      dsimp only
      cases h4 : valtypesL s e n q2 with
      | error f => rfl
      | ok r =>
        dsimp only
        congr 2
        have hr := valtypesL_ok _ _ _ h4
        subst h1 h3
        apply ByteArray.ext
        rw [ByteArray.data_append, ByteArray.data_append, ByteArray.data_append, ByteArray.data_extract, ByteArray.data_extract]
        have hb : s.data.extract q r = #[UInt8.ofNat (bAt s q)] ++ s.data.extract (q + 1) r := by
          have hs : q < s.data.size := Nat.lt_of_lt_of_le (show q < e by omega) he
          have h5 := (Array.extract_append_extract : s.data.extract q (q + 1) ++ s.data.extract (q + 1) r = _)
          rw [Nat.min_eq_left (by omega), Nat.max_eq_right (by omega)] at h5
          have h6 : s.data.extract q (q + 1) = #[UInt8.ofNat (bAt s q)] := by
            apply Array.ext
            · simp; omega
            · intro i h7 h8
              have hi : i = 0 := by simp at h8; exact h8
              subst hi
              simp
              rw [← bAt_get s q hs]
              simp
              rfl
          rw [← h5, h6]
        rw [hb, Array.append_assoc]
theorem valtypesS_b (s : ByteArray) (p e : Nat) (he : e ≤ s.size) (mx : Int) : valtypesS s p e mx = bindQ (countS s p e mx) (fun x => valsL s e x.1.toNat ByteArray.empty x.2) := by
  unfold valtypesS bindQ
  cases countS s p e mx with
  | error f => rfl
  | ok x =>
    obtain ⟨n, q⟩ := x
    dsimp only
    rw [valsL_eq s e he]
    cases valtypesL s e n.toNat q with
    | error f => rfl
    | ok r =>
      dsimp only
      rw [ByteArray.empty_append]
theorem add_sz {a b c : ByteArray} (h : a ++ b = c) : a.size + b.size = c.size := by rw [← h, ByteArray.size_append]
theorem Cu.stay {α : Type} {o : R α} (v : α) (q : Nat) (h : er ≠ 0) : Cu o er a v q er a := ⟨fun h0 => absurd h0 h, fun _ => ⟨rfl, rfl⟩⟩
theorem one_str (w : World) (c : Nat) (hc : c < 256) (t : TypeId) : (convert 104 9 (.slice (some ⟨w.heap.size, 0, none⟩) 1 1)).run Tryz.prog (w.alloc (.cells #[.int .u8 (c : Int)] t)) = .ok (.string ⟨#[UInt8.ofNat c]⟩) (w.alloc (.cells #[.int .u8 (c : Int)] t)) := by
  refine run_convert_bytes_back (P := Tryz.prog) (w.alloc (.cells #[.int .u8 (c : Int)] t)) 104 9 5 ⟨w.heap.size, 0, none⟩ 1 [UInt8.ofNat c] (by kernel_rfl) (by kernel_rfl) (by kernel_rfl) ?_
  intro j hj
  have : j = 0 := by simpa using hj
  subst this
  rw [add_none, World.cell?_alloc_at _ _ _ _ rfl]
  simp
  omega
set_option maxHeartbeats 2000000 in
theorem valtypes_m (h : Rc w b s p e er a) (mx : Int) (hm : 0 ≤ mx ∧ mx ≤ 10) : Calls Tryz.prog 245 #[.pointer (some ⟨b, 0, none⟩), .int .i64 mx] w (Cm encS (fun v => v.size ≤ 10) (valtypesS s p e mx) b s e er a w) := by
  have HU := count_m h mx (by omega)
  have hes := h.es
  obtain ⟨X, hX⟩ : ∃ X, valtypesS s p e mx = X := ⟨_, rfl⟩
  rw [hX]
  have HX : Hid _ := hX
  clear h hX
  go_enter Tryz.func245, Tryz.ntmps245
  go_wp2_with fail
  refine HU.mono ?_
  rintro en w2 ⟨n, q, er', a', rfl, hR, hK, hB, hC⟩
  obtain ⟨m, hn⟩ : ∃ m : Nat, n = m := ⟨n.toNat, by omega⟩
  subst hn
  have hm10 : m ≤ 10 := by omega
  unfold encI8
  have HZ : Hid (∀ v2 q2 er2 a2, Cu (valsL s e m ByteArray.empty q) er' a' v2 q2 er2 a2 → Cu X er a v2 q2 er2 a2) := fun v2 q2 er2 a2 hz => by
    rw [← HX.out, valtypesS_b s p e hes]
    exact hC.out.trans hz
  have HR : Hid _ := hR
  have HK : Hid _ := hK
  clear hR hK HX hC hB hm
  go_wp2
  go_loopw [6, 7] (fun tt ii w1 => ∃ (i : Nat) (t : ByteArray) (q1 a1 : Nat) (er1 : Int), i ≤ m ∧ t.size = i ∧ tt = .string t ∧ ii = .int .i64 (i : Int) ∧ Rc w1 b s q1 e er1 a1 ∧ Kp (· = b) w w1 ∧ Hid (∀ v2 q2 er2 a2, Cu (valsL s e (m - i) t q1) er1 a1 v2 q2 er2 a2 → Cu X er a v2 q2 er2 a2)) (fun _ ii _ => m - (intOf ii).toNat)
  case atStart => exact ⟨0, ByteArray.empty, q, a', er', by omega, rfl, rfl, rfl, HR.out, HK.out, HZ.out⟩
  case round =>
    obtain ⟨i, t, q1, a1, er1, hi, hts, rfl, rfl, hR1, hK1, hZ1⟩ := hrel
    have c3 := hR1.c3
    have HV := valtype_m hR1
    have HR1 : Hid _ := hR1
    have HK1 : Hid _ := hK1
    have HTS : Hid _ := hts
    clear hR1 hK1 HR HK HZ hts
    by_cases hlt : i < m
    · have hlti : (i : Int) < (m : Int) := by omega
      by_cases he1 : er1 = 0
      · subst he1
        go_wp2_with fail
        refine HV.mono ?_
        rintro en w3 ⟨v, q2, er2, a2, rfl, hR2, hK2, hB2, hC2⟩
        unfold encB
        have HO := one_str w3 v hB2
        have HR2 : Hid _ := hR2.keep ((Kp.refl (fun _ => False) w3).alloc (.cells #[.int .u8 (v : Int)] 5)) (fun h => h)
        have HK2 : Hid _ := ((HK1.out.trans hK2).trans (((Kp.refl (· = b) w3).alloc (.cells #[.int .u8 (v : Int)] 5))))
        clear hR2 hK2 c3
        have hsz : ¬ (9223372036854775807 < t.size + 1) := by have := HTS.out; omega
        go_wp2_with (simp only [HO])
        have hts := HTS.out
        refine ⟨⟨i + 1, t ++ ⟨#[UInt8.ofNat v]⟩, q2, a2, er2, by omega, by rw [ByteArray.size_append, hts]; rfl, rfl, by go_num, HR2.out, HK2.out, fun v2 q3 er3 a3 hz => hZ1.out _ _ _ _ ?_⟩, by simp [intOf]; omega⟩
        rw [show m - i = m - (i + 1) + 1 by omega, valsL]
        exact hC2.out.trans hz
      · have heb : (er1 == 0) = false := by rw [beq_eq_false_iff_ne]; exact he1
        go_wp2
        go_ret
        exact ⟨t, q1, er1, a1, rfl, HR1.out, HK1.out, by show t.size ≤ 10; have := HTS.out; omega, hZ1.out _ _ _ _ (Cu.stay _ _ he1)⟩
    · have hlti : ¬ (i : Int) < (m : Int) := by omega
      go_wp2
      go_ret
      refine ⟨t, q1, er1, a1, rfl, HR1.out, HK1.out, by show t.size ≤ 10; have := HTS.out; omega, hZ1.out _ _ _ _ ?_⟩
      rw [show m - i = 0 by omega]
      exact Cu.pure _ _
end
end Go.Proofs.Qxb6500275aGreatDoor
