import Derived.Test.Qxb6500275aGreatDoorProg
import Derived.Test.Qxb6500275aGreatDoorSp1
import Derived.WalkKit
import Derived.WalkLawsBesides
import Derived.Laws.DeepStrings4
set_option maxRecDepth 100000
set_option linter.unusedVariables false
set_option linter.unusedSimpArgs false
namespace Go.Proofs.Qxb6500275aGreatDoor
open Go Go.RowKit
/- a reader in memory -/
structure Rd (w : World) (b : Nat) (s : ByteArray) (p e bb : Nat) : Prop where
  c0 : w.cell? ⟨b, 0, none⟩ = some (.string s)
  c1 : w.cell? ⟨b, 1, none⟩ = some (.int .i64 p)
  c2 : w.cell? ⟨b, 2, none⟩ = some (.int .i64 e)
  c3 : w.cell? ⟨b, 3, none⟩ = some (.pointer (some ⟨bb, 0, none⟩))
  f1 : w.frozen? ⟨b, 1, none⟩ = false
  f2 : w.frozen? ⟨b, 2, none⟩ = false
  le : p ≤ e
  es : e ≤ s.size
  sz : s.size ≤ 1024
section
variable {w : World} {b : Nat} {s : ByteArray} {p e bb : Nat}
theorem Rd.drew (h : Rd w b s p e bb) : Rd w.drew b s p e bb := ⟨h.c0, h.c1, h.c2, h.c3, h.f1, h.f2, h.le, h.es, h.sz⟩
theorem Rd.setP (h : Rd w b s p e bb) (q : Nat) (hq : q ≤ e) : Rd (w.setCell ⟨b, 1, none⟩ (.int .i64 q)) b s q e bb := by
  refine ⟨?_, ?_, ?_, ?_, ?_, ?_, hq, h.es, h.sz⟩
  · simp [h.c0, go_sem]
  · simp [h.c1, go_sem]
  · simp [h.c2, go_sem]
  · simp [h.c3, go_sem]
  · simp [h.f1, go_sem]
  · simp [h.f2, go_sem]
theorem Rd.setE (h : Rd w b s p e bb) (q : Nat) (hq : p ≤ q) (hs : q ≤ s.size) : Rd (w.setCell ⟨b, 2, none⟩ (.int .i64 q)) b s p q bb := by
  refine ⟨?_, ?_, ?_, ?_, ?_, ?_, hq, hs, h.sz⟩
  · simp [h.c0, go_sem]
  · simp [h.c1, go_sem]
  · simp [h.c2, go_sem]
  · simp [h.c3, go_sem]
  · simp [h.f1, go_sem]
  · simp [h.f2, go_sem]
abbrev fault (c : Int) (a : Nat) : Ending := .panicked [{ v := .iface 96 (.agg #[.int .i64 c, .int .i64 a]), recovered := false }]
/- what a reader's method comes to -/
def RP {α : Type} (enc : α → Value) (o : R α) (b : Nat) (s : ByteArray) (e bb : Nat) (w : World) (en : Ending) (w' : World) : Prop :=
  Kp (· = b) w w' ∧ match o with
    | .ok (v, q) => en = .returned (enc v) ∧ Rd w' b s q e bb
    | .error (c, a) => en = fault c a
theorem RP.ok {α : Type} {enc : α → Value} {o : R α} {en : Ending} {w' : World} {v : α} {q : Nat} (h : RP enc o b s e bb w en w') (ho : o = .ok (v, q)) : Kp (· = b) w w' ∧ en = .returned (enc v) ∧ Rd w' b s q e bb := by
  subst ho; exact h
theorem RP.err {α : Type} {enc : α → Value} {o : R α} {en : Ending} {w' : World} {c : Int} {a : Nat} (h : RP enc o b s e bb w en w') (ho : o = .error (c, a)) : Kp (· = b) w w' ∧ en = fault c a := by
  subst ho; exact h
theorem RP.mkOk {α : Type} {enc : α → Value} {o : R α} {en : Ending} {w' : World} {v : α} {q : Nat} (ho : o = .ok (v, q)) (h1 : Kp (· = b) w w') (h2 : en = .returned (enc v)) (h3 : Rd w' b s q e bb) : RP enc o b s e bb w en w' := by
  subst ho; exact ⟨h1, h2, h3⟩
theorem RP.mkErr {α : Type} {enc : α → Value} {o : R α} {en : Ending} {w' : World} {c : Int} {a : Nat} (ho : o = .error (c, a)) (h1 : Kp (· = b) w w') (h2 : en = fault c a) : RP enc o b s e bb w en w' := by
  subst ho; exact ⟨h1, h2⟩
def encB (n : Nat) : Value := .int .u8 n
def encU (n : Int) : Value := .int .u32 n
def encI (n : Int) : Value := .int .i64 n
def encS (t : ByteArray) : Value := .string t
def encN (_ : Unit) : Value := .tuple #[]

set_option maxHeartbeats 1000000 in
theorem next_ok (h : Rd w b s p e bb) (hp : p < e) :
    Calls Tryz.prog 63 #[.pointer (some ⟨b, 0, none⟩)] w fun en w' => en = .returned (.int .u8 (bAt s p)) ∧ Rd w' b s (p + 1) e bb ∧ Kp (· = b) w w' := by
  obtain ⟨c0, c1, c2, c3, f1, f2, le, es, sz⟩ := id h
  have hlt : p < s.size := by omega
  have hr := (h.setP (p + 1) (by omega)).drew.drew
  have hk := (((Kp.refl (· = b) w).setCell (p := ⟨b, 1, none⟩) (.inl rfl) (.int .i64 ((p + 1 : Nat) : Int))).drew.drew)
  have HR : Hid _ := hr
  have HK : Hid _ := hk
  clear hr hk h
  go_enter Tryz.func63, Tryz.ntmps63
  go_wp2
  go_region
  go_wp2
  go_region
  go_wp2
  go_ret
  exact ⟨by rw [bAt_get s p hlt]; rfl, HR.out, HK.out⟩
set_option maxHeartbeats 1000000 in
theorem next_err (h : Rd w b s p e bb) (hp : ¬ p < e) :
    Calls Tryz.prog 63 #[.pointer (some ⟨b, 0, none⟩)] w fun en w' => en = fault 3 e ∧ Kp (· = b) w w' := by
  obtain ⟨c0, c1, c2, c3, f1, f2, le, es, sz⟩ := id h
  have HK : Hid _ := (Kp.refl (· = b) w).drew
  clear h
  go_enter Tryz.func63, Tryz.ntmps63
  go_wp2
  go_region
  go_wp2
  exact ⟨rfl, rfl, HK.out⟩

set_option maxHeartbeats 2000000 in
theorem u32_calls (h : Rd w b s p e bb) : Calls Tryz.prog 113 #[.pointer (some ⟨b, 0, none⟩)] w (RP encU (u32S s p e) b s e bb w) := by
  obtain ⟨c0, c1, c2, c3, f1, f2, le, es, sz⟩ := id h
  have HR : Hid _ := h
  clear h
  go_enter Tryz.func113, Tryz.ntmps113
  go_wp2
  go_loopw [4, 5] (fun v sh w1 => ∃ (n q : Nat) (vv : Int), n ≤ 4 ∧ v = .int .u32 vv ∧ (0 ≤ vv ∧ vv < 4294967296) ∧ sh = .int .u64 (7 * (4 - n) : Nat) ∧ Rd w1 b s q e bb ∧ Kp (· = b) w w1 ∧ Hid (u32S s p e = u32L s e p (n + 1) vv q)) (fun _ sh _ => 35 - (intOf sh).toNat)
  case atStart => exact ⟨4, p, 0, by omega, rfl, by omega, rfl, HR.out, Kp.refl _ _, rfl⟩
  case round =>
    obtain ⟨n, q, vv, hn, rfl, hv, rfl, hR, hK, HU⟩ := hrel
    obtain ⟨k, hk⟩ : ∃ k, 4 - n = k := ⟨_, rfl⟩
    rw [hk]
    have hn' : n = 4 - k := by omega
    have hk4 : k ≤ 4 := by omega
    subst hn'
    have HK : Hid _ := hK
    have HRq : Hid _ := hR
    have hb := bAt_lt s q
    clear hK c0 c1 c2 c3 f1 f2 hk hR hn
    by_cases hq : q < e
    · go_wp2_with (go_at_call 63; refine (next_ok HRq.out hq).mono ?_; rintro en w2 ⟨rfl, hR2, hK2⟩)
      · have hk : k = 4 := by omega
        subst hk
        refine ⟨rfl, RP.mkErr (c := 4) (a := p) ?_ (HK.out.trans hK2) rfl⟩
        rw [HU.out, u32L, if_pos hq, if_pos ⟨rfl, by omega⟩]
      · have hk : k = 4 := by omega
        subst hk
        go_ret
        refine RP.mkOk (v := orAt vv 4 (bAt s q)) (q := q + 1) ?_ (HK.out.trans hK2) ?_ hR2
        · rw [HU.out, u32L, if_pos hq, if_neg (by omega), if_pos (by omega)]
        · exact congrArg (fun x => Ending.returned (.int .u32 (bits .or .u32 vv x))) (by omega)
      · exfalso
        have : 128 ≤ (bAt s q : Int) := by simpa using ‹(!decide _) = false›
        omega
      · have hlt : ¬ 128 ≤ (bAt s q : Int) := by have hx := ‹(!decide (128 ≤ (bAt s q : Int))) = true›; simp at hx; omega
        go_ret
        refine RP.mkOk (v := orAt vv k (bAt s q)) (q := q + 1) ?_ (HK.out.trans hK2) rfl hR2
        rw [HU.out, u32L, if_pos hq, if_neg (by omega), if_pos (by omega), show 4 - (4 - k) = k by omega]
      · have hge : 128 ≤ (bAt s q : Int) := by simpa using ‹(!decide _) = false›
        refine ⟨⟨3 - k, q + 1, orAt vv k (bAt s q), by omega, rfl, bits32 _ _ _, ?_, hR2, HK.out.trans hK2, ?_⟩, by simp [intOf]; omega⟩
        · exact congrArg (Value.int .u64) (by omega)
        · show u32S s p e = _
          rw [HU.out, u32L, if_pos hq, if_neg (by omega), if_neg (by omega), show 4 - (4 - k) = k by omega, show 4 - k = 3 - k + 1 by omega]
    · go_wp2_with (go_at_call 63; refine (next_err HRq.out hq).mono ?_; rintro en w2 ⟨rfl, hK2⟩)
      refine ⟨rfl, RP.mkErr (c := 3) (a := e) ?_ (HK.out.trans hK2) rfl⟩
      rw [HU.out, u32L, if_neg hq]

set_option maxHeartbeats 1000000 in
theorem count_calls (h : Rd w b s p e bb) (mx : Int) (hm : -1 ≤ mx ∧ mx ≤ 4096) : Calls Tryz.prog 109 #[.pointer (some ⟨b, 0, none⟩), .int .i64 mx] w (RP encI (countS s p e mx) b s e bb w) := by
  obtain ⟨c0, c1, c2, c3, f1, f2, le, es, sz⟩ := id h
  have HR : Hid _ := h
  clear h
  go_enter Tryz.func109, Tryz.ntmps109
  cases hu : u32S s p e with
  | error f =>
    obtain ⟨c, a⟩ := f
    have HU : Hid _ := hu
    clear hu
    go_wp2_with (go_at_call 113; refine (u32_calls HR.out).mono ?_; rintro en w2 hP; obtain ⟨hK, rfl⟩ := hP.err HU.out)
    refine ⟨rfl, RP.mkErr (c := c) (a := a) ?_ hK rfl⟩
    unfold countS; rw [HU.out]
  | ok x =>
    obtain ⟨n, q⟩ := x
    have hn := (u32S_ok hu).1
    have HU : Hid _ := hu
    clear hu
    go_wp2_with (go_at_call 113; refine (u32_calls HR.out).mono ?_; rintro en w2 hP; obtain ⟨hK, rfl, hR⟩ := hP.ok HU.out; unfold encU)
    · refine ⟨rfl, RP.mkErr (c := 7) (a := p) ?_ hK rfl⟩
      unfold countS; rw [HU.out]; dsimp only; rw [if_pos (by omega)]
    · go_ret
      refine RP.mkOk (v := n) (q := q) ?_ hK rfl hR
      unfold countS; rw [HU.out]; dsimp only; rw [if_neg (by omega)]

set_option maxHeartbeats 1000000 in
theorem take_calls (h : Rd w b s p e bb) (n : Nat) (hn : n ≤ 4096) : Calls Tryz.prog 120 #[.pointer (some ⟨b, 0, none⟩), .int .i64 n] w (RP encS (takeS s p e n) b s e bb w) := by
  obtain ⟨c0, c1, c2, c3, f1, f2, le, es, sz⟩ := id h
  have HR : Hid _ := h
  clear h
  by_cases hlt : e - p < n
  · have HK : Hid _ := (Kp.refl (· = b) w).drew
    go_enter Tryz.func120, Tryz.ntmps120
    go_wp2
    go_region
    go_wp2
    refine ⟨rfl, RP.mkErr (c := 3) (a := e) ?_ HK.out rfl⟩
    unfold takeS; rw [if_pos hlt]
  · have HK : Hid _ := (((Kp.refl (· = b) w).setCell (p := ⟨b, 1, none⟩) (.inl rfl) (.int .i64 ((p + n : Nat) : Int))).drew.drew)
    have HR2 : Hid _ := (HR.out.setP (p + n) (by omega)).drew.drew
    have hs1 : p + n ≤ s.size := by omega
    go_enter Tryz.func120, Tryz.ntmps120
    go_wp2
    go_region
    go_wp2
    go_region
    go_wp2
    go_ret
    refine RP.mkOk (v := s.extract p (p + n)) (q := p + n) ?_ HK.out rfl HR2.out
    unfold takeS; rw [if_neg hlt]

set_option maxHeartbeats 1000000 in
theorem fixed_calls (h : Rd w b s p e bb) (want : Nat) (hw : want < 256) : Calls Tryz.prog 110 #[.pointer (some ⟨b, 0, none⟩), .int .u8 want] w (RP encN (fixedS s p e want) b s e bb w) := by
  obtain ⟨c0, c1, c2, c3, f1, f2, le, es, sz⟩ := id h
  have HR : Hid _ := h
  have hb := bAt_lt s p
  clear h
  go_enter Tryz.func110, Tryz.ntmps110
  by_cases hp : p < e
  · by_cases hq : bAt s p = want
    · have hq' : ((bAt s p : Int) != (want : Int)) = false := by simp [hq]
      have HQ : Hid _ := hq
      clear hq
      go_wp2_with (go_at_call 63; refine (next_ok HR.out hp).mono ?_; rintro en w2 ⟨rfl, hR2, hK2⟩)
      go_end0
      refine RP.mkOk (v := ()) (q := p + 1) ?_ hK2 rfl hR2
      unfold fixedS; rw [if_pos hp, if_pos HQ.out]
    · have hq' : ((bAt s p : Int) != (want : Int)) = true := by rw [bne_iff_ne]; omega
      go_wp2_with (go_at_call 63; refine (next_ok HR.out hp).mono ?_; rintro en w2 ⟨rfl, hR2, hK2⟩)
      refine ⟨rfl, RP.mkErr (c := 8) (a := p) ?_ hK2 rfl⟩
      unfold fixedS; rw [if_pos hp, if_neg hq]
  · go_wp2_with (go_at_call 63; refine (next_err HR.out hp).mono ?_; rintro en w2 ⟨rfl, hK2⟩)
    refine ⟨rfl, RP.mkErr (c := 3) (a := e) ?_ hK2 rfl⟩
    unfold fixedS; rw [if_neg hp]

set_option maxHeartbeats 1000000 in
theorem flag_calls (h : Rd w b s p e bb) (mx : Nat) (hw : mx < 256) : Calls Tryz.prog 116 #[.pointer (some ⟨b, 0, none⟩), .int .u8 mx] w (RP encB (flagS s p e mx) b s e bb w) := by
  obtain ⟨c0, c1, c2, c3, f1, f2, le, es, sz⟩ := id h
  have HR : Hid _ := h
  have hb := bAt_lt s p
  clear h
  go_enter Tryz.func116, Tryz.ntmps116
  by_cases hp : p < e
  · by_cases hq : mx < bAt s p
    · go_wp2_with (go_at_call 63; refine (next_ok HR.out hp).mono ?_; rintro en w2 ⟨rfl, hR2, hK2⟩)
      refine ⟨rfl, RP.mkErr (c := 8) (a := p) ?_ hK2 rfl⟩
      unfold flagS; rw [if_pos hp, if_pos hq]
    · go_wp2_with (go_at_call 63; refine (next_ok HR.out hp).mono ?_; rintro en w2 ⟨rfl, hR2, hK2⟩)
      go_ret
      refine RP.mkOk (v := bAt s p) (q := p + 1) ?_ hK2 rfl hR2
      unfold flagS; rw [if_pos hp, if_neg hq]
  · go_wp2_with (go_at_call 63; refine (next_err HR.out hp).mono ?_; rintro en w2 ⟨rfl, hK2⟩)
    refine ⟨rfl, RP.mkErr (c := 3) (a := e) ?_ hK2 rfl⟩
    unfold flagS; rw [if_neg hp]

set_option maxHeartbeats 1000000 in
theorem valtype_calls (h : Rd w b s p e bb) : Calls Tryz.prog 115 #[.pointer (some ⟨b, 0, none⟩)] w (RP encB (valtypeS s p e) b s e bb w) := by
  obtain ⟨c0, c1, c2, c3, f1, f2, le, es, sz⟩ := id h
  have HR : Hid _ := h
  have hb := bAt_lt s p
  clear h
  go_enter Tryz.func115, Tryz.ntmps115
  by_cases hp : p < e
  · go_wp2_with (go_at_call 63; refine (next_ok HR.out hp).mono ?_; rintro en w2 ⟨rfl, hR2, hK2⟩)
    all_goals first
      | (go_ret
         refine RP.mkOk (v := bAt s p) (q := p + 1) ?_ hK2 rfl hR2
         unfold valtypeS; rw [if_pos hp, if_neg (by omega)])
      | (refine ⟨rfl, RP.mkErr (c := 9) (a := p) ?_ hK2 rfl⟩
         unfold valtypeS; rw [if_pos hp, if_pos (by omega)])
  · go_wp2_with (go_at_call 63; refine (next_err HR.out hp).mono ?_; rintro en w2 ⟨rfl, hK2⟩)
    refine ⟨rfl, RP.mkErr (c := 3) (a := e) ?_ hK2 rfl⟩
    unfold valtypeS; rw [if_neg hp]

set_option maxHeartbeats 1000000 in
theorem name_calls (h : Rd w b s p e bb) : Calls Tryz.prog 112 #[.pointer (some ⟨b, 0, none⟩)] w (RP encS (nameS s p e) b s e bb w) := by
  have HR : Hid _ := h
  clear h
  go_enter Tryz.func112, Tryz.ntmps112
  cases hu : countS s p e 8 with
  | error f =>
    obtain ⟨c, a⟩ := f
    have HU : Hid _ := hu
    clear hu
    go_wp2_with (go_at_call 109; refine (count_calls HR.out 8 (by omega)).mono ?_; rintro en w2 hP; obtain ⟨hK, rfl⟩ := hP.err HU.out)
    refine ⟨rfl, RP.mkErr (c := c) (a := a) ?_ hK rfl⟩
    unfold nameS; rw [HU.out]
  | ok x =>
    obtain ⟨n, q⟩ := x
    have hn := (countS_ok hu).1
    obtain ⟨n, rfl⟩ := Int.eq_ofNat_of_zero_le hn.1
    have HU : Hid _ := hu
    clear hu
    cases ht : takeS s q e n with
    | error f =>
      obtain ⟨c, a⟩ := f
      have HT : Hid _ := ht
      clear ht
      go_wp2_with (first | (go_at_call 109; refine (count_calls HR.out 8 (by omega)).mono ?_; rintro en w2 hP; obtain ⟨hK, rfl, hR2⟩ := hP.ok HU.out; unfold encI) | (go_at_call 120; refine (take_calls hR2 n (by omega)).mono ?_; rintro en w3 hP3; obtain ⟨hK3, rfl⟩ := hP3.err HT.out))
      refine ⟨rfl, RP.mkErr (c := c) (a := a) ?_ (hK.trans hK3) rfl⟩
      unfold nameS; rw [HU.out]; exact HT.out
    | ok y =>
      obtain ⟨t, r⟩ := y
      have HT : Hid _ := ht
      clear ht
      go_wp2_with (first | (go_at_call 109; refine (count_calls HR.out 8 (by omega)).mono ?_; rintro en w2 hP; obtain ⟨hK, rfl, hR2⟩ := hP.ok HU.out; unfold encI) | (go_at_call 120; refine (take_calls hR2 n (by omega)).mono ?_; rintro en w3 hP3; obtain ⟨hK3, rfl, hR3⟩ := hP3.ok HT.out))
      go_ret
      refine RP.mkOk (v := t) (q := r) ?_ (hK.trans hK3) rfl hR3
      unfold nameS; rw [HU.out]; exact HT.out

set_option maxHeartbeats 2000000 in
theorem valtypes_calls (h : Rd w b s p e bb) (mx : Int) (hm : -1 ≤ mx ∧ mx ≤ 4096) : Calls Tryz.prog 111 #[.pointer (some ⟨b, 0, none⟩), .int .i64 mx] w (RP encS (valtypesS s p e mx) b s e bb w) := by
  have HR : Hid _ := h
  clear h
  go_enter Tryz.func111, Tryz.ntmps111
  cases hu : countS s p e mx with
  | error f =>
    obtain ⟨c, a⟩ := f
    have HU : Hid _ := hu
    clear hu
    go_wp2_with (go_at_call 109; refine (count_calls HR.out mx hm).mono ?_; rintro en w2 hP; obtain ⟨hK, rfl⟩ := hP.err HU.out)
    refine ⟨rfl, RP.mkErr (c := c) (a := a) ?_ hK rfl⟩
    unfold valtypesS; rw [HU.out]
  | ok x =>
    obtain ⟨n, q⟩ := x
    have hn := (countS_ok hu).1
    obtain ⟨n, rfl⟩ := Int.eq_ofNat_of_zero_le hn.1
    have HU : Hid _ := hu
    clear hu
    go_wp2_with (go_at_call 109; refine (count_calls HR.out mx hm).mono ?_; rintro en w2 hP; obtain ⟨hK, rfl, hR2⟩ := hP.ok HU.out; unfold encI; obtain ⟨c0, c1, c2, c3, f1, f2, le, es, sz⟩ := id hR2)
    have HC0 : Hid _ := c0
    clear c1 c2 c3 f1 f2
    go_loopw [7] (fun i w1 => ∃ k : Nat, k ≤ n ∧ i = .int .i64 k ∧ Rd w1 b s (q + k) e bb ∧ Kp (· = b) w w1 ∧ Hid (valtypesL s e n q = valtypesL s e (n - k) (q + k))) (fun i _ => n - (intOf i).toNat)
    case atStart => exact ⟨0, by omega, rfl, hR2, hK, rfl⟩
    case round =>
      obtain ⟨k, hk, rfl, hRk, hKk, HL⟩ := hrel
      have HRk : Hid _ := hRk
      have HKk : Hid _ := hKk
      clear hRk hKk hR2 hK c0
      by_cases hlt : k < n
      · cases hv : valtypeS s (q + k) e with
        | error f =>
          obtain ⟨c, a⟩ := f
          have HV : Hid _ := hv
          clear hv
          go_wp2_with (go_at_call 115; refine (valtype_calls HRk.out).mono ?_; rintro en w3 hP3; obtain ⟨hK3, rfl⟩ := hP3.err HV.out)
          refine ⟨rfl, RP.mkErr (c := c) (a := a) ?_ (HKk.out.trans hK3) rfl⟩
          unfold valtypesS
          rw [HU.out]
          dsimp only
          rw [Int.toNat_natCast, HL.out, show n - k = n - (k + 1) + 1 by omega, valtypesL, HV.out]
        | ok x =>
          obtain ⟨v, r⟩ := x
          obtain ⟨rfl, hre, _⟩ := valtypeS_ok hv
          have HV : Hid _ := hv
          clear hv
          go_wp2_with (go_at_call 115; refine (valtype_calls HRk.out).mono ?_; rintro en w3 hP3; obtain ⟨hK3, rfl, hR3⟩ := hP3.ok HV.out; unfold encB)
          refine ⟨⟨k + 1, by omega, by go_num, hR3, HKk.out.trans hK3, ?_⟩, by simp [intOf]; omega⟩
          show _ = _
          rw [HL.out, show n - k = n - (k + 1) + 1 by omega, valtypesL, HV.out]
          rfl
      · have hkn : k = n := by omega
        subst hkn
        obtain ⟨d0, d1, d2, d3, g1, g2, le2, es2, sz2⟩ := id HRk.out
        have hs1 : q + k ≤ s.size := by omega
        go_wp2
        go_region
        go_wp2
        go_ret
        refine RP.mkOk (v := s.extract q (q + k)) (q := q + k) ?_ (by exact HKk.out.drew) rfl (by exact HRk.out.drew)
        unfold valtypesS
        rw [HU.out]
        dsimp only
        rw [Int.toNat_natCast, HL.out, Nat.sub_self]
        rfl

def encL (x : Int × Int) : Value := .tuple #[.int .i64 x.1, .int .i64 x.2]
theorem flagS_ok {s : ByteArray} {p e mx v q : Nat} (h : flagS s p e mx = .ok (v, q)) : v ≤ mx ∧ q = p + 1 ∧ q ≤ e := by
  unfold flagS at h
  split at h
  · split at h
    · simp at h
    · simp at h
      omega
  · simp at h
set_option maxHeartbeats 2000000 in
theorem limits_calls (h : Rd w b s p e bb) : Calls Tryz.prog 114 #[.pointer (some ⟨b, 0, none⟩)] w (RP encL (limitsS s p e) b s e bb w) := by
  have HR : Hid _ := h
  clear h
  go_enter Tryz.func114, Tryz.ntmps114
  cases hf : flagS s p e 1 with
  | error f =>
    obtain ⟨c, a⟩ := f
    have HF : Hid _ := hf
    clear hf
    go_wp2_with (go_at_call 116; refine (flag_calls HR.out 1 (by omega)).mono ?_; rintro en w2 hP; obtain ⟨hK, rfl⟩ := hP.err HF.out)
    refine ⟨rfl, RP.mkErr (c := c) (a := a) ?_ hK rfl⟩
    unfold limitsS; rw [HF.out]
  | ok x =>
    obtain ⟨f, q⟩ := x
    have hf1 := (flagS_ok hf).1
    have HF : Hid _ := hf
    clear hf
    cases hu : u32S s q e with
    | error g =>
      obtain ⟨c, a⟩ := g
      have HU : Hid _ := hu
      clear hu
      go_wp2_with (first | (go_at_call 116; refine (flag_calls HR.out 1 (by omega)).mono ?_; rintro en w2 hP; obtain ⟨hK, rfl, hR2⟩ := hP.ok HF.out; unfold encB) | (go_at_call 113; refine (u32_calls hR2).mono ?_; rintro en w3 hP3; obtain ⟨hK3, rfl⟩ := hP3.err HU.out))
      refine ⟨rfl, RP.mkErr (c := c) (a := a) ?_ (hK.trans hK3) rfl⟩
      unfold limitsS; rw [HF.out]; dsimp only; rw [HU.out]
    | ok y =>
      obtain ⟨lo, r⟩ := y
      have hlo := (u32S_ok hu).1
      have HU : Hid _ := hu
      clear hu
      by_cases h0 : f = 0
      · subst h0
        go_wp2_with (first | (go_at_call 116; refine (flag_calls HR.out 1 (by omega)).mono ?_; rintro en w2 hP; obtain ⟨hK, rfl, hR2⟩ := hP.ok HF.out; unfold encB) | (go_at_call 113; refine (u32_calls hR2).mono ?_; rintro en w3 hP3; obtain ⟨hK3, rfl, hR3⟩ := hP3.ok HU.out; unfold encU))
        go_ret2
        refine RP.mkOk (v := (lo, -1)) (q := r) ?_ (hK.trans hK3) rfl hR3
        unfold limitsS; rw [HF.out]; dsimp only; rw [HU.out]; rfl
      · have hb0 : ((f : Int) == 0) = false := by rw [beq_eq_false_iff_ne]; omega
        cases hu2 : u32S s r e with
        | error g =>
          obtain ⟨c, a⟩ := g
          have HU2 : Hid _ := hu2
          clear hu2
          go_wp2_with (go_at_call 116; refine (flag_calls HR.out 1 (by omega)).mono ?_; rintro en w2 hP; obtain ⟨hK, rfl, hR2⟩ := hP.ok HF.out; unfold encB)
          refine (u32_calls hR2).mono ?_
          rintro en w3 hP3
          obtain ⟨hK3, rfl, hR3⟩ := hP3.ok HU.out
          unfold encU
          go_wp2_with fail
          refine (u32_calls hR3).mono ?_
          rintro en w4 hP4
          obtain ⟨hK4, rfl⟩ := hP4.err HU2.out
          go_wp2
          refine ⟨rfl, RP.mkErr (c := c) (a := a) ?_ ((hK.trans hK3).trans hK4) rfl⟩
          unfold limitsS; rw [HF.out]; dsimp only; rw [HU.out]; dsimp only; rw [if_neg h0, HU2.out]
        | ok z =>
          obtain ⟨hi, t⟩ := z
          have hhi := (u32S_ok hu2).1
          have HU2 : Hid _ := hu2
          clear hu2
          go_wp2_with (go_at_call 116; refine (flag_calls HR.out 1 (by omega)).mono ?_; rintro en w2 hP; obtain ⟨hK, rfl, hR2⟩ := hP.ok HF.out; unfold encB)
          refine (u32_calls hR2).mono ?_
          rintro en w3 hP3
          obtain ⟨hK3, rfl, hR3⟩ := hP3.ok HU.out
          unfold encU
          go_wp2_with fail
          refine (u32_calls hR3).mono ?_
          rintro en w4 hP4
          obtain ⟨hK4, rfl, hR4⟩ := hP4.ok HU2.out
          unfold encU
          go_wp2
          go_ret2
          refine RP.mkOk (v := (lo, hi)) (q := t) ?_ ((hK.trans hK3).trans hK4) rfl hR4
          unfold limitsS; rw [HF.out]; dsimp only; rw [HU.out]; dsimp only; rw [if_neg h0, HU2.out]

/- the window turns: 'enter' -/
theorem enterS_ok {s : ByteArray} {p e q f : Nat} (h : enterS s p e = .ok (q, f)) : p < q ∧ q ≤ f ∧ f ≤ e := by
  unfold enterS at h
  split at h
  · simp at h
  · rename_i n r hu
    have := u32S_ok hu
    split at h
    · simp at h
    · simp at h
      omega
set_option maxHeartbeats 1000000 in
theorem enter_ok (h : Rd w b s p e bb) {q f : Nat} (ho : enterS s p e = .ok (q, f)) :
    Calls Tryz.prog 64 #[.pointer (some ⟨b, 0, none⟩)] w fun en w' => en = .returned (.int .i64 q) ∧ Rd w' b s q f bb ∧ Kp (· = b) w w' := by
  obtain ⟨c0, c1, c2, c3, f1, f2, le, es, sz⟩ := id h
  have HR : Hid _ := h
  have hbd := enterS_ok ho
  clear h
  unfold enterS at ho
  cases hu : u32S s p e with
  | error g => rw [hu] at ho; simp at ho
  | ok x =>
    obtain ⟨n, r⟩ := x
    rw [hu] at ho
    have hn := (u32S_ok hu).1
    obtain ⟨n, rfl⟩ := Int.eq_ofNat_of_zero_le hn.1
    dsimp only at ho
    split at ho
    · simp at ho
    · rename_i hne
      simp at ho
      obtain ⟨rfl, rfl⟩ := ho
      have HU : Hid _ := hu
      clear hu
      go_enter Tryz.func64, Tryz.ntmps64
      go_wp2_with (go_at_call 113; refine (u32_calls HR.out).mono ?_; rintro en w2 hP; obtain ⟨hK, rfl, hR2⟩ := hP.ok HU.out; unfold encU; clear c0 c1 c2 c3 f1 f2; obtain ⟨c0, c1, c2, c3, f1, f2, le2, es2, sz2⟩ := id hR2)
      have HK2 : Hid _ := (hK.setCell (p := ⟨b, 2, none⟩) (.inl rfl) (.int .i64 ((r + n : Nat) : Int))).drew
      have HR3 : Hid _ := (hR2.setE (r + n) (by omega) (by omega)).drew
      clear hK hR2 hP
      go_region
      go_wp2
      go_ret
      exact ⟨rfl, HR3.out, HK2.out⟩
set_option maxHeartbeats 1000000 in
theorem enter_err (h : Rd w b s p e bb) {c : Int} {a : Nat} (ho : enterS s p e = .error (c, a)) :
    Calls Tryz.prog 64 #[.pointer (some ⟨b, 0, none⟩)] w fun en w' => en = fault c a ∧ Kp (· = b) w w' := by
  obtain ⟨c0, c1, c2, c3, f1, f2, le, es, sz⟩ := id h
  have HR : Hid _ := h
  clear h
  unfold enterS at ho
  cases hu : u32S s p e with
  | error g =>
    obtain ⟨c', a'⟩ := g
    rw [hu] at ho
    simp at ho
    obtain ⟨rfl, rfl⟩ := ho
    have HU : Hid _ := hu
    clear hu
    go_enter Tryz.func64, Tryz.ntmps64
    go_wp2_with (go_at_call 113; refine (u32_calls HR.out).mono ?_; rintro en w2 hP; obtain ⟨hK, rfl⟩ := hP.err HU.out)
    exact ⟨rfl, rfl, hK⟩
  | ok x =>
    obtain ⟨n, r⟩ := x
    rw [hu] at ho
    have hn := (u32S_ok hu).1
    obtain ⟨n, rfl⟩ := Int.eq_ofNat_of_zero_le hn.1
    dsimp only at ho
    split at ho
    · rename_i hgt
      simp at ho
      obtain ⟨rfl, rfl⟩ := ho
      have HU : Hid _ := hu
      clear hu
      go_enter Tryz.func64, Tryz.ntmps64
      go_wp2_with (go_at_call 113; refine (u32_calls HR.out).mono ?_; rintro en w2 hP; obtain ⟨hK, rfl, hR2⟩ := hP.ok HU.out; unfold encU; clear c0 c1 c2 c3 f1 f2; obtain ⟨c0, c1, c2, c3, f1, f2, le2, es2, sz2⟩ := id hR2)
      have HK2 : Hid _ := hK.drew
      clear hK hR2 hP
      go_region
      go_wp2
      exact ⟨rfl, rfl, HK2.out⟩
    · simp at ho
set_option maxHeartbeats 1000000 in
theorem leave_ok (h : Rd w b s p p bb) (fr out : Nat) (hf : fr ≤ 4096) (ho : p ≤ out) (ho2 : out ≤ s.size) :
    Calls Tryz.prog 65 #[.pointer (some ⟨b, 0, none⟩), .int .i64 fr, .int .i64 out] w fun en w' => en = .returned (.tuple #[]) ∧ Rd w' b s p out bb ∧ Kp (· = b) w w' := by
  obtain ⟨c0, c1, c2, c3, f1, f2, le, es, sz⟩ := id h
  have HK2 : Hid _ := ((Kp.refl (· = b) w).setCell (p := ⟨b, 2, none⟩) (.inl rfl) (.int .i64 (out : Int))).drew
  have HR3 : Hid _ := (h.setE out ho ho2).drew
  clear h
  go_enter Tryz.func65, Tryz.ntmps65
  go_wp2
  go_region
  go_wp2
  go_end0
  exact ⟨rfl, HR3.out, HK2.out⟩
set_option maxHeartbeats 1000000 in
theorem leave_err (h : Rd w b s p e bb) (hne : p ≠ e) (fr : Nat) (out : Value) (hf : fr ≤ 4096) :
    Calls Tryz.prog 65 #[.pointer (some ⟨b, 0, none⟩), .int .i64 fr, out] w fun en w' => en = fault 6 fr ∧ Kp (· = b) w w' := by
  obtain ⟨c0, c1, c2, c3, f1, f2, le, es, sz⟩ := id h
  have HK2 : Hid _ := (Kp.refl (· = b) w).drew
  have hb0 : ((p : Int) != (e : Int)) = true := by rw [bne_iff_ne]; omega
  clear h
  go_enter Tryz.func65, Tryz.ntmps65
  go_wp2
  go_region
  go_wp2
  exact ⟨rfl, rfl, HK2.out⟩
end
end Go.Proofs.Qxb6500275aGreatDoor
