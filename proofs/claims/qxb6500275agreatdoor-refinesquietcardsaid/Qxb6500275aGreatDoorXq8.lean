import Derived.Test.Qxb6500275aGreatDoorXq7
import Derived.Test.Qxb6500275aGreatDoorXqp
import Derived.Test.Qxb6500275aGreatDoorBd4
import Derived.Test.Qxb6500275aGreatDoorVq2
set_option maxRecDepth 100000
set_option linter.unusedVariables false
set_option linter.unusedSimpArgs false
namespace Go.Proofs.Qxb6500275aGreatDoor
open Go Go.RowKit
section
variable {w : World} {N : EN} {A : Nat → Prop} {st0 st : Ma} {a : Lan} {s : ByteArray} {rv : Value}
set_option maxHeartbeats 1000000 in
theorem decode_big2 (h : 1024 < s.size) (hs : s.size ≤ 9223372036854775807) : Calls Tryz.prog 132 #[rv, .string s] w (DmP (decodeS s) s w) := by
  have hi : (1024 : Int) < (s.size : Int) := by omega
  have hD : decodeS s = .error (1, 0) := by unfold decodeS; rw [if_pos h]
  go_enter Tryz.func132, Tryz.ntmps132
  go_wp2
  go_ret3
  exact DmP.mkErr hD (Kp.refl _ _) rfl
theorem decode_m2 (w : World) (s : ByteArray) (rv : Value) (hs : s.size ≤ 9223372036854775807) : Calls Tryz.prog 132 #[rv, .string s] w (DmP (decodeS s) s w) := by
  by_cases h1 : 1024 < s.size
  · exact decode_big2 h1 hs
  · exact decode_m w s rv (by omega)
/- LOAD -/
set_option maxHeartbeats 8000000 in
theorem load_w (h : MdM w N A st0) (hH : HmOk st0.H) (hs : s.size ≤ 9223372036854775807) {fz : Int} (hfz : fz < 9223372036854775808) (hL : LoadR numI s fz.toNat st0.H a st) :
    Calls Tryz.prog 77 #[.pointer (some ⟨N.xb, 0, none⟩), .string s, .int .i64 fz] w (LdP w N.xb A a st) := by
  obtain ⟨c, n, S, he⟩ := h.er
  obtain ⟨c0, _, c2, _⟩ := he.c
  have y0 := he.fz 0 (by decide)
  obtain ⟨k1, g1⟩ := he.setM (.pointer none)
  have HC := hclear_m k1.h
  have HK1 : Hid _ := k1
  have HG1 : Hid _ := g1
  have HM : Hid (MdM w N A st0) := h
  have HL : Hid (LoadR numI s fz.toNat st0.H a st) := hL
  have HH : Hid _ := hH
  have HFZ : Hid _ := hfz
  have HSZ : Hid _ := hs
  clear h he k1 g1 hL hH hfz
  go_enter Tryz.func77, Tryz.ntmps77
  go_wp2_with fail
  refine HC.mono ?_
  rintro en w2 ⟨rfl, vk, vp, hh, hg⟩
  obtain ⟨k2, g2⟩ := HK1.out.host hh hg
  obtain ⟨N2, hN2⟩ : ∃ N2, ({ N with vk := vk, vp := vp } : EN) = N2 := ⟨_, rfl⟩
  have hx2 : N2.xb = N.xb := by rw [← hN2]
  rw [hN2] at k2 g2
  have HK2 : Hid _ := k2
  have HG2 : Hid (Gw w w2 N.bas N2.bas) := HG1.out.trans g2
  clear hh hg k2 g2 hN2 HC HK1 HG1 c0 c2 y0
  go_wp2_with fail
  refine (bmNew_m _).mono ?_
  rintro en w3 ⟨bv, rfl, q3⟩
  go_wp2_with fail
  refine (decode_m2 _ s bv HSZ.out).mono ?_
  rintro en w4 ⟨q4, hd⟩
  have HQ4 : Hid (Kp (fun _ => False) w2 w4) := q3.trans q4
  have HL3 : Hid (w2.heap.size ≤ w3.heap.size) := q3.size
  clear q3 q4
  have hl := HL.out
  unfold LoadR load0 at hl
  cases hdec : decodeS s with
  | error x =>
    obtain ⟨ec, p⟩ := x
    rw [hdec] at hd hl
    dsimp only at hd hl
    subst hd
    obtain ⟨rfl, rfl⟩ := hl
    have he := er_decode (s := s)
    rw [hdec] at he
    have he2 := he ec p rfl
    have hen : (ec == 0) = false := by rw [beq_eq_false_iff_ne]; omega
    have hen2 : (ec != 0) = true := by simp [bne, hen]
    clear he he2 hdec
    go_wp2_with fail
    refine bodyPost_ret (v := encLn ⟨(p : Int), 0, ec⟩) (by simp [results, Tryz.results77, go_sem, encLn]) rfl ?_
    refine ⟨rfl, N2, N2.bas, hx2, .inl ⟨rfl, ⟨n, S, HK2.out.quiet HQ4.out⟩, rfl⟩, ?_⟩
    have hg := HG2.out.quiet HQ4.out
    exact ⟨hg.kp.mono (fun k e => HM.out.bas e), fun k hk => by
      rcases hg.own k hk with e | e
      · exact .inl (HM.out.bas e)
      · exact .inr e⟩
  | ok M =>
    rw [hdec] at hd hl
    dsimp only at hd hl
    obtain ⟨mb, m, rfl, hmw, rfl, hfresh⟩ := hd
    have hM := (decodeS_r hdec).1
    have hdm : ∀ k, MwB mb m k → ¬ N2.bas k := fun k hk hb => by
      have := hfresh k hk
      have := HK2.out.lt hb
      have := HL3.out
      omega
    have HMW : Hid _ := hmw
    have HDM : Hid _ := hdm
    have HFR : Hid (∀ k, MwB mb m k → w2.heap.size ≤ k) := fun k hk => Nat.le_trans HL3.out (hfresh k hk)
    have HMO : Hid _ := hM
    have HDEC : Hid _ := hdec
    have HLa : Hid (∀ fs, (validV m.mod).2.2 = 0 → compP m.mod = .ok fs → LoadS numI m.mod fs fz.toNat (settleS m.mod Sm.none (clearS st0.H)) a st) := fun fs hv hc => by
      rw [if_pos hv, hc] at hl
      exact hl
    have HLb : Hid (¬ (validV m.mod).2.2 = 0 → a = ⟨(validV m.mod).1, ((validV m.mod).2.1 : Int), (validV m.mod).2.2⟩ ∧ st = ⟨none, clearS st0.H⟩) := fun hv => by
      rw [if_neg hv] at hl
      exact hl
    have hsz0 : True := trivial
    clear hmw hdm hfresh hM hdec hl
    go_wp2_with fail
    refine (vmNew_m _).mono ?_
    rintro en w5 ⟨vv, rfl, q5⟩
    have HMW5 : Hid _ := HMW.out.keep q5 (fun _ _ h => h)
    go_wp2_with fail
    refine (validate_m HMW5.out HMO.out vv).mono ?_
    rintro en w6 ⟨rfl, q6⟩
    have HQ6 : Hid (Kp (fun _ => False) w4 w6) := q5.trans q6
    clear q5 q6 HMW5
    by_cases hv : (validV m.mod).2.2 = 0
    · have hlo : ∃ fs, compP m.mod = .ok fs := comp_ok HMO.out hv
      obtain ⟨fs, hc⟩ := hlo
      have hl := HLa.out fs hv hc
      have hp := valid_parts hv
      have h0 : load0 s = .ok (m.mod, fs) := by unfold load0; rw [HDEC.out]; dsimp only; rw [if_pos hv, hc]
      have hld := load0_ok h0
      obtain ⟨S0, hres⟩ := reset_some HDEC.out hp
      have hsd : Sda w6 w6 N2 mb m S (clearS st0.H) := ⟨N2, n, (HK2.out.quiet HQ4.out).quiet HQ6.out, ⟨rfl, rfl, rfl⟩, HMW.out.keep HQ6.out (fun _ _ h => h), HDM.out, Gw.refl _ _⟩
      have hHc := clearS_ok HH.out
      have hAd := adopt_w hsd HMO.out hld.seg hres (hld.good numI (numI_ok w)) (allF_ok HMO.out hv hc (decodeS_65 HDEC.out) numI) (parts_exu hp) hHc (fun e => settle_gl HMO.out hp e) HFZ.out (a := a) (st := st) (LoadS_new hl)
      rw [hx2] at hAd
      have HAD : Hid (Calls Tryz.prog 135 #[.pointer (some ⟨N.xb, 0, none⟩), .pointer (some ⟨mb, 0, none⟩), .int .i64 fz] w6 (LdP w6 N.xb (fun k => N2.bas k ∨ MwB mb m k) a st)) := hAd
      have hvi : ((validV m.mod).2.2 == 0) = true := by rw [hv]; rfl
      have hv0 : (validV m.mod).2.2 = 0 := hv
      unfold encVm
      rw [hv0]
      clear hl hc hp h0 hld hres hsd hHc hAd hvi hv0 hv
      generalize (validV m.mod).1 = v1
      generalize ((validV m.mod).2.1 : Int) = v2
      go_wp2_with fail
      refine HAD.out.mono ?_
      rintro en w7 ⟨rfl, N3, A3, hx3, hmd, hg3⟩
      have HMD : Hid _ := hmd
      have HG3 : Hid _ := hg3
      clear hmd hg3
      unfold encLn
      go_wp2_with fail
      refine bodyPost_ret (v := encLn a) (by simp [results, Tryz.results77, go_sem, encLn]) rfl ?_
      refine ⟨rfl, N3, A3, hx3, HMD.out, ?_⟩
      have hq : Gw w w6 N.bas N2.bas := (HG2.out.quiet HQ4.out).quiet HQ6.out
      have hsz := hq.kp.size
      have hsz2 : w2.heap.size ≤ w6.heap.size := (HQ4.out.trans HQ6.out).size
      have hw2 := HG2.out.kp.size
      refine ⟨(hq.kp.mono (fun k e => HM.out.bas e)).later HG3.out.kp (fun k hk => ?_), fun k hk => ?_⟩
      · rcases hk with e | e
        · rcases hq.own k e with e2 | e2
          · exact .inl (HM.out.bas e2)
          · exact .inr e2
        · exact .inr (Nat.le_trans hw2 (HFR.out k e))
      · rcases HG3.out.own k hk with e | e
        · rcases e with e | e
          · rcases hq.own k e with e2 | e2
            · exact .inl (HM.out.bas e2)
            · exact .inr e2
          · exact .inr (Nat.le_trans hw2 (HFR.out k e))
        · exact .inr (Nat.le_trans hsz e)
    · obtain ⟨ha, hst⟩ := HLb.out hv
      unfold encVm
      obtain ⟨⟨v1, v2, v3⟩, hX⟩ : ∃ X, validV m.mod = X := ⟨_, rfl⟩
      rw [hX] at ha hv ⊢
      dsimp only at ha hv ⊢
      have HA_ : Hid (a = ⟨v1, (v2 : Int), v3⟩) := ha
      have HS_ : Hid (st = ⟨none, clearS st0.H⟩) := hst
      have hen : (v3 == 0) = false := by rw [beq_eq_false_iff_ne]; exact hv
      have hen2 : (v3 != 0) = true := by simp [bne, hen]
      clear hv ha hst hX HLa HLb
      go_wp2_with fail
      refine bodyPost_ret (v := encLn ⟨v1, (v2 : Int), v3⟩) (by simp [results, Tryz.results77, go_sem, encLn]) rfl ?_
      rw [HA_.out, HS_.out]
      refine ⟨rfl, N2, N2.bas, hx2, .inl ⟨rfl, ⟨n, S, (HK2.out.quiet HQ4.out).quiet HQ6.out⟩, rfl⟩, ?_⟩
      have hg := (HG2.out.quiet HQ4.out).quiet HQ6.out
      exact ⟨hg.kp.mono (fun k e => HM.out.bas e), fun k hk => by
        rcases hg.own k hk with e | e
        · exact .inl (HM.out.bas e)
        · exact .inr e⟩
end
end Go.Proofs.Qxb6500275aGreatDoor
