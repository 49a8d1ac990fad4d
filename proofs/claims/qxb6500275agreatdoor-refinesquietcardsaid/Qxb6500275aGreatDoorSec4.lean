import Derived.Test.Qxb6500275aGreatDoorSec0
import Derived.Deep.Light
set_option maxRecDepth 100000
set_option linter.unusedVariables false
set_option linter.unusedSimpArgs false
set_option linter.unusedSectionVars false
namespace Go.Proofs.Qxb6500275aGreatDoor
open Go Go.RowKit
variable [Inhabited TV]
section
variable {w w1 w2 : World} {b : Nat} {s : ByteArray} {p q q2 e bb ib tb mb : Nat} {ty : List Int} {M : Mod} {l : List Int}
theorem limitsS_ok {s : ByteArray} {p e q : Nat} {x : Int × Int} (h : limitsS s p e = .ok (x, q)) : u32R x.1 ∧ limR x.2 := by
  unfold limitsS at h
  split at h
  · simp at h
  · split at h
    · simp at h
    · rename_i lo r hu
      have h1 := (u32S_ok hu).1
      split at h
      · simp at h
        obtain ⟨rfl, rfl⟩ := h
        exact ⟨h1, by simp, by simp⟩
      · split at h
        · simp at h
        · rename_i hi t hu2
          have h2 := (u32S_ok hu2).1
          simp at h
          obtain ⟨rfl, rfl⟩ := h
          exact ⟨h1, by simp; omega, by simp; omega⟩
theorem Dc.fin2 {X : RM} {M' : Mod} {i : Nat} {v : Value} (hD : Dc w b s p e bb ib tb mb ty M) (h : Dc w1 b s q e bb ib tb mb ty M) (hk : Kp (· = b) w w1) (hX : X = .ok (M', ty, q)) {w2 : World} (hk2 : Kp (fun j => j = mb) w1 w2) (hM : Md w2 mb M') : SecP X b s e bb ib tb mb w (.returned (.tuple #[])) w2 := by
  have hlt := hD.lt
  exact SecP.mkOk hX (hk.sd.trans (hk2.mono fun j hj => by subst hj; exact .inr (.inr (.inr (.inr rfl))))) rfl (h.rd.keep hk2 (by omega)) (h.bt.keep hk2 (by omega) (by omega) (by omega)) hM
set_option maxHeartbeats 4000000 in
theorem table_calls (h : Dc w b s p e bb ib tb mb ty M) : Calls Tryz.prog 55 #[.pointer (some ⟨b, 0, none⟩), .pointer (some ⟨mb, 0, none⟩)] w (SecP (sec4 s p e M ty) b s e bb ib tb mb w) := by
  have HD : Hid _ := h
  obtain ⟨X, hX⟩ : ∃ X, sec4 s p e M ty = X := ⟨_, rfl⟩
  have HS : Hid (X = sec4 s p e M ty) := hX.symm
  unfold sec4 at HS
  rw [hX]
  clear h hX
  go_enter Tryz.func55, Tryz.ntmps55
  go_wp2_with fail
  refine RP.step HS (count_calls HD.out.rd 1 (by omega)) (fun c a w4 hX hK => ⟨rfl, HD.out.err hK hX⟩) ?_
  clear HS
  intro n q w2 hn HS hK2 hR2
  have hn6 := (countS_ok hn.out).1
  obtain ⟨n, rfl⟩ := Int.eq_ofNat_of_zero_le hn6.1
  unfold encI
  dsimp only at HS
  clear hn
  by_cases h1 : n = 1
  · subst h1
    rw [if_pos (by rfl)] at HS
    go_wp2_with fail
    refine RP.step HS (fixed_calls hR2 112 (by decide)) (fun c a w4 hX hK => ⟨rfl, HD.out.err (hK2.trans hK) hX⟩) ?_
    clear HS
    intro v3 q3 w3 hv3 HS hK3 hR3
    unfold encN
    dsimp only at HS
    go_wp2_with fail
    refine RP.step HS (limits_calls hR3) (fun c a w4 hX hK => ⟨rfl, HD.out.err ((hK2.trans hK3).trans hK) hX⟩) ?_
    clear HS
    intro v4 q4 w4 hv4 HS hK4 hR4
    unfold encL
    dsimp only at HS
    have HD4 : Hid _ := HD.out.read ((hK2.trans hK3).trans hK4) hR4
    have HK : Hid _ := (hK2.trans hK3).trans hK4
    obtain ⟨⟨v0, hc0⟩, hf0⟩ := HD4.out.md.cell (i := 3) (by decide)
    obtain ⟨⟨v1, hc1⟩, hf1⟩ := HD4.out.md.cell (i := 4) (by decide)
    clear hK2 hR2 hK3 hR3 hK4 hR4 hv3
    obtain ⟨lo, hi⟩ := v4
    go_wp2
    go_end0
    go_light
    exact Dc.fin2 (i := 0) (v := .bool true) HD.out HD4.out HK.out HS.out (((Kp.refl (fun j => j = mb) _).setCell (.inl rfl) _).setCell (.inl rfl) _) ((HD4.out.md.setTabMin lo).setTabMax hi)
  · rw [if_neg (by omega)] at HS
    have hb : ((n : Int) == 1) = false := by rw [beq_eq_false_iff_ne]; omega
    go_wp2
    go_end0
    exact SecP.mkOk HS.out hK2.sd rfl hR2 (HD.out.btOf hK2) (HD.out.mdOf hK2 (fun k h => .inl h))
set_option maxHeartbeats 4000000 in
theorem memory_calls (h : Dc w b s p e bb ib tb mb ty M) : Calls Tryz.prog 56 #[.pointer (some ⟨b, 0, none⟩), .pointer (some ⟨mb, 0, none⟩)] w (SecP (sec5 s p e M ty) b s e bb ib tb mb w) := by
  have HD : Hid _ := h
  obtain ⟨X, hX⟩ : ∃ X, sec5 s p e M ty = X := ⟨_, rfl⟩
  have HS : Hid (X = sec5 s p e M ty) := hX.symm
  unfold sec5 at HS
  rw [hX]
  clear h hX
  go_enter Tryz.func56, Tryz.ntmps56
  go_wp2_with fail
  refine RP.step HS (count_calls HD.out.rd 1 (by omega)) (fun c a w4 hX hK => ⟨rfl, HD.out.err hK hX⟩) ?_
  clear HS
  intro n q w2 hn HS hK2 hR2
  have hn6 := (countS_ok hn.out).1
  obtain ⟨n, rfl⟩ := Int.eq_ofNat_of_zero_le hn6.1
  unfold encI
  dsimp only at HS
  clear hn
  by_cases h1 : n = 1
  · subst h1
    rw [if_pos (by rfl)] at HS
    go_wp2_with fail
    refine RP.step HS (limits_calls hR2) (fun c a w4 hX hK => ⟨rfl, HD.out.err (hK2.trans hK) hX⟩) ?_
    clear HS
    intro v4 q4 w4 hv4 HS hK4 hR4
    unfold encL
    dsimp only at HS
    have HD4 : Hid _ := HD.out.read (hK2.trans hK4) hR4
    have HK : Hid _ := hK2.trans hK4
    obtain ⟨⟨v0, hc0⟩, hf0⟩ := HD4.out.md.cell (i := 5) (by decide)
    obtain ⟨⟨v1, hc1⟩, hf1⟩ := HD4.out.md.cell (i := 6) (by decide)
    clear hK2 hR2 hK4 hR4
    obtain ⟨lo, hi⟩ := v4
    go_wp2
    go_end0
    go_light
    exact Dc.fin2 (i := 0) (v := .bool true) HD.out HD4.out HK.out HS.out (((Kp.refl (fun j => j = mb) _).setCell (.inl rfl) _).setCell (.inl rfl) _) ((HD4.out.md.setMemMin lo).setMemMax hi)
  · rw [if_neg (by omega)] at HS
    have hb : ((n : Int) == 1) = false := by rw [beq_eq_false_iff_ne]; omega
    go_wp2
    go_end0
    exact SecP.mkOk HS.out hK2.sd rfl hR2 (HD.out.btOf hK2) (HD.out.mdOf hK2 (fun k h => .inl h))
set_option maxHeartbeats 4000000 in
theorem start_calls (h : Dc w b s p e bb ib tb mb ty M) : Calls Tryz.prog 59 #[.pointer (some ⟨b, 0, none⟩), .pointer (some ⟨mb, 0, none⟩)] w (SecP (sec8 s p e M ty) b s e bb ib tb mb w) := by
  have HD : Hid _ := h
  obtain ⟨X, hX⟩ : ∃ X, sec8 s p e M ty = X := ⟨_, rfl⟩
  have HS : Hid (X = sec8 s p e M ty) := hX.symm
  unfold sec8 at HS
  rw [hX]
  clear h hX
  go_enter Tryz.func59, Tryz.ntmps59
  go_wp2_with fail
  refine RP.step HS (u32_calls HD.out.rd) (fun c a w4 hX hK => ⟨rfl, HD.out.err hK hX⟩) ?_
  clear HS
  intro v q w2 hv HS hK2 hR2
  have hb := (u32S_ok hv.out).1
  unfold encU
  dsimp only at HS
  have HD4 : Hid _ := HD.out.read hK2 hR2
  have HK : Hid _ := hK2
  obtain ⟨⟨v0, hc0⟩, hf0⟩ := HD4.out.md.cell (i := 9) (by decide)
  clear hK2 hR2 hv
  go_wp2
  go_end0
  go_light
  exact Dc.fin2 (i := 0) (v := .bool true) HD.out HD4.out HK.out HS.out ((Kp.refl (fun j => j = mb) _).setCell (.inl rfl) _) (HD4.out.md.setStart v)
end
end Go.Proofs.Qxb6500275aGreatDoor
