import Derived.Test.Qxb6500275aGreatDoorSha
import Derived.Test.Qxb6500275aGreatDoorShb
import Derived.Test.Qxb6500275aGreatDoorShc
import Derived.Test.Qxb6500275aGreatDoorShd
import Derived.Test.Qxb6500275aGreatDoorShe
import Derived.Test.Qxb6500275aGreatDoorShf
import Derived.Test.Qxb6500275aGreatDoorShg
set_option maxRecDepth 100000
set_option linter.unusedVariables false
set_option linter.unusedSimpArgs false
namespace Go.Proofs.Qxb6500275aGreatDoor
open Go Go.RowKit
set_option maxHeartbeats 8000000 in
theorem show_calls {w : World} {mb : Nat} {M : Mod} (hM : ModOk M) (hm : Md w mb M) : Calls Tryz.prog 25 #[.pointer (some ⟨mb, 0, none⟩)] w (fun en w' => en = .returned (.string (showMod M)) ∧ Kp (fun _ => False) w w') := by
  obtain ⟨ta, ia, fa, ga, xa, ea, da, hl⟩ := hm.later (B := fun _ => False) (fun k e => e.elim)
  have HM : Hid (ModOk M) := hM
  have HL : Hid (Ml w (fun _ => False) mb M ta ia fa ga xa ea da) := hl
  obtain ⟨T6, hT6⟩ : ∃ T, showMod M = T := ⟨_, rfl⟩
  have HT6 : Hid (showMod M = T6) := hT6
  rw [hT6]
  have e0 : (⟨#[116, 121, 112, 101, 115]⟩ : ByteArray).size = 5 := rfl
  have e1 : (⟨#[10, 105, 109, 112, 111, 114, 116, 115]⟩ : ByteArray).size = 8 := rfl
  have e2 : (⟨#[10, 101, 120, 112, 111, 114, 116, 115]⟩ : ByteArray).size = 8 := rfl
  obtain ⟨T0, hT0⟩ : ∃ T, M.types.foldl row0 ⟨#[116, 121, 112, 101, 115]⟩ = T := ⟨_, rfl⟩
  have z0 : T0.size ≤ 200 := hT0 ▸ (Nat.le_trans (fold_size row0 13 M.types ⟨#[116, 121, 112, 101, 115]⟩ (fun s x hx => row0_size (HM.out.types x hx) s)) (by have := HM.out.nt; omega))
  obtain ⟨T1, hT1⟩ : ∃ T, M.imports.foldl row1 (T0 ++ ⟨#[10, 105, 109, 112, 111, 114, 116, 115]⟩) = T := ⟨_, rfl⟩
  have zr0 : (T0 ++ ⟨#[10, 105, 109, 112, 111, 114, 116, 115]⟩).size ≤ 400 := by rw [ByteArray.size_append, e1]; omega
  have z1 : T1.size ≤ 1000 := hT1 ▸ (Nat.le_trans (fold_size row1 55 M.imports (T0 ++ ⟨#[10, 105, 109, 112, 111, 114, 116, 115]⟩) (fun s x hx => row1_size (HM.out.imports x hx) s)) (by have := HM.out.ni; omega))
  obtain ⟨T2, hT2⟩ : ∃ T, M.funcs.foldl row2 T1 = T := ⟨_, rfl⟩
  have z2 : T2.size ≤ 29000 := hT2 ▸ (Nat.le_trans (fold_size row2 3043 M.funcs T1 (fun s x hx => row2_size (HM.out.funcs x hx) s)) (by have := HM.out.nf; omega))
  obtain ⟨A, hA⟩ : ∃ T, itS M.tabMin = T := ⟨_, rfl⟩
  have zA : A.size ≤ 20 := hA ▸ itS_size _
  have HA : Hid (itS M.tabMin = A) := hA
  obtain ⟨B, hB⟩ : ∃ T, itS M.tabMax = T := ⟨_, rfl⟩
  have zB : B.size ≤ 20 := hB ▸ itS_size _
  have HB : Hid (itS M.tabMax = B) := hB
  obtain ⟨C, hC⟩ : ∃ T, itS M.memMin = T := ⟨_, rfl⟩
  have zC : C.size ≤ 20 := hC ▸ itS_size _
  have HC : Hid (itS M.memMin = C) := hC
  obtain ⟨D, hD⟩ : ∃ T, itS M.memMax = T := ⟨_, rfl⟩
  have zD : D.size ≤ 20 := hD ▸ itS_size _
  have HD : Hid (itS M.memMax = D) := hD
  obtain ⟨E, hE⟩ : ∃ T, itS M.start = T := ⟨_, rfl⟩
  have zE : E.size ≤ 20 := hE ▸ itS_size _
  have HE : Hid (itS M.start = E) := hE
  obtain ⟨R2, hR2⟩ : ∃ T, midS T2 A B C D E = T := ⟨_, rfl⟩
  have zr2 : R2.size ≤ 30000 := by
    rw [← hR2]
    unfold midS
    simp only [ByteArray.size_append]
    have l0 : (⟨#[10, 116, 97, 98, 108, 101, 32]⟩ : ByteArray).size = 7 := rfl
    have l2 : (⟨#[32]⟩ : ByteArray).size = 1 := rfl
    have l4 : (⟨#[32, 109, 101, 109, 111, 114, 121, 32]⟩ : ByteArray).size = 8 := rfl
    have l6 : (⟨#[32]⟩ : ByteArray).size = 1 := rfl
    have l8 : (⟨#[32, 115, 116, 97, 114, 116, 32]⟩ : ByteArray).size = 7 := rfl
    have l10 : (⟨#[10, 103, 108, 111, 98, 97, 108, 115]⟩ : ByteArray).size = 8 := rfl
    omega
  obtain ⟨T3, hT3⟩ : ∃ T, M.globals.foldl row3 R2 = T := ⟨_, rfl⟩
  have z3 : T3.size ≤ 30500 := hT3 ▸ (Nat.le_trans (fold_size row3 33 M.globals R2 (fun s x hx => row3_size (HM.out.globals x hx) s)) (by have := HM.out.ng; omega))
  obtain ⟨T4, hT4⟩ : ∃ T, M.exports.foldl row4 (T3 ++ ⟨#[10, 101, 120, 112, 111, 114, 116, 115]⟩) = T := ⟨_, rfl⟩
  have zr3 : (T3 ++ ⟨#[10, 101, 120, 112, 111, 114, 116, 115]⟩).size ≤ 31000 := by rw [ByteArray.size_append, e2]; omega
  have z4 : T4.size ≤ 32000 := hT4 ▸ (Nat.le_trans (fold_size row4 47 M.exports (T3 ++ ⟨#[10, 101, 120, 112, 111, 114, 116, 115]⟩) (fun s x hx => row4_size (HM.out.exports x hx) s)) (by have := HM.out.ne; omega))
  obtain ⟨T5, hT5⟩ : ∃ T, M.elems.foldl row5 T4 = T := ⟨_, rfl⟩
  have z5 : T5.size ≤ 33000 := hT5 ▸ (Nat.le_trans (fold_size row5 88 M.elems T4 (fun s x hx => row5_size (HM.out.elems x hx) s)) (by have := HM.out.nel; omega))
  have HF : Hid (T6 = M.datas.foldl row6 T5) := by
    show _ = _
    rw [← hT6, ← hT5, ← hT4, ← hT3, ← hR2, ← hT2, ← hT1, ← hT0, ← hA, ← hB, ← hC, ← hD, ← hE]
    rfl
  have H0 : Hid (M.types.foldl row0 ⟨#[116, 121, 112, 101, 115]⟩ = T0) := hT0
  have H1 : Hid (M.imports.foldl row1 (T0 ++ ⟨#[10, 105, 109, 112, 111, 114, 116, 115]⟩) = T1) := hT1
  have H2 : Hid (M.funcs.foldl row2 T1 = T2) := hT2
  have H3 : Hid (M.globals.foldl row3 R2 = T3) := hT3
  have H4 : Hid (M.exports.foldl row4 (T3 ++ ⟨#[10, 101, 120, 112, 111, 114, 116, 115]⟩) = T4) := hT4
  have H5 : Hid (M.elems.foldl row5 T4 = T5) := hT5
  have HR2 : Hid (midS T2 A B C D E = R2) := hR2
  have i0 := hM.tabMin
  have i1 := hM.tabMax
  have i2 := hM.memMin
  have i3 := hM.memMax
  have i4 := hM.start
  unfold limR at i0 i1 i2 i3 i4
  have hcA := fun W : World => its_calls M.tabMin i0 W
  have hcB := fun W : World => its_calls M.tabMax i1 W
  have hcC := fun W : World => its_calls M.memMin i2 W
  have hcD := fun W : World => its_calls M.memMax i3 W
  have hcE := fun W : World => its_calls M.start i4 W
  rw [hA] at hcA
  rw [hB] at hcB
  rw [hC] at hcC
  rw [hD] at hcD
  rw [hE] at hcE
  have HI0 : Hid _ := hcA
  have HI1 : Hid _ := hcB
  have HI2 : Hid _ := hcC
  have HI3 : Hid _ := hcD
  have HI4 : Hid _ := hcE
  clear hM hm hl hT6 hT0 hT1 hT2 hT3 hT4 hT5 hA hB hC hD hE hR2 hcA hcB hcC hcD hcE i0 i1 i2 i3 i4
  have p0 : ¬ 9223372036854775807 < T0.size + 8 := by omega
  have p3 : ¬ 9223372036854775807 < T3.size + 8 := by omega
  go_enter Tryz.func25, Tryz.ntmps25
  go_wp2_with fail
  refine show_l0 (s := ⟨#[116, 121, 112, 101, 115]⟩) HM.out HL.out (Kp.refl _ _) (by omega) (by kernel_rfl) ?_
  intro tmps w0 ii ht hk
  rw [H0.out] at ht
  generalize (fun j => tmps.getD j undef) = u' at ht
  subst ht
  have HK0 : Hid (Kp (fun _ => False) w w0) := hk
  clear hk
  unfold fr25_0
  go_wp2_with fail
  refine show_l1 (s := T0 ++ ⟨#[10, 105, 109, 112, 111, 114, 116, 115]⟩) HM.out HL.out HK0.out zr0 (by kernel_rfl) ?_
  intro tmps w1 ii ht hk
  rw [H1.out] at ht
  generalize (fun j => tmps.getD j undef) = u' at ht
  subst ht
  have HK1 : Hid (Kp (fun _ => False) w w1) := hk
  clear hk
  unfold fr25_1
  go_wp2_with fail
  refine show_l2 (s := T1) HM.out HL.out HK1.out z1 (by kernel_rfl) ?_
  intro tmps w2 ii ht hk
  rw [H2.out] at ht
  generalize (fun j => tmps.getD j undef) = u' at ht
  subst ht
  have HK2 : Hid (Kp (fun _ => False) w w2) := hk
  clear hk
  unfold fr25_2
  have c0 := HL.out.c3 _ HK2.out
  have hc := HI0.out
  go_wp2_with fail
  refine (hc _).mono ?_
  rintro en v0 ⟨rfl, kk⟩
  have HV0 : Hid (Kp (fun _ => False) w v0) := HK2.out.trans kk
  clear hc kk c0
  have c0 := HL.out.c4 _ HV0.out
  have hc := HI1.out
  go_wp2_with fail
  refine (hc _).mono ?_
  rintro en v1 ⟨rfl, kk⟩
  have HV1 : Hid (Kp (fun _ => False) w v1) := HV0.out.trans kk
  clear hc kk c0
  have c0 := HL.out.c5 _ HV1.out
  have hc := HI2.out
  go_wp2_with fail
  refine (hc _).mono ?_
  rintro en v2 ⟨rfl, kk⟩
  have HV2 : Hid (Kp (fun _ => False) w v2) := HV1.out.trans kk
  clear hc kk c0
  have c0 := HL.out.c6 _ HV2.out
  have hc := HI3.out
  go_wp2_with fail
  refine (hc _).mono ?_
  rintro en v3 ⟨rfl, kk⟩
  have HV3 : Hid (Kp (fun _ => False) w v3) := HV2.out.trans kk
  clear hc kk c0
  have c0 := HL.out.c9 _ HV3.out
  have hc := HI4.out
  go_wp2_with fail
  refine (hc _).mono ?_
  rintro en v4 ⟨rfl, kk⟩
  have HV4 : Hid (Kp (fun _ => False) w v4) := HV3.out.trans kk
  clear hc kk c0
  have q0 : ¬ 9223372036854775807 < T2.size + 7 := by omega
  have q1 : ¬ 9223372036854775807 < T2.size + 7 + A.size := by omega
  have q2 : ¬ 9223372036854775807 < T2.size + 7 + A.size + 1 := by omega
  have q3 : ¬ 9223372036854775807 < T2.size + 7 + A.size + 1 + B.size := by omega
  have q4 : ¬ 9223372036854775807 < T2.size + 7 + A.size + 1 + B.size + 8 := by omega
  have q5 : ¬ 9223372036854775807 < T2.size + 7 + A.size + 1 + B.size + 8 + C.size := by omega
  have q6 : ¬ 9223372036854775807 < T2.size + 7 + A.size + 1 + B.size + 8 + C.size + 1 := by omega
  have q7 : ¬ 9223372036854775807 < T2.size + 7 + A.size + 1 + B.size + 8 + C.size + 1 + D.size := by omega
  have q8 : ¬ 9223372036854775807 < T2.size + 7 + A.size + 1 + B.size + 8 + C.size + 1 + D.size + 7 := by omega
  have q9 : ¬ 9223372036854775807 < T2.size + 7 + A.size + 1 + B.size + 8 + C.size + 1 + D.size + 7 + E.size := by omega
  have q10 : ¬ 9223372036854775807 < T2.size + 7 + A.size + 1 + B.size + 8 + C.size + 1 + D.size + 7 + E.size + 8 := by omega
  go_wp2_with fail
  clear q0 q1 q2 q3 q4 q5 q6 q7 q8 q9 q10
  refine show_l3 (s := R2) HM.out HL.out HV4.out zr2 (by rw [← HR2.out]; kernel_rfl) ?_
  intro tmps w3 ii ht hk
  rw [H3.out] at ht
  generalize (fun j => tmps.getD j undef) = u' at ht
  subst ht
  have HK3 : Hid (Kp (fun _ => False) w w3) := hk
  clear hk
  unfold fr25_3
  go_wp2_with fail
  refine show_l4 (s := T3 ++ ⟨#[10, 101, 120, 112, 111, 114, 116, 115]⟩) HM.out HL.out HK3.out zr3 (by kernel_rfl) ?_
  intro tmps w4 ii ht hk
  rw [H4.out] at ht
  generalize (fun j => tmps.getD j undef) = u' at ht
  subst ht
  have HK4 : Hid (Kp (fun _ => False) w w4) := hk
  clear hk
  unfold fr25_4
  go_wp2_with fail
  refine show_l5 (s := T4) HM.out HL.out HK4.out z4 (by kernel_rfl) ?_
  intro tmps w5 ii ht hk
  rw [H5.out] at ht
  generalize (fun j => tmps.getD j undef) = u' at ht
  subst ht
  have HK5 : Hid (Kp (fun _ => False) w w5) := hk
  clear hk
  unfold fr25_5
  go_wp2_with fail
  refine show_l6 (s := T5) HM.out HL.out HK5.out z5 (by kernel_rfl) ?_
  intro tmps w6 ii ht hk
  rw [← HF.out] at ht
  generalize (fun j => tmps.getD j undef) = u' at ht
  subst ht
  have HK6 : Hid (Kp (fun _ => False) w w6) := hk
  clear hk
  unfold fr25_6
  go_wp2_with fail
  refine bodyPost_ret (v := .string T6) (by simp [results, Tryz.results25, go_sem]) rfl ?_
  exact ⟨rfl, HK6.out⟩
end Go.Proofs.Qxb6500275aGreatDoor
