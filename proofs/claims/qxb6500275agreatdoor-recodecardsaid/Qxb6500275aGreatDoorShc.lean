import Derived.Test.Qxb6500275aGreatDoorSh2
set_option maxRecDepth 100000
set_option linter.unusedVariables false
set_option linter.unusedSimpArgs false
namespace Go.Proofs.Qxb6500275aGreatDoor
open Go Go.RowKit
set_option maxHeartbeats 8000000 in
theorem show_l2 {w0 w1 : World} {mb : Nat} {M : Mod} {ta ia fa ga xa ea da : Option Addr} {s : ByteArray} {tmps : Array Value} {Q : Exit → Act → World → Prop} (hM : ModOk M) (hl : Ml w0 (fun _ => False) mb M ta ia fa ga xa ea da) (hk : Kp (fun _ => False) w0 w1) (hs : s.size ≤ 1000)
    (ht : tmps = fr25_2 (.pointer (some ⟨mb, 0, none⟩)) (.string s) (.int .i64 0) (fun j => tmps.getD j undef))
    (hE : ∀ tmps' w' ii, tmps' = fr25_2 (.pointer (some ⟨mb, 0, none⟩)) (.string (M.funcs.foldl row2 s)) ii (fun j => tmps'.getD j undef) → Kp (fun _ => False) w0 w' → Q (.exit 4) ⟨tmps', []⟩ w') :
    Code.wp Tryz.prog (.loop ((((Tryz.f25.body.map loopsOf).getD [])[2]?).getD .skip)) Q ⟨tmps, []⟩ w1 := by
  have HM : Hid (ModOk M) := hM
  have HL : Hid (Ml w0 (fun _ => False) mb M ta ia fa ga xa ea da) := hl
  have HK0 : Hid (Kp (fun _ => False) w0 w1) := hk
  have HE : Hid (∀ tmps' w' ii, tmps' = fr25_2 (.pointer (some ⟨mb, 0, none⟩)) (.string (M.funcs.foldl row2 s)) ii (fun j => tmps'.getD j undef) → Kp (fun _ => False) w0 w' → Q (.exit 4) ⟨tmps', []⟩ w') := hE
  obtain ⟨n, hn⟩ : ∃ n, M.funcs.length = n := ⟨_, rfl⟩
  have HN : Hid (M.funcs.length = n) := hn
  have k1 : n ≤ 8 := hn ▸ hM.nf
  clear hM hl hk hE hn
  generalize (fun j => tmps.getD j undef) = u at ht
  subst ht
  unfold fr25_2
  dsimp only
  conv => arg 2; arg 1; whnf
  go_loopw [3, 10] (fun xs ii u1 => ∃ (i : Nat) (t : ByteArray), i ≤ n ∧ ii = .int .i64 i ∧ xs = .string t ∧ t.size ≤ 1000 + 3043 * i ∧ Hid (Kp (fun _ => False) w0 u1) ∧ Hid (t = (M.funcs.take i).foldl row2 s)) (fun _ ii _ => n + 1 - (intOf ii).toNat)
  case atStart => exact ⟨0, s, by omega, rfl, rfl, by omega, HK0.out, rfl⟩
  case round =>
    clear HK0
    obtain ⟨i, t, hi, rfl, rfl, hts, HK, HT⟩ := hrel
    have c0 := HL.out.c2 _ HK.out
    rw [HN.out] at c0
    by_cases hlt : i < n
    · obtain ⟨x, hx⟩ : ∃ x, M.funcs[i]? = some x := ⟨_, List.getElem?_eq_getElem (by rw [HN.out]; exact hlt)⟩
      obtain ⟨k, vb, vt, rfl, ct⟩ := HL.out.fat i x hx
      have HC : Hid (∀ u, Kp (fun _ => False) w0 u → (u.cell? ⟨k, i * 4, none⟩ = some (.int .i64 x.ty) ∧ u.cell? ⟨k, i * 4 + 1, none⟩ = some (.string x.locals) ∧ u.cell? ⟨k, i * 4 + 2, none⟩ = some vb ∧ u.cell? ⟨k, i * 4 + 3, none⟩ = some vt) ∧ InsAt u (mb + 1) vb x.body ∧ TabAt u (mb + 1) vt x.tabs) := ct
      have HO : Hid (FnOk x) := HM.out.funcs x (List.mem_of_getElem? hx)
      have HX : Hid (M.funcs[i]? = some x) := hx
      have hib : (i : Int) < (n : Int) := by omega
      clear hx ct
      obtain ⟨S1, hS1⟩ : ∃ S, itS x.ty = S := ⟨_, rfl⟩
      have HS1 : Hid (itS x.ty = S1) := hS1
      have z1 : S1.size ≤ 20 := hS1 ▸ (itS_size _)
      clear hS1
      obtain ⟨S2, hS2⟩ : ∃ S, hxS x.locals = S := ⟨_, rfl⟩
      have HS2 : Hid (hxS x.locals = S2) := hS2
      have z2 : S2.size ≤ 12 := hS2 ▸ (by rw [hxS_size]; have := HO.out.nl; omega)
      clear hS2
      obtain ⟨S3, hS3⟩ : ∃ S, shBody x.body = S := ⟨_, rfl⟩
      have HS3 : Hid (shBody x.body = S3) := hS3
      have z3 : S3.size ≤ 2784 := hS3 ▸ (by have := shBody_size x.body; have := HO.out.nb; omega)
      clear hS3
      obtain ⟨S4, hS4⟩ : ∃ S, shU32 x.tabs = S := ⟨_, rfl⟩
      have HS4 : Hid (shU32 x.tabs = S4) := hS4
      have z4 : S4.size ≤ 216 := hS4 ▸ (by have := shU32_size x.tabs; have := HO.out.nt; omega)
      clear hS4
      have q0 : ¬ 9223372036854775807 < t.size + 6 := by omega
      have q1 : ¬ 9223372036854775807 < t.size + 6 + S1.size := by omega
      have q2 : ¬ 9223372036854775807 < t.size + 6 + S1.size + 2 := by omega
      have q3 : ¬ 9223372036854775807 < t.size + 6 + S1.size + 2 + S2.size := by omega
      have q4 : ¬ 9223372036854775807 < t.size + 6 + S1.size + 2 + S2.size + 1 := by omega
      have q5 : ¬ 9223372036854775807 < t.size + 6 + S1.size + 2 + S2.size + 1 + S3.size := by omega
      have q6 : ¬ 9223372036854775807 < t.size + 6 + S1.size + 2 + S2.size + 1 + S3.size + 2 := by omega
      have q7 : ¬ 9223372036854775807 < t.size + 6 + S1.size + 2 + S2.size + 1 + S3.size + 2 + S4.size := by omega
      have x0 := (HC.out _ HK.out).1.1
      have hc := fun W : World => its_calls x.ty (by have := HO.out.ty; unfold u32R at this; omega) W
      rw [HS1.out] at hc
      go_wp2_with fail
      refine (hc _).mono ?_
      rintro en u1 ⟨rfl, kk⟩
      have HK1 : Hid (Kp (fun _ => False) w0 u1) := HK.out.trans kk
      clear hc kk c0 x0
      have c0 := HL.out.c2 _ HK1.out
      rw [HN.out] at c0
      have x0 := (HC.out _ HK1.out).1.2.1
      have hc := fun W : World => hxs_calls x.locals (by have := HO.out.nl; omega) W
      rw [HS2.out] at hc
      go_wp2_with fail
      refine (hc _).mono ?_
      rintro en u2 ⟨rfl, kk⟩
      have HK2 : Hid (Kp (fun _ => False) w0 u2) := HK1.out.trans kk
      clear hc kk c0 x0
      have c0 := HL.out.c2 _ HK2.out
      rw [HN.out] at c0
      have x0 := (HC.out _ HK2.out).1.2.2.1
      have hc := bshow_calls (HC.out _ HK2.out).2.1 HO.out.body HO.out.nb.2
      rw [HS3.out] at hc
      go_wp2_with fail
      refine hc.mono ?_
      rintro en u3 ⟨rfl, kk⟩
      have HK3 : Hid (Kp (fun _ => False) w0 u3) := HK2.out.trans kk
      clear hc kk c0 x0
      have c0 := HL.out.c2 _ HK3.out
      rw [HN.out] at c0
      have x0 := (HC.out _ HK3.out).1.2.2.2
      have hc := ushow_calls (HC.out _ HK3.out).2.2 HO.out.tabs (by have := HO.out.nt; omega)
      rw [HS4.out] at hc
      go_wp2_with fail
      refine hc.mono ?_
      rintro en u4 ⟨rfl, kk⟩
      have HK4 : Hid (Kp (fun _ => False) w0 u4) := HK3.out.trans kk
      clear hc kk c0 x0
      go_wp2_with fail
      clear q0 q1 q2 q3 q4 q5 q6 q7
      go_roundw
      case rel =>
        refine ⟨i + 1, _, by omega, by go_num, rfl, ?_, HK4.out, ?_⟩
        · simp only [ByteArray.size_append]
          have l0 : (⟨#[10, 102, 117, 110, 99, 32]⟩ : ByteArray).size = 6 := rfl
          have l2 : (⟨#[32, 91]⟩ : ByteArray).size = 2 := rfl
          have l4 : (⟨#[93]⟩ : ByteArray).size = 1 := rfl
          have l6 : (⟨#[32, 124]⟩ : ByteArray).size = 2 := rfl
          omega
        · show _ = _
          rw [fold_take HX.out, ← HT.out]
          unfold row2
          rw [HS1.out, HS2.out, HS3.out, HS4.out]
      case measure => simp [intOf]; omega
    · have hin : i = n := by omega
      subst hin
      have hib : decide ((i : Int) < (i : Int)) = false := decide_eq_false (by omega)
      have hte : t = M.funcs.foldl row2 s := by
        rw [HT.out, List.take_of_length_le (by rw [HN.out]; exact Nat.le_refl _)]
      subst hte
      go_wp2_with fail
      exact HE.out _ _ (.int .i64 (i : Int)) (by kernel_rfl) HK.out
end Go.Proofs.Qxb6500275aGreatDoor
