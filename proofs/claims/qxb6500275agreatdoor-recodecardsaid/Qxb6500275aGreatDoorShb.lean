import Derived.Test.Qxb6500275aGreatDoorSh2
set_option maxRecDepth 100000
set_option linter.unusedVariables false
set_option linter.unusedSimpArgs false
namespace Go.Proofs.Qxb6500275aGreatDoor
open Go Go.RowKit
set_option maxHeartbeats 8000000 in
theorem show_l1 {w0 w1 : World} {mb : Nat} {M : Mod} {ta ia fa ga xa ea da : Option Addr} {s : ByteArray} {tmps : Array Value} {Q : Exit → Act → World → Prop} (hM : ModOk M) (hl : Ml w0 (fun _ => False) mb M ta ia fa ga xa ea da) (hk : Kp (fun _ => False) w0 w1) (hs : s.size ≤ 400)
    (ht : tmps = fr25_1 (.pointer (some ⟨mb, 0, none⟩)) (.string s) (.int .i64 0) (fun j => tmps.getD j undef))
    (hE : ∀ tmps' w' ii, tmps' = fr25_1 (.pointer (some ⟨mb, 0, none⟩)) (.string (M.imports.foldl row1 s)) ii (fun j => tmps'.getD j undef) → Kp (fun _ => False) w0 w' → Q (.exit 2) ⟨tmps', []⟩ w') :
    Code.wp Tryz.prog (.loop ((((Tryz.f25.body.map loopsOf).getD [])[1]?).getD .skip)) Q ⟨tmps, []⟩ w1 := by
  have HM : Hid (ModOk M) := hM
  have HL : Hid (Ml w0 (fun _ => False) mb M ta ia fa ga xa ea da) := hl
  have HK0 : Hid (Kp (fun _ => False) w0 w1) := hk
  have HE : Hid (∀ tmps' w' ii, tmps' = fr25_1 (.pointer (some ⟨mb, 0, none⟩)) (.string (M.imports.foldl row1 s)) ii (fun j => tmps'.getD j undef) → Kp (fun _ => False) w0 w' → Q (.exit 2) ⟨tmps', []⟩ w') := hE
  obtain ⟨n, hn⟩ : ∃ n, M.imports.length = n := ⟨_, rfl⟩
  have HN : Hid (M.imports.length = n) := hn
  have k1 : n ≤ 4 := hn ▸ hM.ni
  clear hM hl hk hE hn
  generalize (fun j => tmps.getD j undef) = u at ht
  subst ht
  unfold fr25_1
  dsimp only
  conv => arg 2; arg 1; whnf
  go_loopw [3, 6] (fun xs ii u1 => ∃ (i : Nat) (t : ByteArray), i ≤ n ∧ ii = .int .i64 i ∧ xs = .string t ∧ t.size ≤ 400 + 55 * i ∧ Hid (Kp (fun _ => False) w0 u1) ∧ Hid (t = (M.imports.take i).foldl row1 s)) (fun _ ii _ => n + 1 - (intOf ii).toNat)
  case atStart => exact ⟨0, s, by omega, rfl, rfl, by omega, HK0.out, rfl⟩
  case round =>
    clear HK0
    obtain ⟨i, t, hi, rfl, rfl, hts, HK, HT⟩ := hrel
    have c0 := HL.out.c1 _ HK.out
    rw [HN.out] at c0
    by_cases hlt : i < n
    · obtain ⟨x, hx⟩ : ∃ x, M.imports[i]? = some x := ⟨_, List.getElem?_eq_getElem (by rw [HN.out]; exact hlt)⟩
      obtain ⟨k, rfl, ct⟩ := HL.out.iat i x hx
      have HC : Hid (∀ u, Kp (fun _ => False) w0 u → u.cell? ⟨k, i * 3, none⟩ = some (.string x.mod) ∧ u.cell? ⟨k, i * 3 + 1, none⟩ = some (.string x.name) ∧ u.cell? ⟨k, i * 3 + 2, none⟩ = some (.int .i64 x.ty)) := ct
      have HO : Hid (ImpOk x) := HM.out.imports x (List.mem_of_getElem? hx)
      have HX : Hid (M.imports[i]? = some x) := hx
      have hib : (i : Int) < (n : Int) := by omega
      clear hx ct
      obtain ⟨S1, hS1⟩ : ∃ S, hxS x.mod = S := ⟨_, rfl⟩
      have HS1 : Hid (hxS x.mod = S1) := hS1
      have z1 : S1.size ≤ 16 := hS1 ▸ (by rw [hxS_size]; have := HO.out.mod; omega)
      clear hS1
      obtain ⟨S2, hS2⟩ : ∃ S, hxS x.name = S := ⟨_, rfl⟩
      have HS2 : Hid (hxS x.name = S2) := hS2
      have z2 : S2.size ≤ 16 := hS2 ▸ (by rw [hxS_size]; have := HO.out.name; omega)
      clear hS2
      obtain ⟨S3, hS3⟩ : ∃ S, itS x.ty = S := ⟨_, rfl⟩
      have HS3 : Hid (itS x.ty = S3) := hS3
      have z3 : S3.size ≤ 20 := hS3 ▸ (itS_size _)
      clear hS3
      have q0 : ¬ 9223372036854775807 < t.size + 1 := by omega
      have q1 : ¬ 9223372036854775807 < t.size + 1 + S1.size := by omega
      have q2 : ¬ 9223372036854775807 < t.size + 1 + S1.size + 1 := by omega
      have q3 : ¬ 9223372036854775807 < t.size + 1 + S1.size + 1 + S2.size := by omega
      have q4 : ¬ 9223372036854775807 < t.size + 1 + S1.size + 1 + S2.size + 1 := by omega
      have q5 : ¬ 9223372036854775807 < t.size + 1 + S1.size + 1 + S2.size + 1 + S3.size := by omega
      have x0 := (HC.out _ HK.out).1
      have hc := fun W : World => hxs_calls x.mod (by have := HO.out.mod; omega) W
      rw [HS1.out] at hc
      go_wp2_with fail
      refine (hc _).mono ?_
      rintro en u1 ⟨rfl, kk⟩
      have HK1 : Hid (Kp (fun _ => False) w0 u1) := HK.out.trans kk
      clear hc kk c0 x0
      have c0 := HL.out.c1 _ HK1.out
      rw [HN.out] at c0
      have x0 := (HC.out _ HK1.out).2.1
      have hc := fun W : World => hxs_calls x.name (by have := HO.out.name; omega) W
      rw [HS2.out] at hc
      go_wp2_with fail
      refine (hc _).mono ?_
      rintro en u2 ⟨rfl, kk⟩
      have HK2 : Hid (Kp (fun _ => False) w0 u2) := HK1.out.trans kk
      clear hc kk c0 x0
      have c0 := HL.out.c1 _ HK2.out
      rw [HN.out] at c0
      have x0 := (HC.out _ HK2.out).2.2
      have hc := fun W : World => its_calls x.ty (by have := HO.out.ty; unfold u32R at this; omega) W
      rw [HS3.out] at hc
      go_wp2_with fail
      refine (hc _).mono ?_
      rintro en u3 ⟨rfl, kk⟩
      have HK3 : Hid (Kp (fun _ => False) w0 u3) := HK2.out.trans kk
      clear hc kk c0 x0
      go_wp2_with fail
      clear q0 q1 q2 q3 q4 q5
      go_roundw
      case rel =>
        refine ⟨i + 1, _, by omega, by go_num, rfl, ?_, HK3.out, ?_⟩
        · simp only [ByteArray.size_append]
          have l0 : (⟨#[32]⟩ : ByteArray).size = 1 := rfl
          have l2 : (⟨#[46]⟩ : ByteArray).size = 1 := rfl
          have l4 : (⟨#[46]⟩ : ByteArray).size = 1 := rfl
          omega
        · show _ = _
          rw [fold_take HX.out, ← HT.out]
          unfold row1
          rw [HS1.out, HS2.out, HS3.out]
      case measure => simp [intOf]; omega
    · have hin : i = n := by omega
      subst hin
      have hib : decide ((i : Int) < (i : Int)) = false := decide_eq_false (by omega)
      have hte : t = M.imports.foldl row1 s := by
        rw [HT.out, List.take_of_length_le (by rw [HN.out]; exact Nat.le_refl _)]
      subst hte
      go_wp2_with fail
      exact HE.out _ _ (.int .i64 (i : Int)) (by kernel_rfl) HK.out
end Go.Proofs.Qxb6500275aGreatDoor
