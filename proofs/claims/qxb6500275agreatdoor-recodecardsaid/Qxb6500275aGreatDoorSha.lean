import Derived.Test.Qxb6500275aGreatDoorSh2
set_option maxRecDepth 100000
set_option linter.unusedVariables false
set_option linter.unusedSimpArgs false
namespace Go.Proofs.Qxb6500275aGreatDoor
open Go Go.RowKit
set_option maxHeartbeats 8000000 in
theorem show_l0 {w0 w1 : World} {mb : Nat} {M : Mod} {ta ia fa ga xa ea da : Option Addr} {s : ByteArray} {tmps : Array Value} {Q : Exit → Act → World → Prop} (hM : ModOk M) (hl : Ml w0 (fun _ => False) mb M ta ia fa ga xa ea da) (hk : Kp (fun _ => False) w0 w1) (hs : s.size ≤ 100)
    (ht : tmps = fr25_0 (.pointer (some ⟨mb, 0, none⟩)) (.string s) (.int .i64 0) (fun j => tmps.getD j undef))
    (hE : ∀ tmps' w' ii, tmps' = fr25_0 (.pointer (some ⟨mb, 0, none⟩)) (.string (M.types.foldl row0 s)) ii (fun j => tmps'.getD j undef) → Kp (fun _ => False) w0 w' → Q (.exit 0) ⟨tmps', []⟩ w') :
    Code.wp Tryz.prog (.loop ((((Tryz.f25.body.map loopsOf).getD [])[0]?).getD .skip)) Q ⟨tmps, []⟩ w1 := by
  have HM : Hid (ModOk M) := hM
  have HL : Hid (Ml w0 (fun _ => False) mb M ta ia fa ga xa ea da) := hl
  have HK0 : Hid (Kp (fun _ => False) w0 w1) := hk
  have HE : Hid (∀ tmps' w' ii, tmps' = fr25_0 (.pointer (some ⟨mb, 0, none⟩)) (.string (M.types.foldl row0 s)) ii (fun j => tmps'.getD j undef) → Kp (fun _ => False) w0 w' → Q (.exit 0) ⟨tmps', []⟩ w') := hE
  obtain ⟨n, hn⟩ : ∃ n, M.types.length = n := ⟨_, rfl⟩
  have HN : Hid (M.types.length = n) := hn
  have k1 : n ≤ 8 := hn ▸ hM.nt
  clear hM hl hk hE hn
  generalize (fun j => tmps.getD j undef) = u at ht
  subst ht
  unfold fr25_0
  dsimp only
  conv => arg 2; arg 1; whnf
  go_loopw [3, 4] (fun xs ii u1 => ∃ (i : Nat) (t : ByteArray), i ≤ n ∧ ii = .int .i64 i ∧ xs = .string t ∧ t.size ≤ 100 + 13 * i ∧ Hid (Kp (fun _ => False) w0 u1) ∧ Hid (t = (M.types.take i).foldl row0 s)) (fun _ ii _ => n + 1 - (intOf ii).toNat)
  case atStart => exact ⟨0, s, by omega, rfl, rfl, by omega, HK0.out, rfl⟩
  case round =>
    clear HK0
    obtain ⟨i, t, hi, rfl, rfl, hts, HK, HT⟩ := hrel
    have c0 := HL.out.c0 _ HK.out
    rw [HN.out] at c0
    by_cases hlt : i < n
    · obtain ⟨x, hx⟩ : ∃ x, M.types[i]? = some x := ⟨_, List.getElem?_eq_getElem (by rw [HN.out]; exact hlt)⟩
      obtain ⟨k, rfl, ct⟩ := HL.out.tat i x hx
      have HC : Hid (∀ u, Kp (fun _ => False) w0 u → u.cell? ⟨k, i, none⟩ = some (.string x.text)) := ct
      have HO : Hid (TyOk x) := HM.out.types x (List.mem_of_getElem? hx)
      have HX : Hid (M.types[i]? = some x) := hx
      have hib : (i : Int) < (n : Int) := by omega
      clear hx ct
      obtain ⟨S1, hS1⟩ : ∃ S, hxS x.text = S := ⟨_, rfl⟩
      have HS1 : Hid (hxS x.text = S1) := hS1
      have z1 : S1.size ≤ 12 := hS1 ▸ (by rw [hxS_size, text_size]; have := HO.out.np; have := HO.out.nq; omega)
      clear hS1
      have q0 : ¬ 9223372036854775807 < t.size + 1 := by omega
      have q1 : ¬ 9223372036854775807 < t.size + 1 + S1.size := by omega
      have x0 := HC.out _ HK.out
      have hc := fun W : World => hxs_calls x.text (by rw [text_size]; have := HO.out.np; have := HO.out.nq; omega) W
      rw [HS1.out] at hc
      go_wp2_with fail
      refine (hc _).mono ?_
      rintro en u1 ⟨rfl, kk⟩
      have HK1 : Hid (Kp (fun _ => False) w0 u1) := HK.out.trans kk
      clear hc kk c0 x0
      go_wp2_with fail
      clear q0 q1
      go_roundw
      case rel =>
        refine ⟨i + 1, _, by omega, by go_num, rfl, ?_, HK1.out, ?_⟩
        · simp only [ByteArray.size_append]
          have l0 : (⟨#[32]⟩ : ByteArray).size = 1 := rfl
          omega
        · show _ = _
          rw [fold_take HX.out, ← HT.out]
          unfold row0
          rw [HS1.out]
      case measure => simp [intOf]; omega
    · have hin : i = n := by omega
      subst hin
      have hib : decide ((i : Int) < (i : Int)) = false := decide_eq_false (by omega)
      have hte : t = M.types.foldl row0 s := by
        rw [HT.out, List.take_of_length_le (by rw [HN.out]; exact Nat.le_refl _)]
      subst hte
      go_wp2_with fail
      exact HE.out _ _ (.int .i64 (i : Int)) (by kernel_rfl) HK.out
end Go.Proofs.Qxb6500275aGreatDoor
