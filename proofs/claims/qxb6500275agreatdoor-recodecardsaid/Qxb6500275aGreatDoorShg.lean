import Derived.Test.Qxb6500275aGreatDoorSh2
set_option maxRecDepth 100000
set_option linter.unusedVariables false
set_option linter.unusedSimpArgs false
namespace Go.Proofs.Qxb6500275aGreatDoor
open Go Go.RowKit
set_option maxHeartbeats 8000000 in
theorem show_l6 {w0 w1 : World} {mb : Nat} {M : Mod} {ta ia fa ga xa ea da : Option Addr} {s : ByteArray} {tmps : Array Value} {Q : Exit → Act → World → Prop} (hM : ModOk M) (hl : Ml w0 (fun _ => False) mb M ta ia fa ga xa ea da) (hk : Kp (fun _ => False) w0 w1) (hs : s.size ≤ 33000)
    (ht : tmps = fr25_6 (.pointer (some ⟨mb, 0, none⟩)) (.string s) (.int .i64 0) (fun j => tmps.getD j undef))
    (hE : ∀ tmps' w' ii, tmps' = fr25_6 (.pointer (some ⟨mb, 0, none⟩)) (.string (M.datas.foldl row6 s)) ii (fun j => tmps'.getD j undef) → Kp (fun _ => False) w0 w' → Q (.exit 12) ⟨tmps', []⟩ w') :
    Code.wp Tryz.prog (.loop ((((Tryz.f25.body.map loopsOf).getD [])[6]?).getD .skip)) Q ⟨tmps, []⟩ w1 := by
  have HM : Hid (ModOk M) := hM
  have HL : Hid (Ml w0 (fun _ => False) mb M ta ia fa ga xa ea da) := hl
  have HK0 : Hid (Kp (fun _ => False) w0 w1) := hk
  have HE : Hid (∀ tmps' w' ii, tmps' = fr25_6 (.pointer (some ⟨mb, 0, none⟩)) (.string (M.datas.foldl row6 s)) ii (fun j => tmps'.getD j undef) → Kp (fun _ => False) w0 w' → Q (.exit 12) ⟨tmps', []⟩ w') := hE
  obtain ⟨n, hn⟩ : ∃ n, M.datas.length = n := ⟨_, rfl⟩
  have HN : Hid (M.datas.length = n) := hn
  have k1 : n ≤ 3 := hn ▸ hM.nd
  clear hM hl hk hE hn
  generalize (fun j => tmps.getD j undef) = u at ht
  subst ht
  unfold fr25_6
  dsimp only
  conv => arg 2; arg 1; whnf
  go_loopw [3, 32] (fun xs ii u1 => ∃ (i : Nat) (t : ByteArray), i ≤ n ∧ ii = .int .i64 i ∧ xs = .string t ∧ t.size ≤ 33000 + 83 * i ∧ Hid (Kp (fun _ => False) w0 u1) ∧ Hid (t = (M.datas.take i).foldl row6 s)) (fun _ ii _ => n + 1 - (intOf ii).toNat)
  case atStart => exact ⟨0, s, by omega, rfl, rfl, by omega, HK0.out, rfl⟩
  case round =>
    clear HK0
    obtain ⟨i, t, hi, rfl, rfl, hts, HK, HT⟩ := hrel
    have c0 := HL.out.c11 _ HK.out
    rw [HN.out] at c0
    by_cases hlt : i < n
    · obtain ⟨x, hx⟩ : ∃ x, M.datas[i]? = some x := ⟨_, List.getElem?_eq_getElem (by rw [HN.out]; exact hlt)⟩
      obtain ⟨k, rfl, ct⟩ := HL.out.dat i x hx
      have HC : Hid (∀ u, Kp (fun _ => False) w0 u → u.cell? ⟨k, i * 4, none⟩ = some (.int .u8 x.off.op) ∧ u.cell? ⟨k, i * 4 + 1, none⟩ = some (.int .u32 x.off.x) ∧ u.cell? ⟨k, i * 4 + 2, none⟩ = some (.int .u64 x.off.y) ∧ u.cell? ⟨k, i * 4 + 3, none⟩ = some (.string x.bytes)) := ct
      have HO : Hid (DatOk x) := HM.out.datas x (List.mem_of_getElem? hx)
      have HX : Hid (M.datas[i]? = some x) := hx
      have hib : (i : Int) < (n : Int) := by omega
      clear hx ct
      obtain ⟨S1, hS1⟩ : ∃ S, insS x.off = S := ⟨_, rfl⟩
      have HS1 : Hid (insS x.off = S1) := hS1
      have z1 : S1.size ≤ 28 := hS1 ▸ (Nat.le_of_eq (insS_size _))
      clear hS1
      obtain ⟨S2, hS2⟩ : ∃ S, hxS x.bytes = S := ⟨_, rfl⟩
      have HS2 : Hid (hxS x.bytes = S2) := hS2
      have z2 : S2.size ≤ 48 := hS2 ▸ (by rw [hxS_size]; have := HO.out.n; omega)
      clear hS2
      have q0 : ¬ 9223372036854775807 < t.size + 6 := by omega
      have q1 : ¬ 9223372036854775807 < t.size + 6 + S1.size := by omega
      have q2 : ¬ 9223372036854775807 < t.size + 6 + S1.size + 1 := by omega
      have q3 : ¬ 9223372036854775807 < t.size + 6 + S1.size + 1 + S2.size := by omega
      obtain ⟨x0, x1, x2, _⟩ := HC.out _ HK.out
      have hc := fun W : World => ishow_calls x.off (by have := HO.out.off.op; omega) HO.out.off.ok.x HO.out.off.ok.y W
      unfold Ins.val at hc
      rw [HS1.out] at hc
      go_wp2_with fail
      refine (hc _).mono ?_
      rintro en u1 ⟨rfl, kk⟩
      have HK1 : Hid (Kp (fun _ => False) w0 u1) := HK.out.trans kk
      clear hc kk c0 x0 x1 x2
      have c0 := HL.out.c11 _ HK1.out
      rw [HN.out] at c0
      have x0 := (HC.out _ HK1.out).2.2.2
      have hc := fun W : World => hxs_calls x.bytes (by have := HO.out.n; omega) W
      rw [HS2.out] at hc
      go_wp2_with fail
      refine (hc _).mono ?_
      rintro en u2 ⟨rfl, kk⟩
      have HK2 : Hid (Kp (fun _ => False) w0 u2) := HK1.out.trans kk
      clear hc kk c0 x0
      go_wp2_with fail
      clear q0 q1 q2 q3
      go_roundw
      case rel =>
        refine ⟨i + 1, _, by omega, by go_num, rfl, ?_, HK2.out, ?_⟩
        · simp only [ByteArray.size_append]
          have l0 : (⟨#[10, 100, 97, 116, 97, 32]⟩ : ByteArray).size = 6 := rfl
          have l2 : (⟨#[32]⟩ : ByteArray).size = 1 := rfl
          omega
        · show _ = _
          rw [fold_take HX.out, ← HT.out]
          unfold row6
          rw [HS1.out, HS2.out]
      case measure => simp [intOf]; omega
    · have hin : i = n := by omega
      subst hin
      have hib : decide ((i : Int) < (i : Int)) = false := decide_eq_false (by omega)
      have hte : t = M.datas.foldl row6 s := by
        rw [HT.out, List.take_of_length_le (by rw [HN.out]; exact Nat.le_refl _)]
      subst hte
      go_wp2_with fail
      exact HE.out _ _ (.int .i64 (i : Int)) (by kernel_rfl) HK.out
end Go.Proofs.Qxb6500275aGreatDoor
