import Derived.Test.Qxb6500275aGreatDoorSh2
set_option maxRecDepth 100000
set_option linter.unusedVariables false
set_option linter.unusedSimpArgs false
namespace Go.Proofs.Qxb6500275aGreatDoor
open Go Go.RowKit
set_option maxHeartbeats 8000000 in
theorem show_l4 {w0 w1 : World} {mb : Nat} {M : Mod} {ta ia fa ga xa ea da : Option Addr} {s : ByteArray} {tmps : Array Value} {Q : Exit → Act → World → Prop} (hM : ModOk M) (hl : Ml w0 (fun _ => False) mb M ta ia fa ga xa ea da) (hk : Kp (fun _ => False) w0 w1) (hs : s.size ≤ 31000)
    (ht : tmps = fr25_4 (.pointer (some ⟨mb, 0, none⟩)) (.string s) (.int .i64 0) (fun j => tmps.getD j undef))
    (hE : ∀ tmps' w' ii, tmps' = fr25_4 (.pointer (some ⟨mb, 0, none⟩)) (.string (M.exports.foldl row4 s)) ii (fun j => tmps'.getD j undef) → Kp (fun _ => False) w0 w' → Q (.exit 8) ⟨tmps', []⟩ w') :
    Code.wp Tryz.prog (.loop ((((Tryz.f25.body.map loopsOf).getD [])[4]?).getD .skip)) Q ⟨tmps, []⟩ w1 := by
  have HM : Hid (ModOk M) := hM
  have HL : Hid (Ml w0 (fun _ => False) mb M ta ia fa ga xa ea da) := hl
  have HK0 : Hid (Kp (fun _ => False) w0 w1) := hk
  have HE : Hid (∀ tmps' w' ii, tmps' = fr25_4 (.pointer (some ⟨mb, 0, none⟩)) (.string (M.exports.foldl row4 s)) ii (fun j => tmps'.getD j undef) → Kp (fun _ => False) w0 w' → Q (.exit 8) ⟨tmps', []⟩ w') := hE
  obtain ⟨n, hn⟩ : ∃ n, M.exports.length = n := ⟨_, rfl⟩
  have HN : Hid (M.exports.length = n) := hn
  have k1 : n ≤ 6 := hn ▸ hM.ne
  clear hM hl hk hE hn
  generalize (fun j => tmps.getD j undef) = u at ht
  subst ht
  unfold fr25_4
  dsimp only
  conv => arg 2; arg 1; whnf
  go_loopw [3, 24] (fun xs ii u1 => ∃ (i : Nat) (t : ByteArray), i ≤ n ∧ ii = .int .i64 i ∧ xs = .string t ∧ t.size ≤ 31000 + 47 * i ∧ Hid (Kp (fun _ => False) w0 u1) ∧ Hid (t = (M.exports.take i).foldl row4 s)) (fun _ ii _ => n + 1 - (intOf ii).toNat)
  case atStart => exact ⟨0, s, by omega, rfl, rfl, by omega, HK0.out, rfl⟩
  case round =>
    clear HK0
    obtain ⟨i, t, hi, rfl, rfl, hts, HK, HT⟩ := hrel
    have c0 := HL.out.c8 _ HK.out
    rw [HN.out] at c0
    by_cases hlt : i < n
    · obtain ⟨x, hx⟩ : ∃ x, M.exports[i]? = some x := ⟨_, List.getElem?_eq_getElem (by rw [HN.out]; exact hlt)⟩
      obtain ⟨k, rfl, ct⟩ := HL.out.xat i x hx
      have HC : Hid (∀ u, Kp (fun _ => False) w0 u → u.cell? ⟨k, i * 3, none⟩ = some (.string x.name) ∧ u.cell? ⟨k, i * 3 + 1, none⟩ = some (.int .u8 x.kind) ∧ u.cell? ⟨k, i * 3 + 2, none⟩ = some (.int .u32 x.idx)) := ct
      have HO : Hid (ExpOk x) := HM.out.exports x (List.mem_of_getElem? hx)
      have HX : Hid (M.exports[i]? = some x) := hx
      have hib : (i : Int) < (n : Int) := by omega
      clear hx ct
      obtain ⟨S1, hS1⟩ : ∃ S, hxS x.name = S := ⟨_, rfl⟩
      have HS1 : Hid (hxS x.name = S1) := hS1
      have z1 : S1.size ≤ 16 := hS1 ▸ (by rw [hxS_size]; have := HO.out.name; omega)
      clear hS1
      obtain ⟨S2, hS2⟩ : ∃ S, itS (x.kind : Int) = S := ⟨_, rfl⟩
      have HS2 : Hid (itS (x.kind : Int) = S2) := hS2
      have z2 : S2.size ≤ 20 := hS2 ▸ (itS_size _)
      clear hS2
      obtain ⟨S3, hS3⟩ : ∃ S, hxN x.idx 8 = S := ⟨_, rfl⟩
      have HS3 : Hid (hxN x.idx 8 = S3) := hS3
      have z3 : S3.size ≤ 8 := hS3 ▸ (Nat.le_of_eq (hxN_size _ _))
      clear hS3
      have q0 : ¬ 9223372036854775807 < t.size + 1 := by omega
      have q1 : ¬ 9223372036854775807 < t.size + 1 + S1.size := by omega
      have q2 : ¬ 9223372036854775807 < t.size + 1 + S1.size + 1 := by omega
      have q3 : ¬ 9223372036854775807 < t.size + 1 + S1.size + 1 + S2.size := by omega
      have q4 : ¬ 9223372036854775807 < t.size + 1 + S1.size + 1 + S2.size + 1 := by omega
      have q5 : ¬ 9223372036854775807 < t.size + 1 + S1.size + 1 + S2.size + 1 + S3.size := by omega
      obtain ⟨d0, d1, d2⟩ := HC.out _ HK.out
      have hkd : x.kind < 256 := by have := HO.out.kind; omega
      obtain ⟨ix, hix⟩ : ∃ ix : Nat, x.idx = ix := ⟨x.idx.toNat, by have := HO.out.idx; unfold u32R at this; omega⟩
      have hix2 : ix < 4294967296 := by have := HO.out.idx; unfold u32R at this; omega
      have hb := blk_alloc wr #[.string x.name, .int .u8 x.kind, .int .u32 x.idx] 134
      have HW1 : Hid (Kp (fun _ => False) w0 (wr.alloc (.cells #[.string x.name, .int .u8 x.kind, .int .u32 x.idx] 134))) := HK.out.alloc _
      have HBB : Hid (∀ W, Kp (fun _ => False) (wr.alloc (.cells #[.string x.name, .int .u8 x.kind, .int .u32 x.idx] 134)) W → W.cell? ⟨wr.heap.size, 0, none⟩ = some (.string x.name) ∧ W.cell? ⟨wr.heap.size, 1, none⟩ = some (.int .u8 x.kind) ∧ W.cell? ⟨wr.heap.size, 2, none⟩ = some (.int .u32 x.idx)) := fun W hk => by
        have h := hb.keep hk (fun e => e)
        exact ⟨h.cell (i := 0) (by simp), h.cell (i := 1) (by simp), h.cell (i := 2) (by simp)⟩
      have HIX : Hid (x.idx = (ix : Int)) := hix
      have hc := fun W : World => hxs_calls x.name (by have := HO.out.name; omega) W
      rw [HS1.out] at hc
      have y0 := (HBB.out _ (Kp.refl _ _)).1
      clear hb hix
      go_wp2_with fail
      refine (hc _).mono ?_
      rintro en u1 ⟨rfl, kk⟩
      have HW2 : Hid (Kp (fun _ => False) (wr.alloc (.cells #[.string x.name, .int .u8 x.kind, .int .u32 x.idx] 134)) u1) := kk
      have y1 := (HBB.out _ kk).2.1
      clear hc kk d0 d1 d2 y0 c0
      have hc := fun W : World => its_calls (x.kind : Int) (by omega) W
      rw [HS2.out] at hc
      go_wp2_with fail
      refine (hc _).mono ?_
      rintro en u2 ⟨rfl, kk⟩
      have HW3 : Hid (Kp (fun _ => False) (wr.alloc (.cells #[.string x.name, .int .u8 x.kind, .int .u32 x.idx] 134)) u2) := HW2.out.trans kk
      have y2 := (HBB.out _ HW3.out).2.2
      rw [HIX.out] at y2
      clear hc kk y1
      have hc := fun W : World => hxn_calls (ix : Int) 8 (by omega) (by decide) W
      rw [← HIX.out, HS3.out, HIX.out] at hc
      go_wp2_with fail
      refine (hc _).mono ?_
      rintro en u3 ⟨rfl, kk⟩
      have HKE : Hid (Kp (fun _ => False) w0 u3) := (HW1.out.trans HW3.out).trans kk
      clear hc kk y2
      go_wp2_with fail
      clear q0 q1 q2 q3 q4 q5
      go_roundw
      case rel =>
        refine ⟨i + 1, _, by omega, by go_num, rfl, ?_, HKE.out, ?_⟩
        · simp only [ByteArray.size_append]
          have l0 : (⟨#[32]⟩ : ByteArray).size = 1 := rfl
          have l2 : (⟨#[46]⟩ : ByteArray).size = 1 := rfl
          have l4 : (⟨#[46]⟩ : ByteArray).size = 1 := rfl
          omega
        · show _ = _
          rw [fold_take HX.out, ← HT.out]
          unfold row4
          rw [HS1.out, HS2.out, HS3.out]
      case measure => simp [intOf]; omega
    · have hin : i = n := by omega
      subst hin
      have hib : decide ((i : Int) < (i : Int)) = false := decide_eq_false (by omega)
      have hte : t = M.exports.foldl row4 s := by
        rw [HT.out, List.take_of_length_le (by rw [HN.out]; exact Nat.le_refl _)]
      subst hte
      go_wp2_with fail
      exact HE.out _ _ (.int .i64 (i : Int)) (by kernel_rfl) HK.out
end Go.Proofs.Qxb6500275aGreatDoor
