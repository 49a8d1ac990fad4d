import Derived.Test.Qxb6500275aGreatDoorSh2
set_option maxRecDepth 100000
set_option linter.unusedVariables false
set_option linter.unusedSimpArgs false
namespace Go.Proofs.Qxb6500275aGreatDoor
open Go Go.RowKit
set_option maxHeartbeats 8000000 in
theorem show_l3 {w0 w1 : World} {mb : Nat} {M : Mod} {ta ia fa ga xa ea da : Option Addr} {s : ByteArray} {tmps : Array Value} {Q : Exit → Act → World → Prop} (hM : ModOk M) (hl : Ml w0 (fun _ => False) mb M ta ia fa ga xa ea da) (hk : Kp (fun _ => False) w0 w1) (hs : s.size ≤ 30000)
    (ht : tmps = fr25_3 (.pointer (some ⟨mb, 0, none⟩)) (.string s) (.int .i64 0) (fun j => tmps.getD j undef))
    (hE : ∀ tmps' w' ii, tmps' = fr25_3 (.pointer (some ⟨mb, 0, none⟩)) (.string (M.globals.foldl row3 s)) ii (fun j => tmps'.getD j undef) → Kp (fun _ => False) w0 w' → Q (.exit 6) ⟨tmps', []⟩ w') :
    Code.wp Tryz.prog (.loop ((((Tryz.f25.body.map loopsOf).getD [])[3]?).getD .skip)) Q ⟨tmps, []⟩ w1 := by
  have HM : Hid (ModOk M) := hM
  have HL : Hid (Ml w0 (fun _ => False) mb M ta ia fa ga xa ea da) := hl
  have HK0 : Hid (Kp (fun _ => False) w0 w1) := hk
  have HE : Hid (∀ tmps' w' ii, tmps' = fr25_3 (.pointer (some ⟨mb, 0, none⟩)) (.string (M.globals.foldl row3 s)) ii (fun j => tmps'.getD j undef) → Kp (fun _ => False) w0 w' → Q (.exit 6) ⟨tmps', []⟩ w') := hE
  obtain ⟨n, hn⟩ : ∃ n, M.globals.length = n := ⟨_, rfl⟩
  have HN : Hid (M.globals.length = n) := hn
  have k1 : n ≤ 4 := hn ▸ hM.ng
  clear hM hl hk hE hn
  generalize (fun j => tmps.getD j undef) = u at ht
  subst ht
  unfold fr25_3
  dsimp only
  conv => arg 2; arg 1; whnf
  go_loopw [3, 20] (fun xs ii u1 => ∃ (i : Nat) (t : ByteArray), i ≤ n ∧ ii = .int .i64 i ∧ xs = .string t ∧ t.size ≤ 30000 + 33 * i ∧ Hid (Kp (fun _ => False) w0 u1) ∧ Hid (t = (M.globals.take i).foldl row3 s)) (fun _ ii _ => n + 1 - (intOf ii).toNat)
  case atStart => exact ⟨0, s, by omega, rfl, rfl, by omega, HK0.out, rfl⟩
  case round =>
    clear HK0
    obtain ⟨i, t, hi, rfl, rfl, hts, HK, HT⟩ := hrel
    have c0 := HL.out.c7 _ HK.out
    rw [HN.out] at c0
    by_cases hlt : i < n
    · obtain ⟨x, hx⟩ : ∃ x, M.globals[i]? = some x := ⟨_, List.getElem?_eq_getElem (by rw [HN.out]; exact hlt)⟩
      obtain ⟨k, rfl, ct⟩ := HL.out.gat i x hx
      have HC : Hid (∀ u, Kp (fun _ => False) w0 u → u.cell? ⟨k, i * 5, none⟩ = some (.int .u8 x.ty) ∧ u.cell? ⟨k, i * 5 + 1, none⟩ = some (.bool x.mu) ∧ u.cell? ⟨k, i * 5 + 2, none⟩ = some (.int .u8 x.init.op) ∧ u.cell? ⟨k, i * 5 + 3, none⟩ = some (.int .u32 x.init.x) ∧ u.cell? ⟨k, i * 5 + 4, none⟩ = some (.int .u64 x.init.y)) := ct
      have HO : Hid (GlobOk x) := HM.out.globals x (List.mem_of_getElem? hx)
      have HX : Hid (M.globals[i]? = some x) := hx
      have hib : (i : Int) < (n : Int) := by omega
      clear hx ct
      obtain ⟨S1, hS1⟩ : ∃ S, gTy x = S := ⟨_, rfl⟩
      have HS1 : Hid (gTy x = S1) := hS1
      have z1 : S1.size ≤ 3 := hS1 ▸ (gTy_size x)
      clear hS1
      obtain ⟨S2, hS2⟩ : ∃ S, insS x.init = S := ⟨_, rfl⟩
      have HS2 : Hid (insS x.init = S2) := hS2
      have z2 : S2.size ≤ 28 := hS2 ▸ (Nat.le_of_eq (insS_size _))
      clear hS2
      have q0 : ¬ 9223372036854775807 < t.size + 1 := by omega
      have q1 : ¬ 9223372036854775807 < t.size + 1 + S1.size := by omega
      have q2 : ¬ 9223372036854775807 < t.size + 1 + S1.size + 1 := by omega
      have q3 : ¬ 9223372036854775807 < t.size + 1 + S1.size + 1 + S2.size := by omega
      clear q0 q1 q2 q3 z1
      obtain ⟨d0, d1, d2, d3, d4⟩ := HC.out _ HK.out
      have hg8 : x.ty < 256 := by have := HO.out.ty; unfold isVal at this; omega
      have hb := blk_alloc wr #[.int .u8 x.ty, .bool x.mu, .int .u8 x.init.op, .int .u32 x.init.x, .int .u64 x.init.y] 131
      have HW1 : Hid (Kp (fun _ => False) w0 (wr.alloc (.cells #[.int .u8 x.ty, .bool x.mu, .int .u8 x.init.op, .int .u32 x.init.x, .int .u64 x.init.y] 131))) := HK.out.alloc _
      have HBB : Hid (∀ W, Kp (fun _ => False) (wr.alloc (.cells #[.int .u8 x.ty, .bool x.mu, .int .u8 x.init.op, .int .u32 x.init.x, .int .u64 x.init.y] 131)) W → W.cell? ⟨wr.heap.size, 0, none⟩ = some (.int .u8 x.ty) ∧ W.cell? ⟨wr.heap.size, 1, none⟩ = some (.bool x.mu) ∧ W.cell? ⟨wr.heap.size, 2, none⟩ = some (.int .u8 x.init.op) ∧ W.cell? ⟨wr.heap.size, 3, none⟩ = some (.int .u32 x.init.x) ∧ W.cell? ⟨wr.heap.size, 4, none⟩ = some (.int .u64 x.init.y)) := fun W hk => by
        have h := hb.keep hk (fun e => e)
        exact ⟨h.cell (i := 0) (by simp), h.cell (i := 1) (by simp), h.cell (i := 2) (by simp), h.cell (i := 3) (by simp), h.cell (i := 4) (by simp)⟩
      obtain ⟨A, hA⟩ : ∃ A, hxN (x.ty : Int) 2 = A := ⟨_, rfl⟩
      have HA : Hid (hxN (x.ty : Int) 2 = A) := hA
      have zA : A.size = 2 := hA ▸ hxN_size _ _
      have hc := fun W : World => hxn_calls (x.ty : Int) 2 (by omega) (by decide) W
      rw [HA.out] at hc
      have y0 := (HBB.out _ (Kp.refl _ _)).1
      clear hb hA
      go_wp2_with fail
      refine (hc _).mono ?_
      rintro en u1 ⟨rfl, kk⟩
      have HW2 : Hid (Kp (fun _ => False) (wr.alloc (.cells #[.int .u8 x.ty, .bool x.mu, .int .u8 x.init.op, .int .u32 x.init.x, .int .u64 x.init.y] 131)) u1) := kk
      have y := HBB.out _ kk
      obtain ⟨_, _, y2, y3, y4⟩ := y
      clear hc kk d0 d1 d2 d3 d4 y0 c0
      have hc := fun W : World => ishow_calls x.init (by have := HO.out.init.op; omega) HO.out.init.ok.x HO.out.init.ok.y W
      unfold Ins.val at hc
      rw [HS2.out] at hc
      go_wp2_with fail
      refine (hc _).mono ?_
      rintro en u2 ⟨rfl, kk⟩
      have HW3 : Hid (Kp (fun _ => False) (wr.alloc (.cells #[.int .u8 x.ty, .bool x.mu, .int .u8 x.init.op, .int .u32 x.init.x, .int .u64 x.init.y] 131)) u2) := HW2.out.trans kk
      have y1 := (HBB.out _ HW3.out).2.1
      have HKE : Hid (Kp (fun _ => False) w0 u2) := HW1.out.trans HW3.out
      clear hc kk y2 y3 y4
      rcases Bool.eq_false_or_eq_true x.mu with hmu | hmu
      · have HG : Hid (gTy x = A ++ ⟨#[33]⟩) := by
          show _ = _
          unfold gTy
          rw [if_pos hmu, HA.out]
        rw [hmu] at y1
        have q0 : ¬ 9223372036854775807 < t.size + 1 := by omega
        have q1 : ¬ 9223372036854775807 < t.size + 1 + (A.size + 1) := by omega
        have q2 : ¬ 9223372036854775807 < t.size + 1 + (A.size + 1) + 1 := by omega
        have q3 : ¬ 9223372036854775807 < t.size + 1 + (A.size + 1) + 1 + S2.size := by omega
        have q4 : ¬ 9223372036854775807 < A.size + 1 := by omega
        clear hmu
        go_wp2_with fail
        clear q0 q1 q2 q3 q4
        go_roundw
        case rel =>
          refine ⟨i + 1, _, by omega, by go_num, rfl, ?_, HKE.out, ?_⟩
          · simp only [ByteArray.size_append]
            have l0 : (⟨#[32]⟩ : ByteArray).size = 1 := rfl
            have l2 : (⟨#[61]⟩ : ByteArray).size = 1 := rfl
            have l3 : (⟨#[33]⟩ : ByteArray).size = 1 := rfl
            omega
          · show _ = _
            rw [fold_take HX.out, ← HT.out]
            unfold row3
            rw [HG.out, HS2.out]
        case measure => simp [intOf]; omega
      · have HG : Hid (gTy x = A) := by
          show _ = _
          unfold gTy
          rw [if_neg (by rw [hmu]; simp), HA.out]
        rw [hmu] at y1
        have q0 : ¬ 9223372036854775807 < t.size + 1 := by omega
        have q1 : ¬ 9223372036854775807 < t.size + 1 + A.size := by omega
        have q2 : ¬ 9223372036854775807 < t.size + 1 + A.size + 1 := by omega
        have q3 : ¬ 9223372036854775807 < t.size + 1 + A.size + 1 + S2.size := by omega
        have q4 : ¬ 9223372036854775807 < A.size + 1 := by omega
        clear hmu
        go_wp2_with fail
        clear q0 q1 q2 q3 q4
        go_roundw
        case rel =>
          refine ⟨i + 1, _, by omega, by go_num, rfl, ?_, HKE.out, ?_⟩
          · simp only [ByteArray.size_append]
            have l0 : (⟨#[32]⟩ : ByteArray).size = 1 := rfl
            have l2 : (⟨#[61]⟩ : ByteArray).size = 1 := rfl
            have l3 : (⟨#[33]⟩ : ByteArray).size = 1 := rfl
            omega
          · show _ = _
            rw [fold_take HX.out, ← HT.out]
            unfold row3
            rw [HG.out, HS2.out]
        case measure => simp [intOf]; omega
    · have hin : i = n := by omega
      subst hin
      have hib : decide ((i : Int) < (i : Int)) = false := decide_eq_false (by omega)
      have hte : t = M.globals.foldl row3 s := by
        rw [HT.out, List.take_of_length_le (by rw [HN.out]; exact Nat.le_refl _)]
      subst hte
      go_wp2_with fail
      exact HE.out _ _ (.int .i64 (i : Int)) (by kernel_rfl) HK.out
end Go.Proofs.Qxb6500275aGreatDoor
