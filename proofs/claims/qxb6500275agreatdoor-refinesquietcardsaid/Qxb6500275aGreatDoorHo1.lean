import Derived.Test.Qxb6500275aGreatDoorHo0
set_option maxRecDepth 100000
set_option linter.unusedVariables false
set_option linter.unusedSimpArgs false
namespace Go.Proofs.Qxb6500275aGreatDoor
open Go Go.RowKit
section
variable {w w' : World} {b len cap : Nat} {D : Nat → Value}
theorem step_app {w1 : World} {b1 cap1 t : Nat} {n1 : List Value} (hb : b < w.heap.size) (hsm : len ≤ 100000) (ht : t ≤ 16) (h : Ap w w1 b len cap D n1 b1 cap1) (hn : n1.length = t) : ∀ x : Int, ∃ r : Nat × Nat × World, (Builtin.append_ #[104, 104] 104 #[.slice (some ⟨b1, 0, none⟩) (len + t) cap1, .slice (some ⟨w1.heap.size, 0, none⟩) 1 1]).run Tryz.prog (w1.alloc (.cells #[.int .u8 x] 5)) = .ok (.slice (some ⟨r.1, 0, none⟩) (len + t + 1) r.2.1) r.2.2 ∧ Ap w r.2.2 b len cap D (n1 ++ [.int .u8 x]) r.1 r.2.1 := fun x => by
  obtain ⟨D1, d1, d2, d3⟩ := h.blk
  have hc := h.capl
  obtain ⟨b', cap', w', h1, h2⟩ := app_u8 (w1.alloc (.cells #[.int .u8 x] 5)) 104 (d1.keep ((Kp.refl (fun _ => False) _).alloc _) (fun h => h)) hc ⟨w1.heap.size, 0, none⟩ 1 [.int .u8 x] (fun j u hu => by
    cases j with
    | zero =>
      simp at hu
      subst hu
      rw [add_non, World.cell?_alloc_at _ _ _ _ rfl]; rfl
    | succ j => simp at hu) (fun u hu => by simp at hu; subst hu; rfl) (by simp; omega)
  rw [hn] at h1
  exact ⟨⟨b', cap', w'⟩, h1, h.then hb ((Kp.refl _ _).alloc _) d2 d3 h2⟩
set_option maxHeartbeats 4000000 in
theorem hex16_calls (hB : Blk w b cap D) (hl : len ≤ cap) (hb : b < w.heap.size) (v : Nat) (hv : v < 18446744073709551616) (hsm : len ≤ 100000) : Calls Tryz.prog 108 #[.slice (some ⟨b, 0, none⟩) len cap, .int .u64 v] w (fun en w' => ∃ b' cap', en = .returned (.slice (some ⟨b', 0, none⟩) (len + 16) cap') ∧ Ap w w' b len cap D (hexC v 16) b' cap') := by
  have HA : Hid _ := Ap.refl hB hl
  clear hB
  go_enter Tryz.func108, Tryz.ntmps108
  go_wp2
  go_loopw [0, 5] (fun x k w1 => ∃ (t : Nat) (u : World) (b1 cap1 : Nat), u = w1 ∧ t ≤ 16 ∧ k = .int .i64 (60 - 4 * (t : Int)) ∧ x = .slice (some ⟨b1, 0, none⟩) (len + t) cap1 ∧ Hid (Ap w u b len cap D (hexC ((v / 16 ^ (16 - t) : Nat) : Int) t) b1 cap1)) (fun _ k _ => (intOf k + 4).toNat)
  case atStart => exact ⟨0, _, b, cap, rfl, by omega, rfl, rfl, HA.out⟩
  case round =>
    clear HA
    obtain ⟨t, w1, b1, cap1, e, ht, rfl, rfl, HA⟩ := hrel
    subst e
    by_cases hlt : t < 16
    · have h1 : (0 : Int) ≤ 60 - 4 * (t : Int) := by omega
      have hd : v / 16 ^ (15 - t) % 16 < 16 := Nat.mod_lt _ (by decide)
      have HS := hexS _ hd
      have hq : (0 : Int) ≤ (v : Int) / 2 ^ (60 - 4 * t) ∧ (v : Int) / 2 ^ (60 - 4 * t) < 18446744073709551616 := ⟨Int.ediv_nonneg (by omega) (Int.le_of_lt (Int.pow_pos (by decide))), Int.lt_of_le_of_lt (Int.ediv_le_self _ (by omega)) (by omega)⟩
      have h3 := and15 ((v : Int) / 2 ^ (60 - 4 * t)) hq
      have h4 : ((v : Int) / 2 ^ (60 - 4 * t)).toNat % 16 = v / 16 ^ (15 - t) % 16 := by
        have e1 : (2 : Nat) ^ (60 - 4 * t) = 16 ^ (15 - t) := by
          rw [show 60 - 4 * t = 4 * (15 - t) by omega, Nat.pow_mul]
        have e2 : ((v : Int) / 2 ^ (60 - 4 * t)) = ((v / 2 ^ (60 - 4 * t) : Nat) : Int) := by simp
        rw [e2, Int.toNat_natCast, e1]
      rw [h4] at h3
      clear h4 hq
      have HN : Hid (hexC ((v / 16 ^ (15 - t) : Nat) : Int) (t + 1) = _) := hexC_snoc v t hlt
      generalize v / 16 ^ (15 - t) % 16 = d at h3 hd HS HN
      have hap := step_app hb hsm ht HA.out (hexC_len _ _)
      obtain ⟨f, hf⟩ := Classical.axiomOfChoice hap
      have hf1 := fun x => (hf x).1
      have HF : Hid _ := fun x => (hf x).2
      clear hap hf
      go_wp2_with (at_builtin; refine wpList_app rfl _ _ 104 rfl (hf1 _) ?_)
      go_roundw
      case rel =>
        refine ⟨t + 1, _, _, _, rfl, by omega, by go_num, by rfl, ?_⟩
        show Ap w _ b len cap D (hexC ((v / 16 ^ (16 - (t + 1)) : Nat) : Int) (t + 1)) _ _
        rw [show 16 - (t + 1) = 15 - t by omega, HN.out, ← HS, ← hexStr_get d hd]
        exact HF.out _
      case measure => simp [intOf]; omega
    · have e : t = 16 := by omega
      subst e
      go_wp2
      refine bodyPost_ret (v := .slice (some ⟨b1, 0, none⟩) (len + 16) cap1) (by simp [results, Tryz.results108, go_sem]) rfl ?_
      refine ⟨b1, cap1, rfl, ?_⟩
      have := HA.out
      simpa using this
end
end Go.Proofs.Qxb6500275aGreatDoor
