import Derived.Test.Qxb6500275aGreatDoorXp2
import Derived.Test.Qxb6500275aGreatDoorVb1
import Derived.Test.Qxb6500275aGreatDoorDec1
import Derived.Deep.RegionWith
import Derived.Deep.QuietTactic
import Derived.BigQuiet
set_option maxRecDepth 1000000
set_option linter.unusedVariables false
set_option linter.unusedSimpArgs false
namespace Go.Proofs.Qxb6500275aGreatDoor
open Go Go.RowKit
def sigV (t : Ty) : Value := .agg #[.int .u8 (t.p.size : Nat), .int .u8 (pAt t.p 0 : Nat), .int .u8 (pAt t.p 1 : Nat), .int .u8 (pAt t.p 2 : Nat), .int .u8 (pAt t.p 3 : Nat), .int .u8 (resT t : Nat)]
/- amid pack: i parameters laid -/
def pkF (p : ByteArray) (i k : Nat) : Value := if 1 ≤ k ∧ k ≤ i then .int .u8 (pAt p (k - 1) : Nat) else .int .u8 0
structure Pk (w w1 : World) (n i : Nat) (p : ByteArray) : Prop where
  kp : Kp (fun _ => False) w w1
  hn : w.heap.size ≤ n
  r : ∃ D, Blk w1 n 6 D
  g : Blk w1 (n + 1) 6 (pkF p i)
theorem Pk.next {w w1 : World} {n i : Nat} {p : ByteArray} (h : Pk w w1 n i p) (hi : i < 4) (hp : i < p.size) : Pk w (w1.setCell ⟨n + 1, 1 + i, none⟩ (.int .u8 (bAt p i : Nat))) n (i + 1) p := by
  obtain ⟨D, hD⟩ := h.r
  have hn := h.hn
  refine ⟨h.kp.setCell (.inr (by dsimp only; omega)) _, h.hn, ⟨D, hD.other (by omega) _⟩, fun k hk => ?_⟩
  have h2 := h.g.set (i := 1 + i) (by omega) (.int .u8 (bAt p i : Nat)) k hk
  refine ⟨h2.1.trans ?_, h2.2⟩
  unfold upd
  split
  · rename_i e
    subst e
    unfold pkF
    rw [if_pos (by omega)]
    unfold pAt
    rw [if_pos (by omega), show 1 + i - 1 = i by omega]
  · unfold pkF
    by_cases h1 : 1 ≤ k ∧ k ≤ i
    · rw [if_pos h1, if_pos (by omega)]
    · rw [if_neg h1, if_neg (by omega)]
abbrev O90 : Array Value := #[.int .u8 0, .int .u8 0, .int .u8 0, .int .u8 0, .int .u8 0, .int .u8 0]
theorem Pk.start (w : World) (m : Nat) (p : ByteArray) : Pk w (((w.alloc (.cells O90 90)).alloc (.cells O90 90)).drewN m) w.heap.size 0 p := by
  have hk : Kp (fun _ => False) (w.alloc (.cells O90 90)) ((w.alloc (.cells O90 90)).alloc (.cells O90 90)) := (Kp.refl _ _).alloc _
  have e : (w.alloc (.cells O90 90)).heap.size = w.heap.size + 1 := World.size_alloc _ _
  refine ⟨⟨rfl, rfl, rfl, ?_, ?_⟩, Nat.le_refl _, ⟨_, ((blk_alloc w O90 90).keep (S := fun _ => False) (w' := ((w.alloc (.cells O90 90)).alloc (.cells O90 90)).drewN m) ⟨rfl, rfl, rfl, hk.size, hk.block⟩ (fun h => h))⟩, fun k hk => ?_⟩
  · exact (((Kp.refl (fun _ => False) w).alloc (.cells O90 90)).alloc (.cells O90 90)).size
  · exact (((Kp.refl (fun _ => False) w).alloc (.cells O90 90)).alloc (.cells O90 90)).block
  · have h2 := blk_alloc (w.alloc (.cells O90 90)) O90 90 k hk
    rw [e] at h2
    refine ⟨h2.1.trans ?_, h2.2⟩
    unfold pkF
    rw [if_neg (by omega)]
    have : k = 0 ∨ k = 1 ∨ k = 2 ∨ k = 3 ∨ k = 4 ∨ k = 5 := by omega
    rcases this with rfl | rfl | rfl | rfl | rfl | rfl <;> rfl
set_option maxHeartbeats 4000000 in
theorem sig_calls (t : Ty) (htk : TyOk t) (w : World) : Calls Tryz.prog 96 #[.string t.text] w (fun en w' => en = .returned (sigV t) ∧ Kp (fun _ => False) w w') := by
  obtain ⟨np, hnp⟩ : ∃ np, t.p.size = np := ⟨_, rfl⟩
  obtain ⟨nq, hnq⟩ : ∃ nq, t.q.size = nq := ⟨_, rfl⟩
  have h4 := htk.np
  have h1 := htk.nq
  rw [hnp] at h4
  rw [hnq] at h1
  have hsq := fun (w : World) => split_quiet (w := w) t htk.p htk.np htk.nq
  have HSQ : Hid _ := hsq
  clear hsq
  go_enter Tryz.func96, Tryz.ntmps96
  go_wp2_with fail
  refine (HSQ.out _).mono ?_
  rintro e w' ⟨rfl, m, rfl⟩
  go_wp2_with fail
  have HP : Hid _ := Pk.start w m t.p
  generalize (((w.alloc (.cells O90 90)).alloc (.cells O90 90)).drewN m) = W at HP ⊢
  obtain ⟨n, hn⟩ : ∃ n, w.heap.size = n := ⟨_, rfl⟩
  rw [hn] at HP ⊢
  clear HSQ
  go_loopw [6] (fun ii w1 => ∃ (i : Nat) (u : World), u = w1 ∧ i ≤ np ∧ ii = .int .i64 i ∧ Hid (Pk w u n i t.p)) (fun ii _ => np + 1 - (intOf ii).toNat)
  case atStart => exact ⟨0, _, rfl, by omega, rfl, HP.out⟩
  case round =>
    clear HP
    obtain ⟨i, w1, e, hi, rfl, HP⟩ := hrel
    subst e
    by_cases hlt : i < np
    · have hlt' : (i : Int) < (np : Int) := by omega
      have hi4 : (i : Int) < 4 := by omega
      have c1 := HP.out.g.cell (i := 1 + i) (by omega)
      have g1 := HP.out.g.fz (i := 1 + i) (by omega)
      have hw1 : wrap64 (1 + (i : Int)) = ((1 + i : Nat) : Int) := by unfold wrap64; omega
      have hw2 : ((1 + i : Nat) : Int) < 6 := by omega
      go_wp2_with fail
      go_roundw
      case rel =>
        refine ⟨i + 1, _, rfl, by omega, rfl, ?_⟩
        rw [bAt_get t.p i (by omega)]
        exact HP.out.next (by omega) (by omega)
      case measure => simp [intOf]; omega
    · have hie : i = np := by omega
      subst hie
      obtain ⟨D, hD⟩ := HP.out.r
      have a0 := hD.cell (i := 0) (by decide)
      have a1 := hD.cell (i := 1) (by decide)
      have a2 := hD.cell (i := 2) (by decide)
      have a3 := hD.cell (i := 3) (by decide)
      have a4 := hD.cell (i := 4) (by decide)
      have a5 := hD.cell (i := 5) (by decide)
      have f0 := hD.fz (i := 0) (by decide)
      have f1 := hD.fz (i := 1) (by decide)
      have f2 := hD.fz (i := 2) (by decide)
      have f3 := hD.fz (i := 3) (by decide)
      have f4 := hD.fz (i := 4) (by decide)
      have f5 := hD.fz (i := 5) (by decide)
      have pv : ∀ k, k < 4 → pkF t.p i (1 + k) = .int .u8 (pAt t.p k : Nat) := fun k hk => by
        unfold pkF
        by_cases h : k < i
        · rw [if_pos (by omega), show 1 + k - 1 = k by omega]
        · rw [if_neg (by omega)]
          unfold pAt
          rw [if_neg (by omega)]
          rfl
      have p0 := HP.out.g.cell (i := 0) (by decide)
      have p1 := HP.out.g.cell (i := 1) (by decide)
      have p2 := HP.out.g.cell (i := 2) (by decide)
      have p3 := HP.out.g.cell (i := 3) (by decide)
      have p4 := HP.out.g.cell (i := 4) (by decide)
      have p5 := HP.out.g.cell (i := 5) (by decide)
      have e5 : pkF t.p i 5 = .int .u8 0 := if_neg (by omega)
      rw [pv 0 (by decide)] at p1
      rw [pv 1 (by decide)] at p2
      rw [pv 2 (by decide)] at p3
      rw [pv 3 (by decide)] at p4
      rw [e5] at p5
      have s0 := HP.out.g.fz (i := 0) (by decide)
      have s5 := HP.out.g.fz (i := 5) (by decide)
      have HK : Hid _ := HP.out.kp
      have HN : Hid _ := HP.out.hn
      have hwi : IntKind.u8.wrap (i : Int) = (i : Int) := by simp [IntKind.wrap, IntKind.bits, IntKind.signed]; omega
      have hpv : sigV t = .agg #[.int .u8 (i : Int), .int .u8 (pAt t.p 0 : Nat), .int .u8 (pAt t.p 1 : Nat), .int .u8 (pAt t.p 2 : Nat), .int .u8 (pAt t.p 3 : Nat), .int .u8 (resT t : Nat)] := by unfold sigV; rw [hnp]
      have HPV : Hid _ := hpv
      generalize pAt t.p 0 = y1 at p1 HPV
      generalize pAt t.p 1 = y2 at p2 HPV
      generalize pAt t.p 2 = y3 at p3 HPV
      generalize pAt t.p 3 = y4 at p4 HPV
      clear hpv HP hD pv e5 hlt
      rcases (by omega : nq = 0 ∨ nq = 1) with h0 | h0
      · subst h0
        have hrt : resT t = 0 := by unfold resT; rw [if_pos hnq]
        rw [hrt] at HPV
        go_wp2_with fail
        refine bodyPost_ret (v := sigV t) (by rw [HPV.out]; simp [results, Tryz.results96, go_sem, a0, a1, a2, a3, a4, a5]) rfl ?_
        exact ⟨rfl, (((((((HK.out.setCell (p := ⟨n + 1, 0, none⟩) (.inr (by have := HN.out; dsimp only; omega)) _).setCell (p := ⟨n, 0, none⟩) (.inr (by have := HN.out; dsimp only; omega)) _).setCell (p := ⟨n, 1, none⟩) (.inr (by have := HN.out; dsimp only; omega)) _).setCell (p := ⟨n, 2, none⟩) (.inr (by have := HN.out; dsimp only; omega)) _).setCell (p := ⟨n, 3, none⟩) (.inr (by have := HN.out; dsimp only; omega)) _).setCell (p := ⟨n, 4, none⟩) (.inr (by have := HN.out; dsimp only; omega)) _).setCell (p := ⟨n, 5, none⟩) (.inr (by have := HN.out; dsimp only; omega)) _)⟩
      · subst h0
        have hrt : resT t = bAt t.q 0 := by unfold resT; rw [if_neg (by omega)]
        rw [hrt] at HPV
        have hb := bAt_get t.q 0 (by omega)
        go_wp2_with fail
        refine bodyPost_ret (v := sigV t) (by rw [HPV.out]; simp [results, Tryz.results96, go_sem, a0, a1, a2, a3, a4, a5]) rfl ?_
        exact ⟨rfl, ((((((((HK.out.setCell (p := ⟨n + 1, 0, none⟩) (.inr (by have := HN.out; dsimp only; omega)) _).setCell (p := ⟨n + 1, 5, none⟩) (.inr (by have := HN.out; dsimp only; omega)) _).setCell (p := ⟨n, 0, none⟩) (.inr (by have := HN.out; dsimp only; omega)) _).setCell (p := ⟨n, 1, none⟩) (.inr (by have := HN.out; dsimp only; omega)) _).setCell (p := ⟨n, 2, none⟩) (.inr (by have := HN.out; dsimp only; omega)) _).setCell (p := ⟨n, 3, none⟩) (.inr (by have := HN.out; dsimp only; omega)) _).setCell (p := ⟨n, 4, none⟩) (.inr (by have := HN.out; dsimp only; omega)) _).setCell (p := ⟨n, 5, none⟩) (.inr (by have := HN.out; dsimp only; omega)) _)⟩
end Go.Proofs.Qxb6500275aGreatDoor
