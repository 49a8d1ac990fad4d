import Derived.Test.Qxb6500275aGreatDoorMe5
import Derived.Lib.SliceRun
set_option maxRecDepth 100000
set_option linter.unusedVariables false
set_option linter.unusedSimpArgs false
namespace Go.Proofs.Qxb6500275aGreatDoor
open Go Go.RowKit
theorem blk_rep {b n : Nat} {z : Value} : ∀ (k o : Nat) (w : World) (D : Nat → Value), Blk w b n D → o + k ≤ n → Blk (w.setCells b o (List.replicate k z)) b n (fun i => if o ≤ i ∧ i < o + k then z else D i)
  | 0, o, w, D, h, hk => fun i hi => by
    dsimp only
    rw [if_neg (by omega)]
    exact h i hi
  | k + 1, o, w, D, h, hk => fun i hi => by
    have := blk_rep (z := z) k (o + 1) (w.setCell ⟨b, o, none⟩ z) (upd D o z) (h.set (by omega) z) (by omega) i hi
    refine ⟨Eq.trans this.1 ?_, this.2⟩
    dsimp only
    by_cases e : i = o
    · subst e
      rw [if_neg (by omega), if_pos (by omega), upd_same]
    · rw [upd_ne _ _ e]
      by_cases e2 : o + 1 ≤ i ∧ i < o + 1 + k
      · rw [if_pos e2, if_pos (by omega)]
      · rw [if_neg e2, if_neg (by omega)]
theorem z5 (w : World) : (zeroValue 5).run Tryz.prog w = .ok (.int .u8 0) w := by kernel_rfl
theorem clear_u8 (W : World) {b n : Nat} {D : Nat → Value} (hB : Blk W b n D) (o k c : Nat) (hk : 0 < k) (ho : o + k ≤ n) (ty : TypeId) : (Builtin.clear_ #[104] ty #[.slice (some ⟨b, o, none⟩) k c]).run Tryz.prog W = .ok (.tuple #[]) (W.setCells b o (List.replicate k (.int .u8 0))) :=
  Go.Lib.run_clear_slice W 104 5 ty (.int .u8 0) (by kernel_rfl) z5 rfl rfl b o k c hk (fun j hj => by rw [hB.cell (by omega)]; rfl) (fun j hj => hB.fz (by omega))
theorem kpS (b o : Nat) (vs : List Value) (w : World) : Kp (fun j => j = b) w (w.setCells b o vs) := match vs with
  | [] => Kp.refl _ _
  | v :: vs => ((Kp.refl (fun j => j = b) w).setCell (p := ⟨b, o, none⟩) (.inl rfl) v).trans (kpS b (o + 1) vs _)
theorem clear_0 (W : World) (p : Addr) (c : Nat) (ty : TypeId) : (Builtin.clear_ #[104] ty #[.slice (some p) 0 c]).run Tryz.prog W = .ok (.tuple #[]) W := by
  have h : Tryz.prog.underlying 104 = some (.slice 5) := by kernel_rfl
  simp [Builtin.clear_, run_underlying h]
section
variable {w w' : World} {sb rb : Nat} {S : Sm}
/- more pages -/
theorem Mm.grown (h : Mm w sb rb S) (hS : SmOk S) (hh : S.has = true) {k : Nat} (hk : S.bs.length + k ≤ 384) : Mm ((w.setCell ⟨sb, 2, none⟩ (.slice (some ⟨rb, 0, none⟩) (S.bs.length + k) S.cap)).drew.setCells rb S.bs.length (List.replicate k (.int .u8 0))) sb rb { S with bs := S.bs ++ List.replicate k 0 } := by
  obtain ⟨⟨F, G, b1, b2, hl⟩, ne⟩ := h
  have k1 : Kp (fun j => j = rb) (w.setCell ⟨sb, 2, none⟩ (.slice (some ⟨rb, 0, none⟩) (S.bs.length + k) S.cap)).drew ((w.setCell ⟨sb, 2, none⟩ (.slice (some ⟨rb, 0, none⟩) (S.bs.length + k) S.cap)).drew.setCells rb S.bs.length (List.replicate k (.int .u8 0))) := kpS _ _ _ _
  refine ⟨⟨_, _, ((b1.set (i := 2) (by decide) (.slice (some ⟨rb, 0, none⟩) (S.bs.length + k) S.cap)).drew).keep k1 ne, blk_rep k S.bs.length _ G ((b2.other (Ne.symm ne) _).drew) hk, ⟨?_, ?_, ?_, fun j t hj => ?_, ?_, fun j t hj => ?_, ?_, fun j t hj => ?_⟩⟩, ne⟩
  · rw [upd_ne _ _ (by omega)]; exact hl.bk
  · rw [upd_ne _ _ (by omega)]; exact hl.hs
  · rw [upd_same]; dsimp only; rw [if_pos hh, List.length_append, List.length_replicate]
  · rw [upd_ne _ _ (by omega)]; exact hl.tb j t hj
  · rw [upd_ne _ _ (by omega)]; exact hl.nt
  · rw [upd_ne _ _ (by omega)]; exact hl.gb j t hj
  · rw [upd_ne _ _ (by omega)]; exact hl.ng
  · dsimp only at hj ⊢
    by_cases e : j < S.bs.length
    · rw [if_neg (by omega)]
      rw [List.getElem?_append_left e] at hj
      exact hl.bb j t hj
    · rw [List.getElem?_append_right (by omega)] at hj
      have hj2 := (List.getElem?_eq_some_iff.1 hj)
      obtain ⟨h1, h2⟩ := hj2
      rw [List.getElem_replicate] at h2
      rw [List.length_replicate] at h1
      rw [if_pos (by omega), ← h2]
      rfl
def growS (S : Sm) (d : Nat) : Nat × Sm := if S.has = false then (4294967295, S) else if (S.cap - S.bs.length) / 64 < d then (4294967295, S) else (S.bs.length / 64, { S with bs := S.bs ++ List.replicate (d * 64) 0 })
set_option maxHeartbeats 4000000 in
theorem grow_calls (h : Mm w sb rb S) (hS : SmOk S) (d : Nat) (hd : d < 4294967296) : Calls Tryz.prog 100 #[.pointer (some ⟨sb, 0, none⟩), .int .u32 d] w (fun en w' => en = .returned (.int .u32 ((growS S d).1 : Int)) ∧ Kp (fun k => k = sb ∨ k = rb) w w' ∧ Mm w' sb rb (growS S d).2) := by
  obtain ⟨X, hX⟩ : ∃ X, growS S d = X := ⟨_, rfl⟩
  rw [hX]
  unfold growS at hX
  have hc := h.cells
  have c1 := hc.c1
  have c2 := hc.c2
  have hm := hS.m
  have HM : Hid _ := h
  have HS : Hid _ := hS
  obtain ⟨⟨v2, g2⟩, f2⟩ := h.fz (i := 2) (by decide)
  clear g2
  clear h hS hc
  cases hh : S.has with
  | false =>
    rw [hh] at c1 hX c2
    rw [if_pos rfl] at hX
    have HX : Hid _ := hX
    clear hX
    go_enter Tryz.func100, Tryz.ntmps100
    go_wp2
    refine bodyPost_ret (v := .int .u32 4294967295) (by simp [results, Tryz.results100, go_sem]) rfl ?_
    rw [← HX.out]
    exact ⟨rfl, Kp.refl _ _, HM.out⟩
  | true =>
    rw [hh] at c1 hX c2
    rw [if_pos rfl] at c2
    rw [if_neg (by simp)] at hX
    obtain ⟨m, hm'⟩ : ∃ m, S.bs.length = m := ⟨_, rfl⟩
    obtain ⟨c, hc'⟩ : ∃ c, S.cap = c := ⟨_, rfl⟩
    rw [hm', hc'] at c2 hm
    rw [hm', hc'] at hX
    have HL : Hid _ := hm'
    have HC : Hid _ := hc'
    have HH : Hid _ := hh
    clear hm' hc' hh
    have hw : wrap64 (((c : Int) - (m : Int)) / 64) = ((c - m) / 64 : Nat) := by unfold wrap64; omega
    by_cases hg : (c - m) / 64 < d
    · rw [if_pos hg] at hX
      have HX : Hid _ := hX
      clear hX
      have hg2 : (((c - m) / 64 : Nat) : Int) < (d : Int) := by omega
      go_enter Tryz.func100, Tryz.ntmps100
      go_wp2_with fail
      refine bodyPost_ret (v := .int .u32 4294967295) (by simp [results, Tryz.results100, go_sem]) rfl ?_
      rw [← HX.out]
      exact ⟨rfl, Kp.refl _ _, HM.out⟩
    · rw [if_neg hg] at hX
      have HX : Hid _ := hX
      clear hX
      have hg2 : ¬ (((c : Int) - (m : Int)) / 64 < (d : Int)) := by omega
      have hg3 : m + d * 64 ≤ c := by omega
      have hd6 : d ≤ 6 := by omega
      have hne := HM.out.ne
      have hw2 : wrap64 ((m : Int) / 64) = (m : Int) / 64 := by unfold wrap64; omega
      have hG := HM.out.grown HS.out HH.out (k := d * 64) (by rw [HL.out]; omega)
      rw [HL.out, HC.out] at hG
      have HG : Hid _ := hG
      clear hG
      by_cases hd0 : d = 0
      · subst hd0
        have hcl := fun (W : World) (p : Addr) (c : Nat) => clear_0 W p c 0
        rw [Nat.zero_mul] at HG HX
        by_cases hmc : m < c
        · go_enter Tryz.func100, Tryz.ntmps100
          go_wp2_with fail
          go_region
          go_wp2_with fail
          refine bodyPost_ret (v := .int .u32 ((m / 64 : Nat) : Int)) (by simp [results, Tryz.results100, go_sem]) rfl ?_
          rw [← HX.out]
          refine ⟨rfl, ((Kp.refl (fun k => k = sb ∨ k = rb) w).setCell (p := ⟨sb, 2, none⟩) (.inl (.inl rfl)) _).drew, ?_⟩
          have := HG.out
          rw [HH.out] at this
          exact this
        · have hmc2 : m = c := by omega
          subst hmc2
          go_enter Tryz.func100, Tryz.ntmps100
          go_wp2_with fail
          go_region
          go_wp2_with fail
          refine bodyPost_ret (v := .int .u32 ((m / 64 : Nat) : Int)) (by simp [results, Tryz.results100, go_sem]) rfl ?_
          rw [← HX.out]
          refine ⟨rfl, ((Kp.refl (fun k => k = sb ∨ k = rb) w).setCell (p := ⟨sb, 2, none⟩) (.inl (.inl rfl)) _).drew, ?_⟩
          have := HG.out
          rw [HH.out] at this
          exact this
      · have hmc : m < c := by omega
        have hcl : (Builtin.clear_ #[104] 0 #[.slice (some ⟨rb, m, none⟩) (d * 64) (c - m)]).run Tryz.prog (w.setCell ⟨sb, 2, none⟩ (.slice (some ⟨rb, 0, none⟩) (m + d * 64) c)).drew = .ok (.tuple #[]) ((w.setCell ⟨sb, 2, none⟩ (.slice (some ⟨rb, 0, none⟩) (m + d * 64) c)).drew.setCells rb m (List.replicate (d * 64) (.int .u8 0))) := by
          obtain ⟨⟨F, G, b1, b2, hl⟩, ne⟩ := HM.out
          exact clear_u8 _ ((b2.other (Ne.symm ne) _).drew) m (d * 64) (c - m) (by omega) (by omega) 0
        go_enter Tryz.func100, Tryz.ntmps100
        go_wp2_with fail
        go_region
        go_wp2_with fail
        clear hcl
        obtain ⟨W, hW⟩ : ∃ W, ((w.setCell ⟨sb, 2, none⟩ (.slice (some ⟨rb, 0, none⟩) (m + d * 64) c)).drew.setCells rb m (List.replicate (d * 64) (.int .u8 0))) = W := ⟨_, rfl⟩
        have hkk : Kp (fun k => k = sb ∨ k = rb) w W := by
          rw [← hW]
          exact (((Kp.refl (fun k => k = sb ∨ k = rb) w).setCell (p := ⟨sb, 2, none⟩) (.inl (.inl rfl)) _).drew).trans ((kpS _ _ _ _).mono (fun k hk => .inr hk))
        rw [hW] at HG
        rw [hW]
        clear hW
        refine bodyPost_ret (v := .int .u32 ((m / 64 : Nat) : Int)) (by simp [results, Tryz.results100, go_sem]) rfl ?_
        rw [← HX.out]
        refine ⟨rfl, hkk, ?_⟩
        have := HG.out
        rw [HH.out] at this
        exact this
theorem growS_ok (h : SmOk S) (d : Nat) : SmOk (growS S d).2 := by
  have hm := h.m
  unfold growS
  split
  · exact h
  · rename_i hh
    split
    · exact h
    · rename_i hg
      refine ⟨?_, ?_, fun e => absurd e hh, h.t, h.g⟩
      · dsimp only
        rw [List.length_append, List.length_replicate]
        omega
      · intro x hx
        dsimp only at hx
        rcases List.mem_append.1 hx with h1 | h1
        · exact h.b x h1
        · rw [List.eq_of_mem_replicate h1]; omega
end
end Go.Proofs.Qxb6500275aGreatDoor
