import Derived.Test.Qxb6500275aGreatDoorRm4
import Derived.Test.Qxb6500275aGreatDoorVc1
import Derived.StillTailTactics
set_option maxRecDepth 100000
set_option linter.unusedVariables false
set_option linter.unusedSimpArgs false
namespace Go.Proofs.Qxb6500275aGreatDoor
open Go Go.RowKit
section
variable {w w' : World} {sb : Nat} {vm vt vg : Value} {S : Sm} {P : Nat → Prop}
set_option maxHeartbeats 4000000 in
theorem mgrow_m (h : Ms w sb vm vt vg S) (hS : SmOk S) (d : Nat) (hd : d < 4294967296) : Calls Tryz.prog 281 #[.pointer (some ⟨sb, 0, none⟩), .int .u32 d] w (fun en w' => en = .returned (.int .u32 ((growS S d).1 : Int)) ∧ ∃ vm', Ms w' sb vm' vt vg (growS S d).2 ∧ Gw w w' (Mt sb vm vt vg) (Mt sb vm' vt vg)) := by
  obtain ⟨c0, c1, c2, _⟩ := h.c
  obtain ⟨X, hX⟩ : ∃ X, growS S d = X := ⟨_, rfl⟩
  rw [hX]
  unfold growS at hX
  have hm := hS.m
  have hsn : S.has = false → S.bs.length = 0 := fun e => by have := hS; exact (by
    rcases Nat.eq_zero_or_pos S.bs.length with h | h
    · exact h
    · have := sm_has hS h; rw [e] at this; cases this)
  obtain ⟨b, cap, hvm⟩ := h.m.slice
  have HM : Hid (Ms w sb vm vt vg S) := h
  rw [hvm] at c1
  have HV : Hid _ := hvm
  clear h hvm
  cases hh : S.has with
  | false =>
    rw [hh] at c0 hX
    rw [if_pos rfl] at hX
    have HX : Hid _ := hX
    clear hX hsn hS hh
    generalize S.bs.length = m at hm c1
    go_enter Tryz.func281, Tryz.ntmps281
    go_wp2
    refine bodyPost_ret (v := .int .u32 4294967295) (by simp [results, Tryz.results281, go_sem]) rfl ?_
    rw [← HX.out]
    exact ⟨rfl, vm, HM.out, Gw.refl _ _⟩
  | true =>
    rw [hh] at c0 hX
    rw [if_neg (by simp)] at hX
    obtain ⟨m, hm'⟩ : ∃ m, S.bs.length = m := ⟨_, rfl⟩
    obtain ⟨c, hc'⟩ : ∃ c, S.cap = c := ⟨_, rfl⟩
    rw [hm'] at c1 hm hX
    rw [hc'] at c2 hm hX
    have HL : Hid _ := hm'
    have HH : Hid _ := hh
    have HC : Hid _ := hc'
    clear hm' hc' hh hsn hS
    by_cases hg : (c - m) / 64 < d
    · rw [if_pos hg] at hX
      have HX : Hid _ := hX
      clear hX
      have hg2 : ((c / 64 : Nat) : Int) < (m : Int) / 64 + (d : Int) := by omega
      have hcb : c / 64 ≤ 6 := by omega
      generalize c / 64 = cc at c2 hg2 hcb
      go_enter Tryz.func281, Tryz.ntmps281
      go_wp2
      refine bodyPost_ret (v := .int .u32 4294967295) (by simp [results, Tryz.results281, go_sem]) rfl ?_
      rw [← HX.out]
      exact ⟨rfl, vm, HM.out, Gw.refl _ _⟩
    · rw [if_neg hg] at hX
      have HX : Hid _ := hX
      clear hX
      have hg2 : ¬ ((c / 64 : Nat) : Int) < (m : Int) / 64 + (d : Int) := by omega
      have hd6 : d ≤ 6 := by omega
      have hmd : m + d * 64 ≤ 384 := by omega
      have hcb : c / 64 ≤ 6 := by omega
      generalize hcc : c / 64 = cc at c2 hg2 hcb
      have hm4 : m ≤ 384 := by omega
      clear hm hg hcc
      go_enter Tryz.func281, Tryz.ntmps281
      go_wp2
      go_loopw [6] (fun ii u => ∃ (i : Nat) (vi : Value), i ≤ d * 64 ∧ ii = .int .i64 i ∧ Hid (Ms u sb vi vt vg { S with bs := S.bs ++ List.replicate i 0 } ∧ Gw w u (Mt sb vm vt vg) (Mt sb vi vt vg))) (fun ii _ => d * 64 + 1 - (intOf ii).toNat)
      case atStart => exact ⟨0, vm, by omega, rfl, by
        show _ ∧ _
        rw [List.replicate_zero, List.append_nil]
        exact ⟨HM.out, Gw.refl _ _⟩⟩
      case round =>
        obtain ⟨i, vi, hi, rfl, HI⟩ := hrel
        by_cases hlt : i < d * 64
        · have hii : (i : Int) < (d : Int) * 64 := by omega
          obtain ⟨_, d1, _⟩ := HI.out.1.c
          obtain ⟨b2, cap2, hvi⟩ := HI.out.1.m.slice
          obtain ⟨v3, w3, r1, ⟨r2, r3⟩, r4, r5⟩ := HI.out.1.pushB (by dsimp only; rw [List.length_append, List.length_replicate, HL.out]; omega) 0
          have HR : Hid (Ms (w3.setCell ⟨sb, 1, none⟩ v3) sb v3 vt vg { S with bs := S.bs ++ List.replicate (i + 1) 0 } ∧ Gw w (w3.setCell ⟨sb, 1, none⟩ v3) (Mt sb vm vt vg) (Mt sb v3 vt vg)) := by
            refine ⟨?_, HI.out.2.trans r5⟩
            have := r4
            dsimp only at this
            rw [List.append_assoc] at this
            rw [List.replicate_succ']
            exact this
          obtain ⟨b3, cap3, hv3⟩ := r4.m.slice
          generalize ({ S with bs := S.bs ++ List.replicate i 0 } : Sm).bs.length = n2 at hvi
          generalize List.length _ = n3 at hv3
          subst hvi hv3
          clear r4 r5 HI
          go_wp2_with (at_builtin; refine wpList_app rfl _ _ 104 rfl r1 ?_)
          exact ⟨⟨i + 1, _, by omega, by go_num, HR.out⟩, by simp [intOf]; omega⟩
        · have hii : ¬ (i : Int) < (d : Int) * 64 := by omega
          have he : i = d * 64 := by omega
          subst he
          go_wp2
          refine bodyPost_ret (v := .int .u32 ((m / 64 : Nat) : Int)) (by simp [results, Tryz.results281, go_sem]) rfl ?_
          rw [← HX.out]
          exact ⟨rfl, vi, by have := HI.out.1; rw [HH.out, HC.out] at this; exact this, HI.out.2⟩
theorem overB_snoc : ∀ (xs : List Nat) (l : List Nat) (i y : Nat), overB l i (xs ++ [y]) = (overB l i xs).set (i + xs.length) y
  | [], l, i, y => rfl
  | x :: xs, l, i, y => by
    rw [List.cons_append, overB, overB, overB_snoc xs, List.length_cons]
    congr 1
    omega
theorem bytesN_at {t : ByteArray} {k : Nat} (h : k < t.size) : (bytesN t).take (k + 1) = (bytesN t).take k ++ [bAt t k] := by
  have : (bytesN t)[k]? = some (bAt t k) := by
    have hk : k < t.data.size := h
    unfold bytesN bAt
    rw [List.getElem?_map, List.getD_eq_getElem?_getD, Array.getElem?_toList, Array.getElem?_eq_getElem hk]
    rfl
  rw [take_snocL this]
set_option maxHeartbeats 4000000 in
theorem mwrite_m (h : Ms w sb vm vt vg S) (hS : SmOk S) (i : Nat) (hi : i < 4294967296) (t : ByteArray) (ht : t.size < 1000000) : Calls Tryz.prog 197 #[.pointer (some ⟨sb, 0, none⟩), .int .u32 i, .string t] w (Sr sb vm vt vg w (writeS S i t)) := by
  obtain ⟨c0, c1, c2, _⟩ := h.c
  obtain ⟨X, hX⟩ : ∃ X, writeS S i t = X := ⟨_, rfl⟩
  rw [hX]
  unfold writeS at hX
  have hm := hS.m
  have HM : Hid (Ms w sb vm vt vg S) := h
  clear hS
  by_cases h1 : 24 < t.size
  · rw [if_pos h1] at hX
    have HX : Hid _ := hX
    clear hX h
    have h1i : (24 : Int) < (t.size : Int) := by omega
    go_enter Tryz.func197, Tryz.ntmps197
    go_wp2
    refine bodyPost_ret (v := .int .i64 1) (by simp [results, Tryz.results197, go_sem]) rfl ?_
    rw [← HX.out]
    exact ⟨rfl, Kp.refl _ _, HM.out⟩
  · rw [if_neg h1] at hX
    have h1i : ¬ (24 : Int) < (t.size : Int) := by omega
    by_cases h2 : i + t.size ≤ S.bs.length
    · rw [if_pos h2] at hX
      have HX : Hid _ := hX
      obtain ⟨b, cap, hvm⟩ := h.m.slice
      rw [hvm] at c1
      have HV : Hid _ := hvm
      obtain ⟨m, hm'⟩ : ∃ m, S.bs.length = m := ⟨_, rfl⟩
      rw [hm'] at c1 hm h2
      have HL : Hid _ := hm'
      clear hX h hvm hm'
      have h2i : ¬ (m : Int) < (i : Int) + (t.size : Int) := by omega
      go_enter Tryz.func197, Tryz.ntmps197
      go_wp2
      go_loopw [7] (fun ii u => ∃ k : Nat, k ≤ t.size ∧ ii = .int .i64 k ∧ Hid (Ms u sb vm vt vg { S with bs := overB S.bs i ((bytesN t).take k) } ∧ Kp (Mt sb vm vt vg) w u)) (fun ii _ => t.size + 1 - (intOf ii).toNat)
      case atStart => exact ⟨0, by omega, rfl, HM.out, Kp.refl _ _⟩
      case round =>
        obtain ⟨k, hk, rfl, HI⟩ := hrel
        by_cases hlt : k < t.size
        · have hii : (k : Int) < (t.size : Int) := by omega
          have hll : (overB S.bs i ((bytesN t).take k)).length = m := by rw [overB_len, HL.out]
          obtain ⟨g, cap', hvm', q1, q2, q3, q4, q5⟩ := HI.out.1.m.ptr (by dsimp only; rw [hll]; omega)
          have ho : vm.ownBlock = some g := by rw [hvm']; rfl
          dsimp only at hvm'
          rw [hll] at hvm'
          have HV' := HV.out
          rw [hvm', HL.out] at HV'
          injection HV' with x1 x2 x3
          subst x1 x3
          obtain ⟨_, d1, _⟩ := HI.out.1.c
          rw [hvm'] at d1
          have fz := q5 (i + k)
          have ct := q4 (i + k) _ (rowB_get (l := overB S.bs i ((bytesN t).take k)) (List.getElem?_eq_getElem (by omega)))
          have HN := HI.out.1.setB ho (i := i + k) (by dsimp only; omega) (bAt t k)
          dsimp only at HN
          have hbl : ((bytesN t).take k).length = k := by rw [List.length_take]; simp [bytesN]; omega
          have hsn := overB_snoc ((bytesN t).take k) S.bs i (bAt t k)
          rw [hbl, ← bytesN_at hlt] at hsn
          rw [← hsn] at HN
          have HN2 : Hid _ := And.intro HN (HI.out.2.trans (kp_set1 wr (.int .u8 (bAt t k : Int)) (i := i + k) (.inr (.inl ho) : Mt sb vm vt vg g)))
          clear HN hsn hbl q4 q5 hvm' x2 ho HI
          have hix : 0 ≤ (i : Int) + (k : Int) ∧ (i : Int) + (k : Int) < (m : Int) := by omega
          have hwi : IntKind.i64.wrap (i : Int) = (i : Int) := by simp [IntKind.wrap, IntKind.bits, IntKind.signed]; omega
          have hwk : IntKind.i64.wrap ((i : Int) + (k : Int)) = (i : Int) + (k : Int) := by simp [IntKind.wrap, IntKind.bits, IntKind.signed]; omega
          have hget : t[k].toNat = bAt t k := bAt_get t k hlt
          go_wp2_with fail
          go_still_tail 12, (by kernel_rfl)
          go_wp2_with fail
          all_goals
            refine ⟨⟨k + 1, by omega, by go_num, ?_⟩, by simp [intOf]; omega⟩
            have hk0 : Kp (fun _ => False) (wr.setCell ⟨g, i + k, none⟩ (.int .u8 (bAt t k : Int))) (wr.setCell ⟨g, i + k, none⟩ (.int .u8 (bAt t k : Int))).drew := (Kp.refl _ _).drew
            exact ⟨HN2.out.1.keep hk0 (fun _ _ h => h), HN2.out.2.trans (hk0.mono (fun _ h => h.elim))⟩
        · have hii : ¬ (k : Int) < (t.size : Int) := by omega
          have he : k = t.size := by omega
          subst he
          go_wp2
          refine bodyPost_ret (v := .int .i64 0) (by simp [results, Tryz.results197, go_sem]) rfl ?_
          rw [← HX.out]
          refine ⟨rfl, HI.out.2, ?_⟩
          have := HI.out.1
          rw [List.take_of_length_le (by simp [bytesN])] at this
          exact this
    · rw [if_neg h2] at hX
      have HX : Hid _ := hX
      obtain ⟨b, cap, hvm⟩ := h.m.slice
      rw [hvm] at c1
      clear hX h hvm
      generalize S.bs.length = m at c1 hm h2
      have h2i : (m : Int) < (i : Int) + (t.size : Int) := by omega
      go_enter Tryz.func197, Tryz.ntmps197
      go_wp2
      refine bodyPost_ret (v := .int .i64 31) (by simp [results, Tryz.results197, go_sem]) rfl ?_
      rw [← HX.out]
      exact ⟨rfl, Kp.refl _ _, HM.out⟩
end
end Go.Proofs.Qxb6500275aGreatDoor
