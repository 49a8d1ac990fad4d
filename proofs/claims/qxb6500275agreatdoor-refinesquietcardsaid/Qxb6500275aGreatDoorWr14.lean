import Derived.Test.Qxb6500275aGreatDoorWr2
import Derived.Deep.Light
import Derived.Laws.IdiomStrings
set_option maxRecDepth 100000
set_option linter.unusedVariables false
set_option linter.unusedSimpArgs false
namespace Go.Proofs.Qxb6500275aGreatDoor
open Go Go.RowKit
def localsL (s : ByteArray) (e : Nat) : Nat → List Nat → Nat → Except (Int × Nat) (List Nat × Nat)
  | 0, acc, q => .ok (acc, q)
  | g + 1, acc, q => match countS s q e (6 - (acc.length : Int)) with
    | .error f => .error f
    | .ok (k, r) => match valtypeS s r e with
      | .error f => .error f
      | .ok (t, r2) => localsL s e g (acc ++ List.replicate k.toNat t) r2
def bytesOf (l : List Nat) : ByteArray := ⟨⟨l.map UInt8.ofNat⟩⟩
def localsS (s : ByteArray) (p e : Nat) : R ByteArray :=
  match countS s p e 6 with
  | .error f => .error f
  | .ok (g, q) => match localsL s e g.toNat [] q with
    | .error f => .error f
    | .ok (acc, r) => .ok (bytesOf acc, r)
/- the array of the locals' types -/
structure La (w : World) (n : Nat) (acc : List Nat) : Prop where
  le : acc.length ≤ 6
  is : ∃ F, Blk w n 6 F ∧ ∀ i (v : Nat), acc[i]? = some v → F i = .int .u8 v ∧ v < 256
section
variable {w : World} {b : Nat} {s : ByteArray} {p e bb : Nat}
theorem La.keep {w w' : World} {n : Nat} {acc : List Nat} {S : Nat → Prop} (h : La w n acc) (hk : Kp S w w') (hs : ¬ S n) : La w' n acc := by
  obtain ⟨h1, F, h2, h3⟩ := h
  exact ⟨h1, F, h2.keep hk hs, h3⟩
theorem La.push {w : World} {n : Nat} {acc : List Nat} (h : La w n acc) (hl : acc.length < 6) (v : Nat) (hv : v < 256) : La (w.setCell ⟨n, acc.length, none⟩ (.int .u8 v)) n (acc ++ [v]) := by
  obtain ⟨h1, F, h2, h3⟩ := h
  refine ⟨by simp; omega, _, h2.set hl _, fun i x hi => ?_⟩
  by_cases e : i = acc.length
  · subst e
    simp at hi
    subst hi
    exact ⟨upd_same _ _ _, hv⟩
  · rw [upd_ne _ _ e]
    refine h3 i x ?_
    rw [List.getElem?_append_left (by
      have := (List.getElem?_eq_some_iff.1 hi).1
      simp at this
      omega)] at hi
    exact hi
theorem arrLen89 : Tryz.prog.arrayLen 89 = 6 := by kernel_rfl
theorem elem89 (w : World) : (sizeOf (Tryz.prog.elem 89)).run Tryz.prog w = .ok 1 w := by
  have e : Tryz.prog.elem 89 = 5 := by kernel_rfl
  have h : (sizeOf 5).run Tryz.prog w = .ok 1 w := by kernel_rfl
  rw [e]
  exact h
theorem add_none (B o j : Nat) : (⟨B, o, none⟩ : Addr).add j = ⟨B, o + j, none⟩ := by
  unfold Addr.add
  split
  · rename_i h; subst h; rfl
  · rfl
theorem slice89 (B m : Nat) (h : m ≤ 6) (w : World) : (Instr.sliceAt 89 (.pointer (some ⟨B, 0, none⟩)) none (some (.int .i64 m)) none).run Tryz.prog w = .ok (.slice (some ⟨B, 0, none⟩) m 6) w := by
  rw [run_sliceAt_array_h w 89 ⟨B, 0, none⟩ (by kernel_rfl) .i64 (m : Int) (by omega) (by rw [arrLen89]; omega), elem89, arrLen89]
  simp only [Result.andThen_ok, slicedAt, Int.toNat_natCast]
  rw [if_neg (by decide), add_none]
  simp
set_option maxHeartbeats 4000000 in
theorem locals_calls (h : Rd w b s p e bb) : Calls Tryz.prog 118 #[.pointer (some ⟨b, 0, none⟩)] w (RP encS (localsS s p e) b s e bb w) := by
  have HR : Hid _ := h
  have hbl : b < w.heap.size := lt_of_cell h.c0
  clear h
  cases hu : countS s p e 6 with
  | error f =>
    obtain ⟨c, a⟩ := f
    have HU : Hid _ := hu
    clear hu
    go_enter Tryz.func118, Tryz.ntmps118
    go_wp2_with (go_at_call 109; refine (count_calls (by exact HR.out.keep (S := fun _ => False) ((Kp.refl _ w).alloc _) (fun h => h)) 6 (by omega)).mono ?_; rintro en w2 hP; obtain ⟨hK, rfl⟩ := hP.err HU.out)
    go_light
    exact ⟨rfl, RP.mkErr (c := c) (a := a) (by unfold localsS; rw [HU.out]) (((Kp.refl _ w).alloc _).trans hK) rfl⟩
  | ok x =>
    obtain ⟨g, q⟩ := x
    have hg := (countS_ok hu).1
    obtain ⟨g, rfl⟩ := Int.eq_ofNat_of_zero_le hg.1
    have HU : Hid _ := hu
    clear hu
    go_enter Tryz.func118, Tryz.ntmps118
    go_wp2_with fail
    refine (count_calls (by exact HR.out.keep (S := fun _ => False) ((Kp.refl _ w).alloc _) (fun h => h)) 6 (by omega)).mono ?_
    rintro en w2 hP
    obtain ⟨hK, rfl, hR2⟩ := hP.ok HU.out
    unfold encI
    have hL0 : La w2 w.heap.size [] := by
      refine ⟨by simp, fun _ => .int .u8 0, fun i hi => ?_, fun i v h => by simp at h⟩
      have : i = 0 ∨ i = 1 ∨ i = 2 ∨ i = 3 ∨ i = 4 ∨ i = 5 := by omega
      rw [hK.cell (p := ⟨w.heap.size, i, none⟩) (by simp) (by show ¬ w.heap.size = b; omega), hK.frozen (p := ⟨w.heap.size, i, none⟩) (by simp) (by show ¬ w.heap.size = b; omega)]
      rcases this with rfl | rfl | rfl | rfl | rfl | rfl <;> simp [go_sem]
    have hK2 : Kp (· = b) w w2 := ((Kp.refl _ w).alloc _).trans hK
    clear hK hP
    go_wp2
    go_loopw [4, 6] (fun n gg w1 => ∃ (i q' : Nat) (acc : List Nat), i ≤ g ∧ gg = .int .i64 i ∧ n = .int .i64 acc.length ∧ Rd w1 b s q' e bb ∧ La w1 w.heap.size acc ∧ Kp (· = b) w w1 ∧ Hid (localsL s e g [] q = localsL s e (g - i) acc q')) (fun _ gg _ => g - (intOf gg).toNat)
    case atStart => exact ⟨0, q, [], by omega, rfl, rfl, hR2, hL0, hK2, rfl⟩
    case round =>
      obtain ⟨i, q', acc, hi, rfl, rfl, hRi, hLi, hKi, HL⟩ := hrel
      clear hR2 hL0 hK2
      have hlen := hLi.le
      obtain ⟨m, hm⟩ : ∃ m, acc.length = m := ⟨_, rfl⟩
      rw [hm]
      rw [hm] at hlen
      have HM : Hid _ := hm
      have HRi : Hid _ := hRi
      have HLi : Hid _ := hLi
      have HKi : Hid _ := hKi
      clear hm hRi hLi hKi
      by_cases hlt : i < g
      · cases hc : countS s q' e (6 - (m : Int)) with
        | error f =>
          obtain ⟨c, a⟩ := f
          have HC : Hid _ := hc
          clear hc
          go_wp2_with (go_at_call 109; refine (count_calls HRi.out (6 - (m : Int)) (by omega)).mono ?_; rintro en w3 hP; obtain ⟨hK3, rfl⟩ := hP.err HC.out)
          go_light
          refine ⟨rfl, RP.mkErr (c := c) (a := a) ?_ (HKi.out.trans hK3) rfl⟩
          unfold localsS; rw [HU.out]; dsimp only
          rw [Int.toNat_natCast, HL.out, show g - i = g - (i + 1) + 1 by omega, localsL, HM.out, HC.out]
        | ok x =>
          obtain ⟨k, r⟩ := x
          have hk := (countS_ok hc).1
          obtain ⟨k, rfl⟩ := Int.eq_ofNat_of_zero_le hk.1
          have HC : Hid _ := hc
          clear hc
          cases hv : valtypeS s r e with
          | error f =>
            obtain ⟨c, a⟩ := f
            have HV : Hid _ := hv
            clear hv
            go_wp2_with (first | (go_at_call 109; refine (count_calls HRi.out (6 - (m : Int)) (by omega)).mono ?_; rintro en w3 hP; obtain ⟨hK3, rfl, hR3⟩ := hP.ok HC.out; unfold encI) | (go_at_call 115; refine (valtype_calls hR3).mono ?_; rintro en w4 hP4; obtain ⟨hK4, rfl⟩ := hP4.err HV.out))
            go_light
            refine ⟨rfl, RP.mkErr (c := c) (a := a) ?_ ((HKi.out.trans hK3).trans hK4) rfl⟩
            unfold localsS; rw [HU.out]; dsimp only
            rw [Int.toNat_natCast, HL.out, show g - i = g - (i + 1) + 1 by omega, localsL, HM.out, HC.out]
            dsimp only
            rw [HV.out]
          | ok y =>
            obtain ⟨t, r2⟩ := y
            have ht : t < 256 := by rw [(valtypeS_ok hv).2.2]; exact bAt_lt _ _
            have HV : Hid _ := hv
            clear hv
            go_wp2_with (first | (go_at_call 109; refine (count_calls HRi.out (6 - (m : Int)) (by omega)).mono ?_; rintro en w3 hP; obtain ⟨hK3, rfl, hR3⟩ := hP.ok HC.out; unfold encI) | (go_at_call 115; refine (valtype_calls hR3).mono ?_; rintro en w4 hP4; obtain ⟨hK4, rfl, hR4⟩ := hP4.ok HV.out; unfold encB))
            have hL4 : La w4 w.heap.size acc := (HLi.out.keep hK3 (by show ¬ w.heap.size = b; omega)).keep hK4 (by show ¬ w.heap.size = b; omega)
            have hK5 : Kp (· = b) w w4 := (HKi.out.trans hK3).trans hK4
            have HL4 : Hid _ := hL4
            have HK5 : Hid _ := hK5
            have HR4 : Hid _ := hR4
            clear hL4 hK5 hR4 hP4 hP hR3 hK3 hK4
            go_loopw [4, 9] (fun n jj w5 => ∃ j : Nat, j ≤ k ∧ jj = .int .i64 j ∧ n = .int .i64 (m + j : Nat) ∧ Rd w5 b s r2 e bb ∧ La w5 w.heap.size (acc ++ List.replicate j t) ∧ Kp (· = b) w w5) (fun _ jj _ => k - (intOf jj).toNat)
            case atStart => exact ⟨0, by omega, rfl, rfl, HR4.out, by simpa using HL4.out, HK5.out⟩
            case round =>
              obtain ⟨j, hj, rfl, rfl, hRj, hLj, hKj⟩ := hrel
              have HRj : Hid _ := hRj
              have HLj : Hid _ := hLj
              have HKj : Hid _ := hKj
              by_cases hjk : j < k
              · have hmj : m + j < 6 := by omega
                obtain ⟨F, hF, _⟩ := hLj.is
                have hcj := hF.cell hmj
                have hfj := hF.fz hmj
                clear hF hRj hKj
                go_wp2
                go_light
                have hlen2 : (acc ++ List.replicate j t).length = m + j := by rw [List.length_append, HM.out, List.length_replicate]
                have hp := HLj.out.push (by omega) t ht
                rw [hlen2] at hp
                have e1 : acc ++ List.replicate j t ++ [t] = acc ++ List.replicate (j + 1) t := by rw [List.append_assoc, ← List.replicate_succ']
                rw [e1] at hp
                have hkk := (Kp.refl (fun x => x = w.heap.size) _).setCell (p := ⟨w.heap.size, m + j, none⟩) (.inl rfl) (.int .u8 (t : Int)) (w := wr)
                exact ⟨⟨j + 1, by omega, by go_num, congrArg (Value.int .i64) (by omega), HRj.out.keep hkk (by show ¬ b = w.heap.size; omega), hp, HKj.out.setCell (.inr (Nat.le_refl _)) _⟩, by simp [intOf]; omega⟩
              · have hjk : j = k := by omega
                subst hjk
                clear hRj hLj hKj
                go_wp2
                go_light
                refine ⟨⟨i + 1, r2, acc ++ List.replicate j t, by omega, by go_num, by rw [List.length_append, HM.out, List.length_replicate], HRj.out, HLj.out, HKj.out, ?_⟩, by simp [intOf]; omega⟩
                show _ = _
                rw [HL.out, show g - i = g - (i + 1) + 1 by omega, localsL, HM.out, HC.out]
                dsimp only
                rw [HV.out]
                dsimp only
                rw [Int.toNat_natCast]
      · have hig : i = g := by omega
        subst hig
        go_wp2
        rw [slice89 w.heap.size m (by omega) wr]
        go_wp2
        have hcv : (convert 104 9 (.slice (some ⟨w.heap.size, 0, none⟩) m 6)).run Tryz.prog wr = .ok (.string (bytesOf acc)) wr := by
          have hb := run_convert_bytes_back (P := Tryz.prog) wr 104 9 5 ⟨w.heap.size, 0, none⟩ 6 (acc.map UInt8.ofNat) (by kernel_rfl) (by kernel_rfl) (by kernel_rfl) (by
            intro j hj
            obtain ⟨F, hF, hv⟩ := HLi.out.is
            have hj2 : j < acc.length := by simpa using hj
            have hle6 := HLi.out.le
            obtain ⟨e1, e2⟩ := hv j acc[j] (List.getElem?_eq_getElem hj2)
            rw [add_none, Nat.zero_add, hF.cell (by omega), e1]
            have e3 : ((acc.map UInt8.ofNat)[j]'hj).toNat = acc[j] := by rw [List.getElem_map, UInt8.toNat_ofNat']; exact Nat.mod_eq_of_lt e2
            rw [e3])
          rw [List.length_map, HM.out] at hb
          exact hb
        rw [hcv]
        clear hcv
        go_wp2
        go_ret
        refine RP.mkOk (v := bytesOf acc) (q := q') ?_ HKi.out rfl HRi.out
        unfold localsS; rw [HU.out]; dsimp only
        rw [Int.toNat_natCast, HL.out, Nat.sub_self]
        rfl
end
end Go.Proofs.Qxb6500275aGreatDoor
