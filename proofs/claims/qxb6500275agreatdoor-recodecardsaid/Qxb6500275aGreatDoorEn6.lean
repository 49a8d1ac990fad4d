import Derived.Test.Qxb6500275aGreatDoorEn5
set_option maxRecDepth 100000
set_option linter.unusedVariables false
set_option linter.unusedSimpArgs false
namespace Go.Proofs.Qxb6500275aGreatDoor
open Go Go.RowKit
/- where the runs break -/
def brk : List Nat → Nat
  | [] => 0
  | [_] => 0
  | c :: d :: l => (if d = c then 0 else 1) + brk (d :: l)
theorem runs_len : ∀ (l : List Nat) (c n : Nat), (runs (c :: l) n).length = 1 + brk (c :: l)
  | [], c, n => by simp [runs, brk]
  | d :: l, c, n => by
    unfold runs brk
    split
    · rw [runs_len l d (n + 1)]; omega
    · rw [List.length_cons, runs_len l d 0]; omega
theorem brk_snoc : ∀ (l : List Nat) (y x : Nat), brk (l ++ [y] ++ [x]) = brk (l ++ [y]) + (if x = y then 0 else 1)
  | [], y, x => by simp [brk]
  | [c], y, x => by simp [brk]
  | c :: d :: l, y, x => by
    have := brk_snoc (d :: l) y x
    simp only [List.cons_append] at this ⊢
    unfold brk
    rw [this]; omega
def cntR (L : List Nat) (i : Nat) : Nat := if i = 0 then 0 else 1 + brk (L.take i)
theorem cntR_all (L : List Nat) : cntR L L.length = (runs L 0).length := by
  unfold cntR
  cases L with
  | nil => rfl
  | cons c l => rw [if_neg (by simp), List.take_length, runs_len]
section
variable {t : ByteArray}
theorem cntR_one (h : 0 < t.size) : cntR (natsOf t) 1 = 1 := by
  unfold cntR
  rw [if_neg (by decide), natsOf_take_succ t 0 h]
  rfl
theorem cntR_succ {j : Nat} (h : j + 1 < t.size) : cntR (natsOf t) (j + 2) = cntR (natsOf t) (j + 1) + (if bAt t (j + 1) = bAt t j then 0 else 1) := by
  unfold cntR
  rw [if_neg (by omega), if_neg (by omega), natsOf_take_succ t (j + 1) h, natsOf_take_succ t j (by omega), brk_snoc]
  omega
theorem cntR_le : ∀ i, cntR (natsOf t) i ≤ i ∨ t.size < i
  | 0 => .inl (by simp [cntR])
  | 1 => by
    by_cases h : 0 < t.size
    · rw [cntR_one h]; exact .inl (Nat.le_refl _)
    · exact .inr (by omega)
  | j + 2 => by
    by_cases h : j + 1 < t.size
    · rw [cntR_succ h]
      rcases cntR_le (j + 1) with h2 | h2
      · left; split <;> omega
      · omega
    · exact .inr (by omega)
theorem drop_nats {i : Nat} (h : i < t.size) : (natsOf t).drop i = bAt t i :: (natsOf t).drop (i + 1) := by
  have hl : i < (natsOf t).length := by rw [natsOf_len]; exact h
  rw [List.drop_eq_getElem_cons hl]
  congr 1
  have := natsOf_get t i h
  rw [List.getElem?_eq_getElem hl] at this
  simpa using this
end
set_option maxHeartbeats 8000000 in
theorem wlocals_calls {w : World} {wb : Nat} {v : Value} {l : List Nat} (h : Wr w wb v l) (t : ByteArray) (ht : t.size ≤ 1000) (hv : ∀ i, i < t.size → bAt t i < 128) (hsm : l.length ≤ 80000) :
    Calls Tryz.prog 128 #[.pointer (some ⟨wb, 0, none⟩), .string t] w (Wq w wb v (l ++ encLoc (natsOf t))) := by
  have HV : Hid (∀ i, i < t.size → bAt t i < 128) := hv
  clear hv
  obtain ⟨n, hn⟩ : ∃ n, t.size = n := ⟨_, rfl⟩
  have HN : Hid (t.size = n) := hn
  rw [hn] at ht
  have ht2 : (n : Int) ≤ 1000 := by omega
  have HIT : Hid (It (w.iter t 0) w.heap.size t 0 wb v ∧ Wr (w.iter t 0) wb v l ∧ We w (w.iter t 0) wb v v) := by
    have hk : Kp (fun _ => False) w (w.iter t 0) := (Kp.refl _ _).alloc _
    refine ⟨⟨World.iter_heap w t 0, ?_, fun e => ?_⟩, h.quiet hk, (We.refl _ _ _).quiet hk⟩
    · have := h.lt; omega
    · have := h.f.lt e; omega
  clear h
  obtain ⟨k, hk⟩ : ∃ k, w.heap.size = k := ⟨_, rfl⟩
  have HKW : Hid (w.heap.size = k) := hk
  rw [hk] at HIT
  go_enter Tryz.func128, Tryz.ntmps128
  go_wp2_with fail
  generalize w.iter t 0 = U at HIT ⊢
  try rw [hk]
  clear hk
  go_loopw [4, 5, 6] (fun rr ii cc u => ∃ (i : Nat), i ≤ n ∧ rr = .int .i64 (cntR (natsOf t) i : Nat) ∧ Hid (It u k t i wb v ∧ Wr u wb v l ∧ We w u wb v v)) (fun _ _ _ u => n + 1 - u.iterPos k)
  case atStart => exact ⟨0, by omega, rfl, HIT⟩
  case round =>
    clear HIT
    obtain ⟨i, hi, rfl, HI⟩ := hrel
    have HP : Hid (wr.iterPos k = i) := HI.out.1.pos
    have hcl : cntR (natsOf t) i ≤ 1000 := by
      rcases cntR_le (t := t) i with h | h
      · omega
      · have := HN.out; omega
    by_cases hlt : i < n
    · have hil : i < t.size := by omega
      have hget : t[i].toNat = bAt t i := bAt_get t i hil
      have hb128 : bAt t i < 128 := HV.out i hil
      have hnx : ∀ ty, (Instr.next (.pointer (some ⟨k, 0, none⟩)) true ty).run Tryz.prog wr = .ok (.tuple #[.bool true, .int .i64 i, .int .i32 (bAt t i : Nat)]) (wr.iterAt k t (i + 1)) := fun ty => by
        rw [Lib.run_next_ascii_at wr k t i ty HI.out.1.h hil (by rw [hget]; exact hb128), hget]
      have HS : Hid _ := HI.out.1.step HI.out.2.1 HI.out.2.2 (by rw [HKW.out]; exact Nat.le_refl _) (i + 1)
      have HCS : Hid (∀ j, i = j + 1 → cntR (natsOf t) (i + 1) = cntR (natsOf t) i + (if bAt t i = bAt t j then 0 else 1)) := fun j e => by subst e; exact cntR_succ hil
      have HC1 : Hid (i = 0 → cntR (natsOf t) (i + 1) = 1 ∧ cntR (natsOf t) i = 0) := fun e => by subst e; exact ⟨cntR_one hil, rfl⟩
      obtain ⟨c, hc⟩ : ∃ c, bAt t i = c := ⟨_, rfl⟩
      have HC : Hid (bAt t i = c) := hc
      rw [hc] at hnx hb128
      clear hget hc
      generalize hr : cntR (natsOf t) i = r at *
      generalize hr2 : cntR (natsOf t) (i + 1) = r2 at *
      have HR2 : Hid (cntR (natsOf t) (i + 1) = r2) := hr2
      clear hr hr2
      cases i with
      | zero =>
        obtain ⟨g1, g2⟩ := HC1.out rfl
        subst g1 g2
        go_wp2_with fail
        go_roundw
        case rel => exact ⟨0 + 1, by omega, by rw [HR2.out]; rfl, HS.out⟩
        case measure =>
          have h1 : (wr.iterAt k t 1).iterPos k = 1 := HS.out.1.pos
          have h2 := HP.out
          omega
      | succ j =>
        have hcs := HCS.out j rfl
        have hgj : t[j].toNat = bAt t j := bAt_get t j (by omega)
        have hja : bAt t j < 128 := HV.out j (by omega)
        obtain ⟨a, ha⟩ : ∃ a, bAt t j = a := ⟨_, rfl⟩
        rw [ha] at hgj hcs hja
        rw [HC.out] at hcs
        clear ha HCS HC1
        have hjt : j < t.size := by omega
        by_cases hac : c = a
        · rw [if_pos hac, Nat.add_zero] at hcs
          subst hac hcs
          go_wp2_with fail
          go_roundw
          case rel => exact ⟨j + 1 + 1, by omega, by rw [HR2.out], HS.out⟩
          case measure =>
            have h1 := HS.out.1.pos
            have h2 := HP.out
            omega
        · rw [if_neg hac] at hcs
          have hq : ((a : Int) == (c : Int)) = false := by rw [beq_eq_false_iff_ne]; omega
          have hq2 : ((a : Int) != (c : Int)) = true := by unfold bne; rw [hq]; rfl
          subst hcs
          clear hac
          go_wp2_with fail
          go_roundw
          case rel => exact ⟨j + 1 + 1, by omega, by rw [HR2.out]; go_num, HS.out⟩
          case measure =>
            have h1 := HS.out.1.pos
            have h2 := HP.out
            omega
    · have hil : ¬ i < t.size := by omega
      have hnx : ∀ ty, (Instr.next (.pointer (some ⟨k, 0, none⟩)) true ty).run Tryz.prog wr = .ok (.tuple #[.bool false]) wr := fun ty => Lib.run_next_end_at wr k t i ty HI.out.1.h hil
      have hRR : cntR (natsOf t) i = (runs (natsOf t) 0).length := by
        rw [show i = (natsOf t).length by rw [natsOf_len]; omega, cntR_all]
      rw [hRR] at hcl ⊢
      obtain ⟨R, hR⟩ : ∃ R, (runs (natsOf t) 0).length = R := ⟨_, rfl⟩
      have HR0 : Hid ((runs (natsOf t) 0).length = R) := hR
      rw [hR] at hcl ⊢
      clear hRR hR
      have hR5 : (uLeb R).length ≤ 5 := uLeb_le 4 R (by simp; omega)
      have hu := wu_calls HI.out.2.1 R (by omega) (by omega)
      go_wp2_with fail
      refine hu.mono ?_
      rintro en u1 ⟨rfl, v1, r1, e1⟩
      have HIT : Hid (It (u1.iter t 0) u1.heap.size t 0 wb v1 ∧ Wr (u1.iter t 0) wb v1 (l ++ uLeb R) ∧ We w (u1.iter t 0) wb v v1 ∧ w.heap.size ≤ u1.heap.size) := by
        have hk : Kp (fun _ => False) u1 (u1.iter t 0) := (Kp.refl _ _).alloc _
        refine ⟨⟨World.iter_heap u1 t 0, ?_, fun e => ?_⟩, r1.quiet hk, (HI.out.2.2.trans e1).quiet hk, (HI.out.2.2.trans e1).kp.size⟩
        · have := r1.lt; omega
        · have := r1.f.lt e; omega
      clear r1 e1 hu hnx HI HP
      obtain ⟨k2, hk⟩ : ∃ k, u1.heap.size = k := ⟨_, rfl⟩
      rw [hk] at HIT
      go_wp2_with fail
      generalize u1.iter t 0 = U at HIT ⊢
      try rw [hk]
      clear hk
      go_loopw [7, 8, 9] (fun nn ii cc u => ∃ (i m : Nat) (v' : Value) (E : List (Nat × Nat)), i ≤ n ∧ m ≤ i ∧ nn = .int .i64 m ∧ E.length ≤ i ∧ Hid (runs (natsOf t) 0 = E ++ runs ((natsOf t).drop i) m) ∧ Hid ((E.flatMap encRun).length ≤ 6 * i) ∧ Hid (It u k2 t i wb v' ∧ Wr u wb v' (l ++ uLeb R ++ E.flatMap encRun) ∧ We w u wb v v' ∧ w.heap.size ≤ k2)) (fun _ _ _ u => n + 1 - u.iterPos k2)
      case atStart => exact ⟨0, 0, v1, [], by omega, by omega, rfl, by simp, by rw [List.drop_zero]; rfl, by show ([] : List Nat).length ≤ 0; simp, by show It U k2 t 0 wb v1 ∧ Wr U wb v1 (l ++ uLeb R ++ []) ∧ _; rw [List.append_nil]; exact HIT.out⟩
      case round =>
        clear HIT
        obtain ⟨i, m, v', E, hi2, hmi, rfl, hEl, HRN, HEL, HI⟩ := hrel
        have HP : Hid (wr.iterPos k2 = i) := HI.out.1.pos
        by_cases hlt2 : i < n
        · have hil2 : i < t.size := by omega
          have hget : t[i].toNat = bAt t i := bAt_get t i hil2
          have hb128 : bAt t i < 128 := HV.out i hil2
          have hnx : ∀ ty, (Instr.next (.pointer (some ⟨k2, 0, none⟩)) true ty).run Tryz.prog wr = .ok (.tuple #[.bool true, .int .i64 i, .int .i32 (bAt t i : Nat)]) (wr.iterAt k2 t (i + 1)) := fun ty => by
            rw [Lib.run_next_ascii_at wr k2 t i ty HI.out.1.h hil2 (by rw [hget]; exact hb128), hget]
          have HS : Hid _ := HI.out.1.step HI.out.2.1 HI.out.2.2.1 HI.out.2.2.2 (i + 1)
          have hdr := drop_nats hil2
          have hrn := HRN.out
          rw [hdr] at hrn
          have HD : Hid (runs (natsOf t) 0 = E ++ runs (bAt t i :: (natsOf t).drop (i + 1)) m) := hrn
          obtain ⟨c, hc⟩ : ∃ c, bAt t i = c := ⟨_, rfl⟩
          have HC : Hid (bAt t i = c) := hc
          rw [hc] at hnx hb128
          clear hget hc hdr hrn
          have hm5 : (uLeb (m + 1)).length ≤ 5 := uLeb_le 4 (m + 1) (by simp; omega)
          have hbnd := HEL.out
          have HBB : Hid (l.length + (uLeb R).length + (E.flatMap encRun).length ≤ 90000) := by show _ ≤ _; omega
          clear hbnd
          by_cases hlast : i + 1 = n
          · have hq : ((i : Int) + 1 == (n : Int)) = true := by rw [beq_iff_eq]; omega
            have HRN2 : Hid (runs (natsOf t) 0 = E ++ [(m + 1, c)] ++ runs ((natsOf t).drop (i + 1)) 0) := by
              have h0 : (natsOf t).drop (i + 1) = [] := List.drop_of_length_le (by rw [natsOf_len]; omega)
              have h1 := HD.out
              rw [h0, HC.out] at h1
              show _ = _
              rw [h0, h1]
              simp [runs]
            clear hlast
            go_wp2_with fail
            generalize wr.iterAt k2 t (i + 1) = U2 at HS ⊢
            have hu2 := wu_calls HS.out.2.1 (m + 1) (by omega) (by rw [List.length_append, List.length_append]; have := HBB.out; omega)
            rw [show ((m : Int) + 1) = ((m + 1 : Nat) : Int) by omega]
            refine hu2.mono ?_
            rintro en u2 ⟨rfl, v2, r2, e2⟩
            have HR2 : Hid _ := r2
            have HE2 : Hid _ := e2
            clear r2 e2 hnx hu2
            go_wp2_with fail
            refine (HR2.out.byte (by rw [List.length_append, List.length_append, List.length_append]; have := HBB.out; omega) c).mono ?_
            rintro en u3 ⟨rfl, v3, r3, e3⟩
            have HR3 : Hid _ := r3
            have HE3 : Hid _ := e3
            clear r3 e3
            go_wp2_with fail
            have hI2 := (HS.out.1.we HE2.out).we HE3.out
            go_roundw
            case rel =>
              refine ⟨i + 1, 0, v3, E ++ [(m + 1, c)], by omega, by omega, rfl, by simp; omega, HRN2, ?_, hI2, ?_, (HS.out.2.2.trans HE2.out).trans HE3.out, HI.out.2.2.2⟩
              · show _ ≤ _
                have h1 := HEL.out
                have h2 : ([(m + 1, c)].flatMap encRun).length = (uLeb (m + 1)).length + 1 := by simp [encRun]
                rw [List.flatMap_append, List.length_append, h2]
                omega
              · have h3 := HR3.out
                rw [List.flatMap_append]
                simpa [encRun] using h3
            case measure =>
              have h1 := hI2.pos
              have h2 := HP.out
              omega
          · have hq : ((i : Int) + 1 == (n : Int)) = false := by rw [beq_eq_false_iff_ne]; omega
            have hil3 : i + 1 < t.size := by omega
            have hgd : t[i + 1].toNat = bAt t (i + 1) := bAt_get t (i + 1) hil3
            have hd128 : bAt t (i + 1) < 128 := HV.out (i + 1) hil3
            have hdr := drop_nats hil3
            have hD := HD.out
            rw [hdr, HC.out] at hD
            obtain ⟨d, hd⟩ : ∃ d, bAt t (i + 1) = d := ⟨_, rfl⟩
            rw [hd] at hgd hd128 hD hdr
            have HD2 : Hid (runs (natsOf t) 0 = E ++ runs (c :: d :: (natsOf t).drop (i + 1 + 1)) m) := hD
            have HDR : Hid ((natsOf t).drop (i + 1) = d :: (natsOf t).drop (i + 1 + 1)) := hdr
            clear hD hdr hd hlast
            by_cases hdc : d = c
            · have HRN3 : Hid (runs (natsOf t) 0 = E ++ runs ((natsOf t).drop (i + 1)) (m + 1)) := by
                show _ = _
                rw [HD2.out, HDR.out]
                congr 1
                rw [show runs (c :: d :: (natsOf t).drop (i + 1 + 1)) m = if d = c then runs (d :: (natsOf t).drop (i + 1 + 1)) (m + 1) else (m + 1, c) :: runs (d :: (natsOf t).drop (i + 1 + 1)) 0 from rfl, if_pos hdc]
              have hq3 : ((d : Int) == (c : Int)) = true := by rw [hdc]; simp
              have hq4 : ((d : Int) != (c : Int)) = false := by unfold bne; rw [hq3]; rfl
              clear hdc
              go_wp2_with fail
              go_roundw
              case rel => exact ⟨i + 1, m + 1, v', E, by omega, by omega, by go_num, by omega, HRN3, by show _ ≤ _; have := HEL.out; omega, HS.out.1, HS.out.2.1, HS.out.2.2, HI.out.2.2.2⟩
              case measure =>
                have h1 := HS.out.1.pos
                have h2 := HP.out
                omega
            · have HRN2 : Hid (runs (natsOf t) 0 = E ++ [(m + 1, c)] ++ runs ((natsOf t).drop (i + 1)) 0) := by
                show _ = _
                rw [HD2.out, HDR.out, show runs (c :: d :: (natsOf t).drop (i + 1 + 1)) m = if d = c then runs (d :: (natsOf t).drop (i + 1 + 1)) (m + 1) else (m + 1, c) :: runs (d :: (natsOf t).drop (i + 1 + 1)) 0 from rfl, if_neg hdc]
                simp
              have hq3 : ((d : Int) == (c : Int)) = false := by rw [beq_eq_false_iff_ne]; omega
              have hq4 : ((d : Int) != (c : Int)) = true := by unfold bne; rw [hq3]; rfl
              clear hdc
              go_wp2_with fail
              generalize wr.iterAt k2 t (i + 1) = U2 at HS ⊢
              have hu2 := wu_calls HS.out.2.1 (m + 1) (by omega) (by rw [List.length_append, List.length_append]; have := HBB.out; omega)
              rw [show ((m : Int) + 1) = ((m + 1 : Nat) : Int) by omega]
              refine hu2.mono ?_
              rintro en u2 ⟨rfl, v2, r2, e2⟩
              have HR2 : Hid _ := r2
              have HE2 : Hid _ := e2
              clear r2 e2 hnx hu2
              go_wp2_with fail
              refine (HR2.out.byte (by rw [List.length_append, List.length_append, List.length_append]; have := HBB.out; omega) c).mono ?_
              rintro en u3 ⟨rfl, v3, r3, e3⟩
              have HR3 : Hid _ := r3
              have HE3 : Hid _ := e3
              clear r3 e3
              go_wp2_with fail
              have hI2 := (HS.out.1.we HE2.out).we HE3.out
              go_roundw
              case rel =>
                refine ⟨i + 1, 0, v3, E ++ [(m + 1, c)], by omega, by omega, rfl, by simp; omega, HRN2, ?_, hI2, ?_, (HS.out.2.2.trans HE2.out).trans HE3.out, HI.out.2.2.2⟩
                · show _ ≤ _
                  have h1 := HEL.out
                  have h2 : ([(m + 1, c)].flatMap encRun).length = (uLeb (m + 1)).length + 1 := by simp [encRun]
                  rw [List.flatMap_append, List.length_append, h2]
                  omega
                · have h3 := HR3.out
                  rw [List.flatMap_append]
                  simpa [encRun] using h3
              case measure =>
                have h1 := hI2.pos
                have h2 := HP.out
                omega
        · have hil2 : ¬ i < t.size := by omega
          have hnx : ∀ ty, (Instr.next (.pointer (some ⟨k2, 0, none⟩)) true ty).run Tryz.prog wr = .ok (.tuple #[.bool false]) wr := fun ty => Lib.run_next_end_at wr k2 t i ty HI.out.1.h hil2
          go_wp2_with fail
          refine bodyPost_ret (v := .tuple #[]) (by simp [results, Tryz.results128, go_sem]) rfl ?_
          refine ⟨rfl, v', ?_, HI.out.2.2.1⟩
          have h2 := HI.out.2.1
          have h3 := HRN.out
          rw [List.drop_of_length_le (by rw [natsOf_len, HN.out]; omega)] at h3
          have h4 : runs (natsOf t) 0 = E := by rw [h3]; simp [runs]
          unfold encLoc
          rw [HR0.out, h4, ← List.append_assoc]
          exact h2
end Go.Proofs.Qxb6500275aGreatDoor
