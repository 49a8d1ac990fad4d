import Derived.Test.Qxb6500275aGreatDoorWr1
import Derived.Test.Qxb6500275aGreatDoorBlk
import Derived.Laws.IdiomCopy
set_option maxRecDepth 100000
set_option linter.unusedVariables false
set_option linter.unusedSimpArgs false
namespace Go.Proofs.Qxb6500275aGreatDoor
open Go Go.RowKit
section
variable {w : World} {b : Nat} {s : ByteArray} {p e bb : Nat}
def encQ (n : Int) : Value := .int .u64 n
set_option maxHeartbeats 4000000 in
theorem sleb_calls (h : Rd w b s p e bb) (bt : Nat) (hn : bt = 32 ∨ bt = 64) : Calls Tryz.prog 237 #[.pointer (some ⟨b, 0, none⟩), .int .u64 bt] w (RP encQ (slebS s p e bt) b s e bb w) := by
  obtain ⟨c0, c1, c2, c3, f1, f2, le, es, sz⟩ := id h
  have HR : Hid _ := h
  have hbt : bt ≤ 64 := by omega
  have HB : Hid _ := hn
  clear h hn
  go_enter Tryz.func237, Tryz.ntmps237
  go_wp2
  go_loopw [6, 7, 8, 9] (fun v c sh more w1 => ∃ (k q cc : Nat) (vv : Int) (m : Bool), k ≤ 10 ∧ v = .int .u64 vv ∧ (0 ≤ vv ∧ vv < 18446744073709551616) ∧ cc < 128 ∧ c = .int .u8 cc ∧ sh = .int .u64 (7 * k : Nat) ∧ more = .bool m ∧ Rd w1 b s q e bb ∧ Kp (· = b) w w1 ∧
    Hid (slebL s e p bt 11 0 0 p = (if m then slebL s e p bt (11 - k) k vv q else .ok (k, cc, vv, q)))) (fun _ _ sh _ _ => 77 - (intOf sh).toNat)
  case atStart => exact ⟨0, p, 0, 0, true, by omega, rfl, by omega, by omega, rfl, rfl, rfl, HR.out, Kp.refl _ _, rfl⟩
  case round =>
    obtain ⟨k, q, cc, vv, m, hk, rfl, hv, hcc, rfl, rfl, rfl, hR, hK, HL⟩ := hrel
    have HK : Hid _ := hK
    have HRq : Hid _ := hR
    have hb := bAt_lt s q
    clear hK c0 c1 c2 c3 f1 f2 hR
    cases m with
    | false =>
      have HE : Hid (slebS s p e bt = slebEnd bt p k cc vv q) := by
        show _ = _
        unfold slebS
        rw [HL.out]
        rfl
      by_cases h64 : 64 < 7 * k
      · by_cases hc : cc = 0 ∨ cc = 127
        · have hc' : ((cc : Int) != 0 && (cc : Int) != 127) = false := by rcases hc with rfl | rfl <;> rfl
          have HC : Hid _ := hc
          clear hc
          go_wp2
          all_goals
            go_ret
            refine RP.mkOk (v := vv) (q := q) ?_ HK.out rfl HRq.out
            rw [HE.out]; unfold slebEnd; rw [if_pos h64, if_pos HC.out]
        · have hc' : ((cc : Int) != 0) = true := by rw [bne_iff_ne]; omega
          have hc2 : ((cc : Int) != 127) = true := by rw [bne_iff_ne]; omega
          go_wp2
          refine ⟨rfl, RP.mkErr (c := 4) (a := p) ?_ HK.out rfl⟩
          rw [HE.out]; unfold slebEnd; rw [if_pos h64, if_neg hc]
      · have HX : Hid (xV vv k = wrap64 (IntKind.u64.wrap (vv * 2 ^ (64 - 7 * k))) / 2 ^ (64 - 7 * k)) := rfl
        rcases HB.out with rfl | rfl
        · go_wp2
          all_goals first
            | (go_ret
               refine RP.mkOk (v := xV vv k % 4294967296) (q := q) ?_ HK.out rfl HRq.out
               rw [HE.out]; unfold slebEnd; rw [if_neg h64, if_pos rfl, if_neg (by rw [HX.out]; omega)])
            | (refine ⟨rfl, RP.mkErr (c := 4) (a := p) ?_ HK.out rfl⟩
               rw [HE.out]; unfold slebEnd; rw [if_neg h64, if_pos rfl, if_pos (by rw [HX.out]; omega)])
        · go_wp2
          go_ret
          refine RP.mkOk (v := IntKind.u64.wrap (xV vv k)) (q := q) ?_ HK.out rfl HRq.out
          rw [HE.out]; unfold slebEnd; rw [if_neg h64, if_neg (by decide)]
    | true =>
      have HL2 : Hid (slebL s e p bt 11 0 0 p = slebL s e p bt (11 - k) k vv q) := by
        show _ = _
        have := HL.out
        simpa using this
      by_cases hbk : bt ≤ 7 * k
      · go_wp2
        refine ⟨rfl, RP.mkErr (c := 4) (a := p) ?_ HK.out rfl⟩
        unfold slebS
        rw [HL2.out, show 11 - k = 10 - k + 1 by omega, slebL, if_pos hbk]
      · by_cases hq : q < e
        · go_wp2_with (go_at_call 63; refine (next_ok HRq.out hq).mono ?_; rintro en w2 ⟨rfl, hR2, hK2⟩)
          refine ⟨⟨k + 1, q + 1, bAt s q % 128, or64 vv k (bAt s q), decide (128 ≤ (bAt s q : Int)), by omega, rfl, bits64 _ _ _, Nat.mod_lt _ (by decide), congrArg (Value.int .u8) (by omega), congrArg (Value.int .u64) (by omega), rfl, hR2, HK.out.trans hK2, ?_⟩, by simp [intOf]; omega⟩
          show _ = _
          rw [HL2.out, show 11 - k = 10 - k + 1 by omega, slebL, if_neg hbk, if_pos hq]
          by_cases hc : bAt s q < 128
          · rw [if_pos hc, if_neg (by simp; omega)]
          · rw [if_neg hc, if_pos (by simp; omega), show 10 - k = 11 - (k + 1) by omega]
        · go_wp2_with (go_at_call 63; refine (next_err HRq.out hq).mono ?_; rintro en w2 ⟨rfl, hK2⟩)
          refine ⟨rfl, RP.mkErr (c := 3) (a := e) ?_ (HK.out.trans hK2) rfl⟩
          unfold slebS
          rw [HL2.out, show 11 - k = 10 - k + 1 by omega, slebL, if_neg hbk, if_neg hq]

/- the copy of a string of at most eight bytes over an array of eight -/
theorem run_copy8 {P : Program} (w : World) (dT sT ty elem : TypeId) (b : Nat) (t : ByteArray) (hu : P.underlying dT = some (.slice elem)) (hs : (P.info? elem).map (·.size) = some 1) (ht : t.size ≤ 8)
    (hc : ∀ j, j < 8 → (w.cell? ⟨b, j, none⟩).isSome = true ∧ w.frozen? ⟨b, j, none⟩ = false) :
    (Builtin.copy_ #[dT, sT] ty #[.slice (some ⟨b, 0, none⟩) 8 8, .string t]).run P w = .ok (goInt t.size) (w.setCells b 0 (t.data.toList.map (fun c => Value.int .u8 c.toNat))) := by
  have hlen : t.data.toList.length = t.size := rfl
  have hst := run_storeCells_cells (P := P) b 0 (t.data.toList.map (fun c => Value.int .u8 c.toNat)) 0 w (fun j hj => by simpa using (hc j (by simp at hj; omega)).1) (fun j hj => by simpa using (hc j (by simp at hj; omega)).2) (fun v hv => by
    obtain ⟨c, _, rfl⟩ := List.mem_map.1 hv
    rfl)
  cases hq : P.info? elem with
  | none => simp [hq] at hs
  | some i =>
    have hi : i.size = 1 := by simpa [hq] using hs
    simp [Builtin.copy_, run_underlying hu, Builtin.lenOf, Builtin.firstCells, sizeOf, typeInfo, hq, hi, Nat.min_eq_left ht]
    rw [List.take_of_length_le (by simp), hst]
    rfl
theorem Rd.keep {w' : World} {S : Nat → Prop} (h : Rd w b s p e bb) (hk : Kp S w w') (hs : ¬ S b) : Rd w' b s p e bb :=
  ⟨(hk.cell (lt_of_cell h.c0) hs).trans h.c0, (hk.cell (lt_of_cell h.c1) hs).trans h.c1, (hk.cell (lt_of_cell h.c2) hs).trans h.c2, (hk.cell (lt_of_cell h.c3) hs).trans h.c3, (hk.frozen (p := ⟨b, 1, none⟩) (lt_of_cell h.c1) hs).trans h.f1, (hk.frozen (p := ⟨b, 2, none⟩) (lt_of_cell h.c2) hs).trans h.f2, h.le, h.es, h.sz⟩
theorem Kp.setCells {S : Nat → Prop} {a : World} {nb : Nat} (hp : S nb ∨ a.heap.size ≤ nb) : ∀ (vs : List Value) (o : Nat) (w : World), Kp S a w → Kp S a (w.setCells nb o vs)
  | [], _, _, h => h
  | v :: vs, o, w, h => Kp.setCells hp vs (o + 1) _ (h.setCell (p := ⟨nb, o, none⟩) hp v)
theorem bytes8 (t : ByteArray) (j : Nat) (hj : j < t.size) : (t.data.toList.map (fun c => Value.int .u8 c.toNat))[j]? = some (.int .u8 (byteD t j)) := by
  rw [List.getElem?_map, List.getElem?_eq_getElem (by simpa using hj)]
  simp [byteD, hj, bAt]
set_option maxHeartbeats 2000000 in
theorem word_calls (h : Rd w b s p e bb) (n : Nat) (hn : n = 4 ∨ n = 8) : Calls Tryz.prog 238 #[.pointer (some ⟨b, 0, none⟩), .int .i64 n] w (RP encQ (wordS s p e n) b s e bb w) := by
  have HR : Hid _ := h
  have hn4 : n ≤ 8 := by omega
  have HN : Hid _ := h.es
  clear h
  go_enter Tryz.func238, Tryz.ntmps238
  cases ho : takeS s p e n with
  | error f =>
    obtain ⟨c, a⟩ := f
    have HO : Hid _ := ho
    clear ho
    go_wp2_with (go_at_call 120; refine (take_calls HR.out n (by omega)).mono ?_; rintro en w2 hP; obtain ⟨hK, rfl⟩ := hP.err HO.out)
    refine ⟨rfl, RP.mkErr (c := c) (a := a) ?_ hK rfl⟩
    unfold wordS; rw [HO.out]
  | ok x =>
    obtain ⟨t, q⟩ := x
    have hts : t.size = n := by
      unfold takeS at ho
      split at ho
      · simp at ho
      · simp at ho
        obtain ⟨rfl, rfl⟩ := ho
        have := HN.out
        simp [ByteArray.size_extract]
        omega
    have HO : Hid _ := ho
    clear ho
    go_wp2_with (go_at_call 120; refine (take_calls HR.out n (by omega)).mono ?_; rintro en w2 hP; obtain ⟨hK, rfl, hR2⟩ := hP.ok HO.out; unfold encS)
    have hcp := run_copy8 (P := Tryz.prog) (w2.alloc (.cells #[.int .u8 0, .int .u8 0, .int .u8 0, .int .u8 0, .int .u8 0, .int .u8 0, .int .u8 0, .int .u8 0] 263)) 104 9 3 5 w2.heap.size t (by kernel_rfl) (by kernel_rfl) (by omega) (by
      intro j hj
      have : j = 0 ∨ j = 1 ∨ j = 2 ∨ j = 3 ∨ j = 4 ∨ j = 5 ∨ j = 6 ∨ j = 7 := by omega
      rcases this with rfl | rfl | rfl | rfl | rfl | rfl | rfl | rfl <;> simp [go_sem])
    rw [hcp]
    clear hcp
    have hk3 : Kp (fun _ => False) w2 ((w2.alloc (.cells #[.int .u8 0, .int .u8 0, .int .u8 0, .int .u8 0, .int .u8 0, .int .u8 0, .int .u8 0, .int .u8 0] 263)).setCells w2.heap.size 0 (t.data.toList.map (fun c => Value.int .u8 c.toNat))) :=
      Kp.setCells (.inr (Nat.le_refl _)) _ _ _ ((Kp.refl _ w2).alloc _)
    have hcell : ∀ j, j < 8 → ((w2.alloc (.cells #[.int .u8 0, .int .u8 0, .int .u8 0, .int .u8 0, .int .u8 0, .int .u8 0, .int .u8 0, .int .u8 0] 263)).setCells w2.heap.size 0 (t.data.toList.map (fun c => Value.int .u8 c.toNat))).cell? ⟨w2.heap.size, j, none⟩ = some (.int .u8 (byteD t j)) := by
      intro j hj
      have h8 : j = 0 ∨ j = 1 ∨ j = 2 ∨ j = 3 ∨ j = 4 ∨ j = 5 ∨ j = 6 ∨ j = 7 := by omega
      by_cases hjt : j < t.size
      · have := World.cell?_setCells_in w2.heap.size (t.data.toList.map (fun c => Value.int .u8 c.toNat)) 0 (w2.alloc (.cells #[.int .u8 0, .int .u8 0, .int .u8 0, .int .u8 0, .int .u8 0, .int .u8 0, .int .u8 0, .int .u8 0] 263)) (by
          intro i hi
          have hi8 : i < 8 := by simp at hi; omega
          have : i = 0 ∨ i = 1 ∨ i = 2 ∨ i = 3 ∨ i = 4 ∨ i = 5 ∨ i = 6 ∨ i = 7 := by omega
          rcases this with rfl | rfl | rfl | rfl | rfl | rfl | rfl | rfl <;> simp [go_sem]) j (by simpa using hjt)
        rw [Nat.zero_add] at this
        rw [this, ← List.getElem?_eq_getElem, bytes8 t j hjt]
      · rw [World.cell?_setCells_out _ _ _ _ _ (fun _ _ => .inr (by simp; omega))]
        have : byteD t j = 0 := by simp [byteD, hjt]
        rw [this]
        rcases h8 with rfl | rfl | rfl | rfl | rfl | rfl | rfl | rfl <;> simp [go_sem]
    generalize hw3 : (w2.alloc (.cells #[.int .u8 0, .int .u8 0, .int .u8 0, .int .u8 0, .int .u8 0, .int .u8 0, .int .u8 0, .int .u8 0] 263)).setCells w2.heap.size 0 (t.data.toList.map (fun c => Value.int .u8 c.toNat)) = w3 at *
    clear hw3
    have HR3 : Hid _ := hR2.keep hk3 (fun h => h)
    have HK3 : Hid _ := hK.trans (hk3.mono (fun _ h => h.elim))
    clear hk3 hK hR2 hP
    go_wp2
    go_loop [7, 8] (fun v i => ∃ j : Nat, j ≤ 8 ∧ v = .int .u64 (wordL t j) ∧ i = .int .i64 (7 - (j : Int))) (fun _ i => (intOf i + 1).toNat)
    case atStart => exact ⟨0, by omega, rfl, rfl⟩
    case round =>
      obtain ⟨j, hj, rfl, rfl⟩ := hrel
      by_cases hlt : j < 8
      · have hc := hcell (7 - j) (by omega)
        have hv : 0 ≤ wordL t j ∧ wordL t j < 18446744073709551616 := by
          cases j with
          | zero => exact ⟨by simp [wordL], by simp [wordL]⟩
          | succ j => exact bits64 _ _ _
        have hbd : byteD t (7 - j) < 256 := by unfold byteD; split <;> first | exact bAt_lt _ _ | omega
        clear hcell
        go_wp2
        exact ⟨⟨j + 1, by omega, rfl, congrArg (Value.int .i64) (by omega)⟩, by simp [intOf]; omega⟩
      · have hj8 : j = 8 := by omega
        subst hj8
        go_wp2
        go_ret
        refine RP.mkOk (v := wordL t 8) (q := q) ?_ HK3.out rfl HR3.out
        unfold wordS; rw [HO.out]
end
end Go.Proofs.Qxb6500275aGreatDoor
