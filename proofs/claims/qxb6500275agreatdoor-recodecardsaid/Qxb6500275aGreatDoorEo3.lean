import Derived.Test.Qxb6500275aGreatDoorEo2
set_option maxRecDepth 100000
set_option linter.unusedVariables false
set_option linter.unusedSimpArgs false
namespace Go.Proofs.Qxb6500275aGreatDoor
open Go Go.RowKit
/- two bytes more -/
theorem Wr.bytes2 {w : World} {wb : Nat} {v : Value} {l : List Nat} (h : Wr w wb v l) (hsm : l.length ≤ 99990) (x y : Nat) :
    Calls Tryz.prog 66 #[.pointer (some ⟨wb, 0, none⟩), .slice (some ⟨w.heap.size, 0, none⟩) 2 2] (w.alloc (.cells #[.int .u8 x, .int .u8 y] 5)) (Wq w wb v (l ++ [x, y])) := by
  have hk : Kp (fun _ => False) w (w.alloc (.cells #[.int .u8 x, .int .u8 y] 5)) := (Kp.refl _ _).alloc _
  have hb := blk_al w #[.int .u8 x, .int .u8 y] 5
  refine (bytes_calls (xs := [x, y]) (h.quiet hk) ⟨w.heap.size, 0, none⟩ 2 2 rfl (fun j z hz => ?_) (by simp; omega)).mono ?_
  · cases j with
    | zero =>
      simp at hz
      subst hz
      exact hb.cell (i := 0) (by simp)
    | succ j =>
      cases j with
      | zero =>
        simp at hz
        subst hz
        exact hb.cell (i := 1) (by simp)
      | succ j => simp at hz
  · rintro en w' ⟨h1, v', h2, h3⟩
    exact ⟨h1, v', h2, We.before hk h3⟩
theorem encCon_len (i : Ins) : (encCon i).length ≤ 12 := by
  unfold encCon
  have := encC_len i.op i.y
  simp only [List.length_cons, List.length_append, List.length_nil]
  omega
def midT (M : Mod) : List Nat := secTx 6 M (M.funcs.map Fn.ty) ++ secTx 7 M (M.funcs.map Fn.ty) ++ secTx 8 M (M.funcs.map Fn.ty) ++ secTx 9 M (M.funcs.map Fn.ty)
section
variable {w0 u : World} {B : Nat → Prop} {mb ob sb fb : Nat} {vo vs vf : Value} {lo lf : List Nat} {M : Mod} {ta ia fa ga xa ea da : Option Addr}
set_option maxHeartbeats 8000000 in
theorem encodeMid_calls (hM : ModOk M) (hl : Ml w0 B mb M ta ia fa ga xa ea da) (h : E3 w0 B u ob vo lo sb vs [] fb vf lf) (hb1 : (M.globals.flatMap encGlob).length ≤ 1024) (hb2 : (M.exports.flatMap encExp).length ≤ 1024) (hb3 : (M.elems.flatMap encElm).length ≤ 1024)
    (hlo : (lo ++ midT M).length ≤ 2000) :
    Calls Tryz.prog 68 #[.pointer (some ⟨ob, 0, none⟩), .pointer (some ⟨sb, 0, none⟩), .pointer (some ⟨mb, 0, none⟩)] u (fun en u' => en = .returned (.tuple #[]) ∧ ∃ vo' vs', E3 w0 B u' ob vo' (lo ++ midT M) sb vs' [] fb vf lf) := by
  have HM : Hid (ModOk M) := hM
  have HL : Hid (Ml w0 B mb M ta ia fa ga xa ea da) := hl
  have HE : Hid (E3 w0 B u ob vo lo sb vs [] fb vf lf) := h
  have HB1 : Hid ((M.globals.flatMap encGlob).length ≤ 1024) := hb1
  have HB2 : Hid ((M.exports.flatMap encExp).length ≤ 1024) := hb2
  have HB3 : Hid ((M.elems.flatMap encElm).length ≤ 1024) := hb3
  unfold midT at hlo
  simp only [List.length_append] at hlo
  have HLO : Hid _ := hlo
  obtain ⟨n1, hn1⟩ : ∃ n, M.globals.length = n := ⟨_, rfl⟩
  obtain ⟨n2, hn2⟩ : ∃ n, M.exports.length = n := ⟨_, rfl⟩
  obtain ⟨n3, hn3⟩ : ∃ n, M.elems.length = n := ⟨_, rfl⟩
  have HN1 : Hid (M.globals.length = n1) := hn1
  have HN2 : Hid (M.exports.length = n2) := hn2
  have HN3 : Hid (M.elems.length = n3) := hn3
  have k1 : n1 ≤ 4 := hn1 ▸ hM.ng
  have k2 : n2 ≤ 6 := hn2 ▸ hM.ne
  have k3 : n3 ≤ 3 := hn3 ▸ hM.nel
  clear hM hl h hb1 hb2 hb3 hlo hn1 hn2 hn3
  go_enter Tryz.func68, Tryz.ntmps68
  go_wp2_with fail
  go_loopw [6] (fun ii u1 => ∃ (i : Nat) (vs1 : Value), i ≤ n1 ∧ ii = .int .i64 i ∧ Hid (E3 w0 B u1 ob vo lo sb vs1 ((M.globals.take i).flatMap encGlob) fb vf lf)) (fun ii _ => n1 + 1 - (intOf ii).toNat)
  case atStart => exact ⟨0, vs, by omega, rfl, HE.out⟩
  case round =>
    clear HE
    obtain ⟨i, vs1, hi, rfl, HE⟩ := hrel
    have hL : ((M.globals.take i).flatMap encGlob).length ≤ 1024 := Nat.le_trans (flat_take_le i) HB1.out
    by_cases hlt : i < n1
    · obtain ⟨g, hg⟩ : ∃ g, M.globals[i]? = some g := ⟨_, List.getElem?_eq_getElem (by rw [HN1.out]; exact hlt)⟩
      obtain ⟨k, rfl, ct⟩ := HL.out.gat i g hg
      have HC : Hid (∀ u, Kp B w0 u → u.cell? ⟨k, i * 5, none⟩ = some (.int .u8 g.ty) ∧ u.cell? ⟨k, i * 5 + 1, none⟩ = some (.bool g.mu) ∧ u.cell? ⟨k, i * 5 + 2, none⟩ = some (.int .u8 g.init.op) ∧ u.cell? ⟨k, i * 5 + 3, none⟩ = some (.int .u32 g.init.x) ∧ u.cell? ⟨k, i * 5 + 4, none⟩ = some (.int .u64 g.init.y)) := ct
      have HO : Hid (GlobOk g) := HM.out.globals g (List.mem_of_getElem? hg)
      have HT : Hid (M.globals[i]? = some g) := hg
      have hib : (i : Int) < (n1 : Int) := by omega
      have c0 := HL.out.c7 _ HE.out.kp
      rw [HN1.out] at c0
      obtain ⟨d0, d1, _⟩ := HC.out _ HE.out.kp
      clear hg ct
      rcases Bool.eq_false_or_eq_true g.mu with hmu | hmu
      · have HMU : Hid (g.mu = true) := hmu
        rw [hmu] at d1
        clear hmu
        go_wp2_with fail
        refine (HE.out.s.bytes2 (by omega) g.ty 1).mono ?_
        rintro en u3 ⟨rfl, v3, r3, e3⟩
        have HE3 : Hid _ := HE.out.stepS r3 e3
        clear r3 e3 HE c0 d0 d1
        have c0 := HL.out.c7 _ HE3.out.kp
        rw [HN1.out] at c0
        obtain ⟨_, _, d2, d3, d4⟩ := HC.out _ HE3.out.kp
        have hk := konst_calls HE3.out.s g.init HO.out.init (by simp only [List.length_append, List.length_cons, List.length_nil]; omega)
        unfold Ins.val at hk
        go_wp2_with fail
        refine hk.mono ?_
        rintro en u4 ⟨rfl, v4, r4, e4⟩
        have HE4 : Hid _ := HE3.out.stepS r4 e4
        clear r4 e4 HE3 c0 d2 d3 d4 hk
        go_wp2_with fail
        go_roundw
        case rel =>
          refine ⟨i + 1, v4, by omega, by go_num, ?_⟩
          show E3 _ _ _ _ _ _ _ _ _ _ _ _
          rw [flat_succ HT.out]
          rw [show encGlob g = g.ty :: ((if g.mu then 1 else 0) :: encCon g.init) from rfl, HMU.out]
          simpa using HE4.out
        case measure => simp [intOf]; omega
      · have HMU : Hid (g.mu = false) := hmu
        rw [hmu] at d1
        clear hmu
        go_wp2_with fail
        refine (HE.out.s.bytes2 (by omega) g.ty 0).mono ?_
        rintro en u3 ⟨rfl, v3, r3, e3⟩
        have HE3 : Hid _ := HE.out.stepS r3 e3
        clear r3 e3 HE c0 d0 d1
        have c0 := HL.out.c7 _ HE3.out.kp
        rw [HN1.out] at c0
        obtain ⟨_, _, d2, d3, d4⟩ := HC.out _ HE3.out.kp
        have hk := konst_calls HE3.out.s g.init HO.out.init (by simp only [List.length_append, List.length_cons, List.length_nil]; omega)
        unfold Ins.val at hk
        go_wp2_with fail
        refine hk.mono ?_
        rintro en u4 ⟨rfl, v4, r4, e4⟩
        have HE4 : Hid _ := HE3.out.stepS r4 e4
        clear r4 e4 HE3 c0 d2 d3 d4 hk
        go_wp2_with fail
        go_roundw
        case rel =>
          refine ⟨i + 1, v4, by omega, by go_num, ?_⟩
          show E3 _ _ _ _ _ _ _ _ _ _ _ _
          rw [flat_succ HT.out]
          rw [show encGlob g = g.ty :: ((if g.mu then 1 else 0) :: encCon g.init) from rfl, HMU.out]
          simpa using HE4.out
        case measure => simp [intOf]; omega
    · have hin : i = n1 := by omega
      subst hin
      rw [flat_all HN1.out] at HE hL
      have hib : decide ((i : Int) < (i : Int)) = false := decide_eq_false (by omega)
      have c0 := HL.out.c7 _ HE.out.kp
      rw [HN1.out] at c0
      go_wp2_with fail
      refine (HE.out.section_ 6 i (by decide) (by omega) (fun e => flat_ne (fun x => by simp [encGlob]) (by rw [HN1.out]; exact e)) (by have := HLO.out; omega) (by omega)).mono ?_
      rintro en u2 ⟨rfl, vo2, vs2, e2⟩
      have HE2 : Hid (E3 w0 B u2 ob vo2 (lo ++ secTx 6 M (M.funcs.map Fn.ty)) sb vs2 [] fb vf lf) := by
        show E3 _ _ _ _ _ _ _ _ _ _ _ _
        rw [show secTx 6 M (M.funcs.map Fn.ty) = secT 6 M.globals.length (M.globals.flatMap encGlob) from rfl, HN1.out]
        exact e2
      clear e2 c0 HE hL hib
      go_wp2_with fail
      go_loopw [8] (fun ii u1 => ∃ (i : Nat) (vs1 : Value), i ≤ n2 ∧ ii = .int .i64 i ∧ Hid (E3 w0 B u1 ob vo2 (lo ++ secTx 6 M (M.funcs.map Fn.ty)) sb vs1 ((M.exports.take i).flatMap encExp) fb vf lf)) (fun ii _ => n2 + 1 - (intOf ii).toNat)
      case atStart => exact ⟨0, vs2, by omega, rfl, HE2.out⟩
      case round =>
        clear HE2
        obtain ⟨i, vs1, hi, rfl, HE⟩ := hrel
        have hL : ((M.exports.take i).flatMap encExp).length ≤ 1024 := Nat.le_trans (flat_take_le i) HB2.out
        by_cases hlt : i < n2
        · obtain ⟨g, hg⟩ : ∃ g, M.exports[i]? = some g := ⟨_, List.getElem?_eq_getElem (by rw [HN2.out]; exact hlt)⟩
          obtain ⟨k, rfl, ct⟩ := HL.out.xat i g hg
          have HC : Hid (∀ u, Kp B w0 u → u.cell? ⟨k, i * 3, none⟩ = some (.string g.name) ∧ u.cell? ⟨k, i * 3 + 1, none⟩ = some (.int .u8 g.kind) ∧ u.cell? ⟨k, i * 3 + 2, none⟩ = some (.int .u32 g.idx)) := ct
          have HO : Hid (ExpOk g) := HM.out.exports g (List.mem_of_getElem? hg)
          have HT : Hid (M.exports[i]? = some g) := hg
          have hib : (i : Int) < (n2 : Int) := by omega
          obtain ⟨ty, hty, hty2⟩ := u32_nat HO.out.idx
          have HTY : Hid (g.idx = (ty : Int)) := hty
          have nq := HO.out.name
          have lq := encStr_len (t := g.name) (by omega)
          have l5 := uLeb_le 4 ty (by simp; omega)
          have c0 := HL.out.c8 _ HE.out.kp
          rw [HN2.out] at c0
          have c1 := (HC.out _ HE.out.kp).1
          clear hg ct hty
          go_wp2_with fail
          refine (wraw_calls HE.out.s g.name (by omega) (by omega)).mono ?_
          rintro en u3 ⟨rfl, v3, r3, e3⟩
          have HE3 : Hid _ := HE.out.stepS r3 e3
          clear r3 e3 HE c0 c1
          have c0 := HL.out.c8 _ HE3.out.kp
          rw [HN2.out] at c0
          have c1 := (HC.out _ HE3.out.kp).2.1
          go_wp2_with fail
          refine (HE3.out.s.byte (by simp only [List.length_append, List.length_cons, List.length_nil]; omega) g.kind).mono ?_
          rintro en u4 ⟨rfl, v4, r4, e4⟩
          have HE4 : Hid _ := HE3.out.stepS r4 e4
          clear r4 e4 HE3 c0 c1
          have c0 := HL.out.c8 _ HE4.out.kp
          rw [HN2.out] at c0
          have c1 := (HC.out _ HE4.out.kp).2.2
          rw [HTY.out] at c1
          go_wp2_with fail
          refine (wu_calls HE4.out.s ty (by omega) (by simp only [List.length_append, List.length_cons, List.length_nil]; omega)).mono ?_
          rintro en u6 ⟨rfl, v6, r6, e6⟩
          have HE6 : Hid _ := HE4.out.stepS r6 e6
          clear r6 e6 HE4 c0 c1
          go_wp2_with fail
          go_roundw
          case rel =>
            refine ⟨i + 1, v6, by omega, by go_num, ?_⟩
            show E3 _ _ _ _ _ _ _ _ _ _ _ _
            rw [flat_succ HT.out]
            rw [show encExp g = encStr g.name ++ (g.kind :: uLeb g.idx.toNat) from rfl, HTY.out, Int.toNat_natCast]
            simpa using HE6.out
          case measure => simp [intOf]; omega
        · have hin : i = n2 := by omega
          subst hin
          rw [flat_all HN2.out] at HE hL
          have hib : decide ((i : Int) < (i : Int)) = false := decide_eq_false (by omega)
          have c0 := HL.out.c8 _ HE.out.kp
          rw [HN2.out] at c0
          go_wp2_with fail
          refine (HE.out.section_ 7 i (by decide) (by omega) (fun e => flat_ne (fun x => by simp [encExp]) (by rw [HN2.out]; exact e)) (by have := HLO.out; simp only [List.length_append]; omega) (by omega)).mono ?_
          rintro en u3 ⟨rfl, vo3, vs3, e3⟩
          have HE3 : Hid (E3 w0 B u3 ob vo3 (lo ++ secTx 6 M (M.funcs.map Fn.ty) ++ secTx 7 M (M.funcs.map Fn.ty)) sb vs3 [] fb vf lf) := by
            show E3 _ _ _ _ _ _ _ _ _ _ _ _
            rw [show secTx 7 M (M.funcs.map Fn.ty) = secT 7 M.exports.length (M.exports.flatMap encExp) from rfl, HN2.out]
            exact e3
          clear e3 c0 HE hL hib
          have c9 := HL.out.c9 _ HE3.out.kp
          have q9 := HM.out.start
          obtain ⟨sx, hsx⟩ : ∃ x, M.start = x := ⟨_, rfl⟩
          rw [hsx] at c9 q9
          have HSX : Hid (M.start = sx) := hsx
          unfold limR at q9
          clear hsx
          by_cases hs0 : 0 ≤ sx
          · obtain ⟨st, hst⟩ : ∃ n : Nat, sx = n := ⟨sx.toNat, by omega⟩
            subst hst
            have l5 := uLeb_le 4 st (by simp; omega)
            have l1 := uLeb_pos st
            obtain ⟨kk, hkk⟩ : ∃ k, (uLeb st).length = k := ⟨_, rfl⟩
            have hul := fun W : World => ulen_calls W st (by omega) (by omega)
            rw [hkk] at hul l5 l1
            have HKK : Hid ((uLeb st).length = kk) := hkk
            clear hkk
            go_wp2_with fail
            refine (hul _).mono ?_
            rintro en u4 ⟨rfl, k4⟩
            have HE4 : Hid _ := HE3.out.quiet k4
            clear k4 HE3 hul c9
            go_wp2_with fail
            refine (HE4.out.o.bytes2 (by have := HLO.out; simp only [List.length_append]; omega) 8 kk).mono ?_
            rintro en u5 ⟨rfl, v5, r5, e5⟩
            have HE5 : Hid _ := HE4.out.stepO r5 e5
            clear r5 e5 HE4
            have c9 := HL.out.c9 _ HE5.out.kp
            rw [HSX.out] at c9
            go_wp2_with fail
            refine (wu_calls HE5.out.o st (by omega) (by have := HLO.out; have := HKK.out; simp only [List.length_append, List.length_cons, List.length_nil]; omega)).mono ?_
            rintro en u6 ⟨rfl, v6, r6, e6⟩
            have e6t : secTx 8 M (M.funcs.map Fn.ty) = [8, kk] ++ uLeb st := by
              show (if 0 ≤ M.start then 8 :: (uLeb (uLeb M.start.toNat).length ++ uLeb M.start.toNat) else []) = _
              rw [HSX.out, if_pos hs0, Int.toNat_natCast, HKK.out, uLeb_lt (by omega)]
              rfl
            have e7 := HE5.out.stepO r6 e6
            rw [List.append_assoc _ [8, kk], ← e6t] at e7
            have HE7 : Hid _ := e7
            clear r6 e6 e6t e7 c9 HE5
            go_wp2_with fail
            go_loopw [10] (fun ii u1 => ∃ (i : Nat) (vs1 : Value), i ≤ n3 ∧ ii = .int .i64 i ∧ Hid (E3 w0 B u1 ob v6 (lo ++ secTx 6 M (M.funcs.map Fn.ty) ++ secTx 7 M (M.funcs.map Fn.ty) ++ secTx 8 M (M.funcs.map Fn.ty)) sb vs1 ((M.elems.take i).flatMap encElm) fb vf lf)) (fun ii _ => n3 + 1 - (intOf ii).toNat)
            case atStart => exact ⟨0, vs3, by omega, rfl, HE7.out⟩
            case round =>
              clear HE7
              obtain ⟨i, vs1, hi, rfl, HE⟩ := hrel
              have hL : ((M.elems.take i).flatMap encElm).length ≤ 1024 := Nat.le_trans (flat_take_le i) HB3.out
              by_cases hlt : i < n3
              · obtain ⟨g, hg⟩ : ∃ g, M.elems[i]? = some g := ⟨_, List.getElem?_eq_getElem (by rw [HN3.out]; exact hlt)⟩
                obtain ⟨k, vfn, rfl, ct⟩ := HL.out.eat i g hg
                have HC : Hid (∀ u, Kp B w0 u → (u.cell? ⟨k, i * 4, none⟩ = some (.int .u8 g.off.op) ∧ u.cell? ⟨k, i * 4 + 1, none⟩ = some (.int .u32 g.off.x) ∧ u.cell? ⟨k, i * 4 + 2, none⟩ = some (.int .u64 g.off.y) ∧ u.cell? ⟨k, i * 4 + 3, none⟩ = some vfn) ∧ TabAt u (mb + 1) vfn g.fns) := ct
                have HO : Hid (ElmOk g) := HM.out.elems g (List.mem_of_getElem? hg)
                have HT : Hid (M.elems[i]? = some g) := hg
                have hib : (i : Int) < (n3 : Int) := by omega
                obtain ⟨a, hvf⟩ := tab_slice (ct _ HE.out.kp).2
                obtain ⟨nn, hnn⟩ : ∃ n, g.fns.length = n := ⟨_, rfl⟩
                rw [hnn] at hvf
                have HNN : Hid (g.fns.length = nn) := hnn
                have hn6 : nn ≤ 6 := hnn ▸ HO.out.n
                subst hvf
                have hcl := encCon_len g.off
                have c0 := HL.out.c10 _ HE.out.kp
                rw [HN3.out] at c0
                have d3 := (HC.out _ HE.out.kp).1.2.2.2
                clear hg ct hnn
                go_wp2_with fail
                refine (HE.out.s.byte (by omega) 0).mono ?_
                rintro en u3 ⟨rfl, v3, r3, e3⟩
                have HE3 : Hid _ := HE.out.stepS r3 e3
                clear r3 e3 HE c0 d3
                have c0 := HL.out.c10 _ HE3.out.kp
                rw [HN3.out] at c0
                obtain ⟨d0, d1, d2, _⟩ := (HC.out _ HE3.out.kp).1
                have hk := konst_calls HE3.out.s g.off HO.out.off (by simp only [List.length_append, List.length_cons, List.length_nil]; omega)
                unfold Ins.val at hk
                go_wp2_with fail
                refine hk.mono ?_
                rintro en u4 ⟨rfl, v4, r4, e4⟩
                have HE4 : Hid _ := HE3.out.stepS r4 e4
                clear r4 e4 HE3 c0 d0 d1 d2 hk
                have l5 := uLeb_le 4 nn (by simp; omega)
                go_wp2_with fail
                refine (wu_calls HE4.out.s nn (by omega) (by simp only [List.length_append, List.length_cons, List.length_nil]; omega)).mono ?_
                rintro en u5 ⟨rfl, v5, r5, e5⟩
                have HE5 : Hid _ := HE4.out.stepS r5 e5
                clear r5 e5 HE4
                go_wp2_with fail
                go_loopw [12] (fun jj u2 => ∃ (j : Nat) (vs2 : Value), j ≤ nn ∧ jj = .int .i64 j ∧ Hid (E3 w0 B u2 ob v6 (lo ++ secTx 6 M (M.funcs.map Fn.ty) ++ secTx 7 M (M.funcs.map Fn.ty) ++ secTx 8 M (M.funcs.map Fn.ty)) sb vs2 ((M.elems.take i).flatMap encElm ++ [0] ++ encCon g.off ++ uLeb nn ++ (g.fns.take j).flatMap encI32) fb vf lf)) (fun jj _ => nn + 1 - (intOf jj).toNat)
                case atStart => exact ⟨0, v5, by omega, rfl, by show E3 _ _ _ _ _ _ _ _ _ _ _ _; simpa using HE5.out⟩
                case round =>
                  clear HE5
                  obtain ⟨j, vs2, hj, rfl, HE⟩ := hrel
                  by_cases hjt : j < nn
                  · obtain ⟨t, ht⟩ : ∃ t, g.fns[j]? = some t := ⟨_, List.getElem?_eq_getElem (by rw [HNN.out]; exact hjt)⟩
                    obtain ⟨kb, rfl, ck⟩ := tab_cell (HC.out _ HE.out.kp).2 HNN.out ht
                    obtain ⟨ty, hty, hty2⟩ := u32_nat (HO.out.fns t (List.mem_of_getElem? ht))
                    subst hty
                    have HTT : Hid (g.fns[j]? = some (ty : Int)) := ht
                    have hjb : (j : Int) < (nn : Int) := by omega
                    have l6 := uLeb_le 4 ty (by simp; omega)
                    have hlj : ((g.fns.take j).flatMap encI32).length ≤ 30 := Nat.le_trans (flat_take_le j) (Nat.le_trans (labs_len HO.out.fns) (by rw [HNN.out]; omega))
                    clear ht
                    go_wp2_with fail
                    refine (wu_calls HE.out.s ty (by omega) (by simp only [List.length_append, List.length_cons, List.length_nil]; omega)).mono ?_
                    rintro en u6 ⟨rfl, v6, r6, e6⟩
                    have HE6 : Hid _ := HE.out.stepS r6 e6
                    clear r6 e6 HE ck
                    go_wp2_with fail
                    go_roundw
                    case rel =>
                      refine ⟨j + 1, v6, by omega, by go_num, ?_⟩
                      show E3 _ _ _ _ _ _ _ _ _ _ _ _
                      rw [flat_succ HTT.out]
                      rw [show encI32 (ty : Int) = uLeb (ty : Int).toNat from rfl, Int.toNat_natCast]
                      simpa using HE6.out
                    case measure => simp [intOf]; omega
                  · have hjn : j = nn := by omega
                    subst hjn
                    have hjb : decide ((j : Int) < (j : Int)) = false := decide_eq_false (by omega)
                    rw [flat_all HNN.out] at HE
                    go_wp2_with fail
                    go_roundw
                    case rel =>
                      refine ⟨i + 1, vs2, by omega, by go_num, ?_⟩
                      show E3 _ _ _ _ _ _ _ _ _ _ _ _
                      rw [flat_succ HT.out]
                      rw [show encElm g = 0 :: (encCon g.off ++ (uLeb g.fns.length ++ g.fns.flatMap encI32)) from rfl, HNN.out]
                      simpa using HE.out
                    case measure => simp [intOf]; omega
              · have hin : i = n3 := by omega
                subst hin
                rw [flat_all HN3.out] at HE hL
                have hib : decide ((i : Int) < (i : Int)) = false := decide_eq_false (by omega)
                have c0 := HL.out.c10 _ HE.out.kp
                rw [HN3.out] at c0
                go_wp2_with fail
                refine (HE.out.section_ 9 i (by decide) (by omega) (fun e => flat_ne (fun x => by simp [encElm]) (by rw [HN3.out]; exact e)) (by have := HLO.out; simp only [List.length_append]; omega) (by omega)).mono ?_
                rintro en u9 ⟨rfl, vo9, vs9, e9⟩
                have HE9 : Hid _ := e9
                clear e9 c0 HE
                go_wp2_with fail
                refine bodyPost_end (v := .tuple #[]) (by simp [results, Tryz.results68, go_sem]) rfl ?_
                refine ⟨rfl, vo9, vs9, ?_⟩
                have e := HE9.out
                unfold midT
                rw [show secTx 9 M (M.funcs.map Fn.ty) = secT 9 M.elems.length (M.elems.flatMap encElm) from rfl, HN3.out]
                simpa only [List.append_assoc] using e
          · have hsb : decide ((0 : Int) ≤ sx) = false := decide_eq_false hs0
            have hslt : sx < 0 := by omega
            have e6t : secTx 8 M (M.funcs.map Fn.ty) = [] := by
              show (if 0 ≤ M.start then 8 :: (uLeb (uLeb M.start.toNat).length ++ uLeb M.start.toNat) else []) = _
              rw [HSX.out, if_neg hs0]
            have HE7 : Hid (E3 w0 B u3 ob vo3 (lo ++ secTx 6 M (M.funcs.map Fn.ty) ++ secTx 7 M (M.funcs.map Fn.ty) ++ secTx 8 M (M.funcs.map Fn.ty)) sb vs3 [] fb vf lf) := by
              show E3 _ _ _ _ _ _ _ _ _ _ _ _
              rw [e6t, List.append_nil]
              exact HE3.out
            clear HE3 e6t
            go_wp2_with fail
            go_loopw [10] (fun ii u1 => ∃ (i : Nat) (vs1 : Value), i ≤ n3 ∧ ii = .int .i64 i ∧ Hid (E3 w0 B u1 ob vo3 (lo ++ secTx 6 M (M.funcs.map Fn.ty) ++ secTx 7 M (M.funcs.map Fn.ty) ++ secTx 8 M (M.funcs.map Fn.ty)) sb vs1 ((M.elems.take i).flatMap encElm) fb vf lf)) (fun ii _ => n3 + 1 - (intOf ii).toNat)
            case atStart => exact ⟨0, vs3, by omega, rfl, HE7.out⟩
            case round =>
              clear HE7
              obtain ⟨i, vs1, hi, rfl, HE⟩ := hrel
              have hL : ((M.elems.take i).flatMap encElm).length ≤ 1024 := Nat.le_trans (flat_take_le i) HB3.out
              by_cases hlt : i < n3
              · obtain ⟨g, hg⟩ : ∃ g, M.elems[i]? = some g := ⟨_, List.getElem?_eq_getElem (by rw [HN3.out]; exact hlt)⟩
                obtain ⟨k, vfn, rfl, ct⟩ := HL.out.eat i g hg
                have HC : Hid (∀ u, Kp B w0 u → (u.cell? ⟨k, i * 4, none⟩ = some (.int .u8 g.off.op) ∧ u.cell? ⟨k, i * 4 + 1, none⟩ = some (.int .u32 g.off.x) ∧ u.cell? ⟨k, i * 4 + 2, none⟩ = some (.int .u64 g.off.y) ∧ u.cell? ⟨k, i * 4 + 3, none⟩ = some vfn) ∧ TabAt u (mb + 1) vfn g.fns) := ct
                have HO : Hid (ElmOk g) := HM.out.elems g (List.mem_of_getElem? hg)
                have HT : Hid (M.elems[i]? = some g) := hg
                have hib : (i : Int) < (n3 : Int) := by omega
                obtain ⟨a, hvf⟩ := tab_slice (ct _ HE.out.kp).2
                obtain ⟨nn, hnn⟩ : ∃ n, g.fns.length = n := ⟨_, rfl⟩
                rw [hnn] at hvf
                have HNN : Hid (g.fns.length = nn) := hnn
                have hn6 : nn ≤ 6 := hnn ▸ HO.out.n
                subst hvf
                have hcl := encCon_len g.off
                have c0 := HL.out.c10 _ HE.out.kp
                rw [HN3.out] at c0
                have d3 := (HC.out _ HE.out.kp).1.2.2.2
                clear hg ct hnn
                go_wp2_with fail
                refine (HE.out.s.byte (by omega) 0).mono ?_
                rintro en u3 ⟨rfl, v3, r3, e3⟩
                have HE3 : Hid _ := HE.out.stepS r3 e3
                clear r3 e3 HE c0 d3
                have c0 := HL.out.c10 _ HE3.out.kp
                rw [HN3.out] at c0
                obtain ⟨d0, d1, d2, _⟩ := (HC.out _ HE3.out.kp).1
                have hk := konst_calls HE3.out.s g.off HO.out.off (by simp only [List.length_append, List.length_cons, List.length_nil]; omega)
                unfold Ins.val at hk
                go_wp2_with fail
                refine hk.mono ?_
                rintro en u4 ⟨rfl, v4, r4, e4⟩
                have HE4 : Hid _ := HE3.out.stepS r4 e4
                clear r4 e4 HE3 c0 d0 d1 d2 hk
                have l5 := uLeb_le 4 nn (by simp; omega)
                go_wp2_with fail
                refine (wu_calls HE4.out.s nn (by omega) (by simp only [List.length_append, List.length_cons, List.length_nil]; omega)).mono ?_
                rintro en u5 ⟨rfl, v5, r5, e5⟩
                have HE5 : Hid _ := HE4.out.stepS r5 e5
                clear r5 e5 HE4
                go_wp2_with fail
                go_loopw [12] (fun jj u2 => ∃ (j : Nat) (vs2 : Value), j ≤ nn ∧ jj = .int .i64 j ∧ Hid (E3 w0 B u2 ob vo3 (lo ++ secTx 6 M (M.funcs.map Fn.ty) ++ secTx 7 M (M.funcs.map Fn.ty) ++ secTx 8 M (M.funcs.map Fn.ty)) sb vs2 ((M.elems.take i).flatMap encElm ++ [0] ++ encCon g.off ++ uLeb nn ++ (g.fns.take j).flatMap encI32) fb vf lf)) (fun jj _ => nn + 1 - (intOf jj).toNat)
                case atStart => exact ⟨0, v5, by omega, rfl, by show E3 _ _ _ _ _ _ _ _ _ _ _ _; simpa using HE5.out⟩
                case round =>
                  clear HE5
                  obtain ⟨j, vs2, hj, rfl, HE⟩ := hrel
                  by_cases hjt : j < nn
                  · obtain ⟨t, ht⟩ : ∃ t, g.fns[j]? = some t := ⟨_, List.getElem?_eq_getElem (by rw [HNN.out]; exact hjt)⟩
                    obtain ⟨kb, rfl, ck⟩ := tab_cell (HC.out _ HE.out.kp).2 HNN.out ht
                    obtain ⟨ty, hty, hty2⟩ := u32_nat (HO.out.fns t (List.mem_of_getElem? ht))
                    subst hty
                    have HTT : Hid (g.fns[j]? = some (ty : Int)) := ht
                    have hjb : (j : Int) < (nn : Int) := by omega
                    have l6 := uLeb_le 4 ty (by simp; omega)
                    have hlj : ((g.fns.take j).flatMap encI32).length ≤ 30 := Nat.le_trans (flat_take_le j) (Nat.le_trans (labs_len HO.out.fns) (by rw [HNN.out]; omega))
                    clear ht
                    go_wp2_with fail
                    refine (wu_calls HE.out.s ty (by omega) (by simp only [List.length_append, List.length_cons, List.length_nil]; omega)).mono ?_
                    rintro en u6 ⟨rfl, v6, r6, e6⟩
                    have HE6 : Hid _ := HE.out.stepS r6 e6
                    clear r6 e6 HE ck
                    go_wp2_with fail
                    go_roundw
                    case rel =>
                      refine ⟨j + 1, v6, by omega, by go_num, ?_⟩
                      show E3 _ _ _ _ _ _ _ _ _ _ _ _
                      rw [flat_succ HTT.out]
                      rw [show encI32 (ty : Int) = uLeb (ty : Int).toNat from rfl, Int.toNat_natCast]
                      simpa using HE6.out
                    case measure => simp [intOf]; omega
                  · have hjn : j = nn := by omega
                    subst hjn
                    have hjb : decide ((j : Int) < (j : Int)) = false := decide_eq_false (by omega)
                    rw [flat_all HNN.out] at HE
                    go_wp2_with fail
                    go_roundw
                    case rel =>
                      refine ⟨i + 1, vs2, by omega, by go_num, ?_⟩
                      show E3 _ _ _ _ _ _ _ _ _ _ _ _
                      rw [flat_succ HT.out]
                      rw [show encElm g = 0 :: (encCon g.off ++ (uLeb g.fns.length ++ g.fns.flatMap encI32)) from rfl, HNN.out]
                      simpa using HE.out
                    case measure => simp [intOf]; omega
              · have hin : i = n3 := by omega
                subst hin
                rw [flat_all HN3.out] at HE hL
                have hib : decide ((i : Int) < (i : Int)) = false := decide_eq_false (by omega)
                have c0 := HL.out.c10 _ HE.out.kp
                rw [HN3.out] at c0
                go_wp2_with fail
                refine (HE.out.section_ 9 i (by decide) (by omega) (fun e => flat_ne (fun x => by simp [encElm]) (by rw [HN3.out]; exact e)) (by have := HLO.out; simp only [List.length_append]; omega) (by omega)).mono ?_
                rintro en u9 ⟨rfl, vo9, vs9, e9⟩
                have HE9 : Hid _ := e9
                clear e9 c0 HE
                go_wp2_with fail
                refine bodyPost_end (v := .tuple #[]) (by simp [results, Tryz.results68, go_sem]) rfl ?_
                refine ⟨rfl, vo9, vs9, ?_⟩
                have e := HE9.out
                unfold midT
                rw [show secTx 9 M (M.funcs.map Fn.ty) = secT 9 M.elems.length (M.elems.flatMap encElm) from rfl, HN3.out]
                simpa only [List.append_assoc] using e
end
end Go.Proofs.Qxb6500275aGreatDoor
