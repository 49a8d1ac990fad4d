import Derived.Test.Qxb6500275aGreatDoorEo1
import Derived.Deep.RegionWith
set_option maxRecDepth 100000
set_option linter.unusedVariables false
set_option linter.unusedSimpArgs false
namespace Go.Proofs.Qxb6500275aGreatDoor
open Go Go.RowKit
section
variable {α : Type} {enc : α → List Nat} {l : List α}
theorem flat_ne (h : ∀ x, enc x ≠ []) (hl : 0 < l.length) : l.flatMap enc ≠ [] := by
  cases l with
  | nil => simp at hl
  | cons a l =>
    rw [List.flatMap_cons]
    intro e
    exact h a (List.append_eq_nil_iff.1 e).1
theorem flat_take_le (i : Nat) : ((l.take i).flatMap enc).length ≤ (l.flatMap enc).length := by
  conv => rhs; rw [← List.take_append_drop i l, List.flatMap_append, List.length_append]
  omega
theorem flat_succ {i : Nat} {x : α} (h : l[i]? = some x) : (l.take (i + 1)).flatMap enc = (l.take i).flatMap enc ++ enc x := by
  rw [take_snocL h, List.flatMap_append, List.flatMap_cons, List.flatMap_nil, List.append_nil]
theorem flat_all {n : Nat} (h : l.length = n) : (l.take n).flatMap enc = l.flatMap enc := by
  rw [List.take_of_length_le (by omega)]
end
theorem encStr_len {t : ByteArray} (h : t.size ≤ 10000) : (encStr t).length ≤ 5 + t.size := by
  unfold encStr
  have := uLeb_le 4 t.size (by simp; omega)
  rw [List.length_append, natsOf_len]
  omega
theorem section_any {w : World} {ob rb : Nat} {vo vr : Value} {lo lr : List Nat} (ho : Wr w ob vo lo) (hr : Wr w rb vr lr) (ha : Apt ob vo rb vr) (id n : Nat) (hid : id < 256) (hn : n ≤ 1000) (hlr : 0 < n → lr ≠ []) (hlo : lo.length ≤ 40000) (hll : lr.length ≤ 40000) :
    Calls Tryz.prog 122 #[.pointer (some ⟨ob, 0, none⟩), .int .u8 id, .int .i64 n, .pointer (some ⟨rb, 0, none⟩)] w (Sq w ob vo lo (secT id n lr) rb vr) := by
  by_cases h : n = 0
  · subst h
    exact section_zero ho hr ha id hid
  · exact section_pos ho hr ha id n hid (by omega) (hlr (by omega)) hlo hll
theorem E3.section_ {w0 u : World} {B : Nat → Prop} {ob sb fb : Nat} {vo vs vf : Value} {lo ls lf : List Nat} (h : E3 w0 B u ob vo lo sb vs ls fb vf lf) (id n : Nat) (hid : id < 256) (hn : n ≤ 1000) (hlr : 0 < n → ls ≠ []) (hlo : lo.length ≤ 40000) (hll : ls.length ≤ 40000) :
    Calls Tryz.prog 122 #[.pointer (some ⟨ob, 0, none⟩), .int .u8 id, .int .i64 n, .pointer (some ⟨sb, 0, none⟩)] u (fun en u' => en = .returned (.tuple #[]) ∧ ∃ vo' vs', E3 w0 B u' ob vo' (lo ++ secT id n ls) sb vs' [] fb vf lf) :=
  (section_any h.o h.s h.os id n hid hn hlr hlo hll).mono (fun en u' hq => h.sec hq)
theorem encLim_len {a b : Int} (ha : a < 4294967296) (hb : b < 4294967296) : (encLim (a, b)).length ≤ 11 := by
  have h1 := uLeb_le 4 a.toNat (by simp; omega)
  have h2 := uLeb_le 4 b.toNat (by simp; omega)
  unfold encLim
  dsimp only
  split
  · rw [List.length_cons]; omega
  · rw [List.length_cons, List.length_append]; omega
def headT (M : Mod) : List Nat := secTx 1 M (M.funcs.map Fn.ty) ++ secTx 2 M (M.funcs.map Fn.ty) ++ secTx 3 M (M.funcs.map Fn.ty) ++ secTx 4 M (M.funcs.map Fn.ty) ++ secTx 5 M (M.funcs.map Fn.ty)
theorem u32_nat {x : Int} (h : u32R x) : ∃ n : Nat, x = n ∧ n < 4294967296 := by
  unfold u32R at h
  exact ⟨x.toNat, by omega, by omega⟩
theorem vals128 {t : ByteArray} (h : Vals t) : ∀ i, i < t.size → bAt t i < 128 := fun i hi => by
  have := h i hi
  unfold isVal at this
  omega
section
variable {w0 u : World} {B : Nat → Prop} {mb ob sb fb : Nat} {vo vs vf : Value} {lo lf : List Nat} {M : Mod} {ta ia fa ga xa ea da : Option Addr}
set_option maxHeartbeats 8000000 in
theorem encodeHead_calls (hM : ModOk M) (hl : Ml w0 B mb M ta ia fa ga xa ea da) (h : E3 w0 B u ob vo lo sb vs [] fb vf lf) (hb1 : (M.types.flatMap encTy).length ≤ 1024) (hb2 : (M.imports.flatMap encImp).length ≤ 1024) (hb3 : ((M.funcs.map Fn.ty).flatMap encI32).length ≤ 1024)
    (hlo : (lo ++ headT M).length ≤ 2000) :
    Calls Tryz.prog 67 #[.pointer (some ⟨ob, 0, none⟩), .pointer (some ⟨sb, 0, none⟩), .pointer (some ⟨mb, 0, none⟩)] u (fun en u' => en = .returned (.tuple #[]) ∧ ∃ vo' vs', E3 w0 B u' ob vo' (lo ++ headT M) sb vs' [] fb vf lf) := by
  have HM : Hid (ModOk M) := hM
  have HL : Hid (Ml w0 B mb M ta ia fa ga xa ea da) := hl
  have HE : Hid (E3 w0 B u ob vo lo sb vs [] fb vf lf) := h
  have HB1 : Hid ((M.types.flatMap encTy).length ≤ 1024) := hb1
  have HB2 : Hid ((M.imports.flatMap encImp).length ≤ 1024) := hb2
  have HB3 : Hid (((M.funcs.map Fn.ty).flatMap encI32).length ≤ 1024) := hb3
  unfold headT at hlo
  simp only [List.length_append] at hlo
  have HLO : Hid _ := hlo
  obtain ⟨n1, hn1⟩ : ∃ n, M.types.length = n := ⟨_, rfl⟩
  obtain ⟨n2, hn2⟩ : ∃ n, M.imports.length = n := ⟨_, rfl⟩
  obtain ⟨n3, hn3⟩ : ∃ n, M.funcs.length = n := ⟨_, rfl⟩
  have HN1 : Hid (M.types.length = n1) := hn1
  have HN2 : Hid (M.imports.length = n2) := hn2
  have HN3 : Hid (M.funcs.length = n3) := hn3
  have k1 : n1 ≤ 8 := hn1 ▸ hM.nt
  have k2 : n2 ≤ 4 := hn2 ▸ hM.ni
  have k3 : n3 ≤ 8 := hn3 ▸ hM.nf
  clear hM hl h hb1 hb2 hb3 hlo hn1 hn2 hn3
  go_enter Tryz.func67, Tryz.ntmps67
  go_wp2_with fail
  go_loopw [6] (fun ii u1 => ∃ (i : Nat) (vs1 : Value), i ≤ n1 ∧ ii = .int .i64 i ∧ Hid (E3 w0 B u1 ob vo lo sb vs1 ((M.types.take i).flatMap encTy) fb vf lf)) (fun ii _ => n1 + 1 - (intOf ii).toNat)
  case atStart => exact ⟨0, vs, by omega, rfl, HE.out⟩
  case round =>
    clear HE
    obtain ⟨i, vs1, hi, rfl, HE⟩ := hrel
    have hL : ((M.types.take i).flatMap encTy).length ≤ 1024 := Nat.le_trans (flat_take_le i) HB1.out
    by_cases hlt : i < n1
    · obtain ⟨t, ht⟩ : ∃ t, M.types[i]? = some t := ⟨_, List.getElem?_eq_getElem (by rw [HN1.out]; exact hlt)⟩
      obtain ⟨k, rfl, ct⟩ := HL.out.tat i t ht
      have HO : Hid (TyOk t) := HM.out.types t (List.mem_of_getElem? ht)
      have HT : Hid (M.types[i]? = some t) := ht
      have hib : (i : Int) < (n1 : Int) := by omega
      have c0 := HL.out.c0 _ HE.out.kp
      rw [HN1.out] at c0
      have c1 := ct _ HE.out.kp
      clear ht ct
      go_wp2_with fail
      refine (split_quiet t HO.out.p HO.out.np HO.out.nq).mono ?_
      rintro en u2 ⟨rfl, m, rfl⟩
      have HE2 := HE.out.quiet ((Kp.refl (fun _ => False) _).drewM m)
      generalize World.drewN _ m = u2 at HE2 ⊢
      have HE2 : Hid _ := HE2
      clear c0 c1 HE
      go_wp2_with fail
      refine (HE2.out.s.byte (by omega) 96).mono ?_
      rintro en u3 ⟨rfl, v3, r3, e3⟩
      have HE3 : Hid _ := HE2.out.stepS r3 e3
      have lp := encStr_len (t := t.p) (Nat.le_trans HO.out.np (by decide))
      have np := HO.out.np
      clear r3 e3 HE2
      go_wp2_with fail
      refine (wvals_calls HE3.out.s t.p (by omega) (vals128 HO.out.p) (by simp only [List.length_append, List.length_cons, List.length_nil]; omega)).mono ?_
      rintro en u4 ⟨rfl, v4, r4, e4⟩
      have HE4 : Hid _ := HE3.out.stepS r4 e4
      clear r4 e4 HE3
      go_wp2_with fail
      refine (wvals_calls HE4.out.s t.q (Nat.le_trans HO.out.nq (by decide)) (vals128 HO.out.q) (by simp only [List.length_append, List.length_cons, List.length_nil]; omega)).mono ?_
      rintro en u5 ⟨rfl, v5, r5, e5⟩
      have HE5 : Hid _ := HE4.out.stepS r5 e5
      clear r5 e5 HE4
      go_wp2_with fail
      go_roundw
      case rel =>
        refine ⟨i + 1, v5, by omega, by go_num, ?_⟩
        show E3 _ _ _ _ _ _ _ _ _ _ _ _
        rw [flat_succ HT.out]
        rw [show encTy t = 96 :: (encStr t.p ++ encStr t.q) from rfl]
        simpa using HE5.out
      case measure => simp [intOf]; omega
    · have hin : i = n1 := by omega
      subst hin
      rw [flat_all HN1.out] at HE hL
      have hib : decide ((i : Int) < (i : Int)) = false := decide_eq_false (by omega)
      have c0 := HL.out.c0 _ HE.out.kp
      rw [HN1.out] at c0
      go_wp2_with fail
      refine (HE.out.section_ 1 i (by decide) (by omega) (fun e => flat_ne (fun x => by simp [encTy]) (by rw [HN1.out]; exact e)) (by have := HLO.out; omega) (by omega)).mono ?_
      rintro en u2 ⟨rfl, vo2, vs2, e2⟩
      have HE2 : Hid (E3 w0 B u2 ob vo2 (lo ++ secTx 1 M (M.funcs.map Fn.ty)) sb vs2 [] fb vf lf) := by
        show E3 _ _ _ _ _ _ _ _ _ _ _ _
        rw [show secTx 1 M (M.funcs.map Fn.ty) = secT 1 M.types.length (M.types.flatMap encTy) from rfl, HN1.out]
        exact e2
      clear e2 c0 HE hL hib
      go_wp2_with fail
      go_loopw [9] (fun ii u1 => ∃ (i : Nat) (vs1 : Value), i ≤ n2 ∧ ii = .int .i64 i ∧ Hid (E3 w0 B u1 ob vo2 (lo ++ secTx 1 M (M.funcs.map Fn.ty)) sb vs1 ((M.imports.take i).flatMap encImp) fb vf lf)) (fun ii _ => n2 + 1 - (intOf ii).toNat)
      case atStart => exact ⟨0, vs2, by omega, rfl, HE2.out⟩
      case round =>
        clear HE2
        obtain ⟨i, vs1, hi, rfl, HE⟩ := hrel
        have hL : ((M.imports.take i).flatMap encImp).length ≤ 1024 := Nat.le_trans (flat_take_le i) HB2.out
        by_cases hlt : i < n2
        · obtain ⟨t, ht⟩ : ∃ t, M.imports[i]? = some t := ⟨_, List.getElem?_eq_getElem (by rw [HN2.out]; exact hlt)⟩
          obtain ⟨k, rfl, ct⟩ := HL.out.iat i t ht
          have HC : Hid (∀ u, Kp B w0 u → u.cell? ⟨k, i * 3, none⟩ = some (.string t.mod) ∧ u.cell? ⟨k, i * 3 + 1, none⟩ = some (.string t.name) ∧ u.cell? ⟨k, i * 3 + 2, none⟩ = some (.int .i64 t.ty)) := ct
          have HO : Hid (ImpOk t) := HM.out.imports t (List.mem_of_getElem? ht)
          have HT : Hid (M.imports[i]? = some t) := ht
          have hib : (i : Int) < (n2 : Int) := by omega
          obtain ⟨ty, hty, hty2⟩ := u32_nat HO.out.ty
          have HTY : Hid (t.ty = (ty : Int)) := hty
          have np := HO.out.mod
          have nq := HO.out.name
          have lp := encStr_len (t := t.mod) (by omega)
          have lq := encStr_len (t := t.name) (by omega)
          have l5 := uLeb_le 4 ty (by simp; omega)
          have c0 := HL.out.c1 _ HE.out.kp
          rw [HN2.out] at c0
          have c1 := (HC.out _ HE.out.kp).1
          clear ht ct hty
          go_wp2_with fail
          refine (wraw_calls HE.out.s t.mod (by omega) (by omega)).mono ?_
          rintro en u3 ⟨rfl, v3, r3, e3⟩
          have HE3 : Hid _ := HE.out.stepS r3 e3
          clear r3 e3 HE c0 c1
          have c0 := HL.out.c1 _ HE3.out.kp
          rw [HN2.out] at c0
          have c1 := (HC.out _ HE3.out.kp).2.1
          go_wp2_with fail
          refine (wraw_calls HE3.out.s t.name (by omega) (by simp only [List.length_append, List.length_cons, List.length_nil]; omega)).mono ?_
          rintro en u4 ⟨rfl, v4, r4, e4⟩
          have HE4 : Hid _ := HE3.out.stepS r4 e4
          clear r4 e4 HE3 c0 c1
          go_wp2_with fail
          refine (HE4.out.s.byte (by simp only [List.length_append, List.length_cons, List.length_nil]; omega) 0).mono ?_
          rintro en u5 ⟨rfl, v5, r5, e5⟩
          have HE5 : Hid _ := HE4.out.stepS r5 e5
          clear r5 e5 HE4
          have c0 := HL.out.c1 _ HE5.out.kp
          rw [HN2.out] at c0
          have c1 := (HC.out _ HE5.out.kp).2.2
          rw [HTY.out] at c1
          go_wp2_with fail
          refine (wu_calls HE5.out.s ty (by omega) (by simp only [List.length_append, List.length_cons, List.length_nil]; omega)).mono ?_
          rintro en u6 ⟨rfl, v6, r6, e6⟩
          have HE6 : Hid _ := HE5.out.stepS r6 e6
          clear r6 e6 HE5 c0 c1
          go_wp2_with fail
          go_roundw
          case rel =>
            refine ⟨i + 1, v6, by omega, by go_num, ?_⟩
            show E3 _ _ _ _ _ _ _ _ _ _ _ _
            rw [flat_succ HT.out]
            rw [show encImp t = encStr t.mod ++ (encStr t.name ++ (0 :: uLeb t.ty.toNat)) from rfl, HTY.out, Int.toNat_natCast]
            simpa using HE6.out
          case measure => simp [intOf]; omega
        · have hin : i = n2 := by omega
          subst hin
          rw [flat_all HN2.out] at HE hL
          have hib : decide ((i : Int) < (i : Int)) = false := decide_eq_false (by omega)
          have c0 := HL.out.c1 _ HE.out.kp
          rw [HN2.out] at c0
          go_wp2_with fail
          refine (HE.out.section_ 2 i (by decide) (by omega) (fun e => flat_ne (fun x => by simp [encImp]) (by rw [HN2.out]; exact e)) (by have := HLO.out; simp only [List.length_append]; omega) (by omega)).mono ?_
          rintro en u3 ⟨rfl, vo3, vs3, e3⟩
          have HE3 : Hid (E3 w0 B u3 ob vo3 (lo ++ secTx 1 M (M.funcs.map Fn.ty) ++ secTx 2 M (M.funcs.map Fn.ty)) sb vs3 [] fb vf lf) := by
            show E3 _ _ _ _ _ _ _ _ _ _ _ _
            rw [show secTx 2 M (M.funcs.map Fn.ty) = secT 2 M.imports.length (M.imports.flatMap encImp) from rfl, HN2.out]
            exact e3
          clear e3 c0 HE hL hib
          go_wp2_with fail
          go_loopw [10] (fun ii u1 => ∃ (j : Nat) (vs1 : Value), j ≤ n3 ∧ ii = .int .i64 j ∧ Hid (E3 w0 B u1 ob vo3 (lo ++ secTx 1 M (M.funcs.map Fn.ty) ++ secTx 2 M (M.funcs.map Fn.ty)) sb vs1 (((M.funcs.map Fn.ty).take j).flatMap encI32) fb vf lf)) (fun ii _ => n3 + 1 - (intOf ii).toNat)
          case atStart => exact ⟨0, vs3, by omega, rfl, HE3.out⟩
          case round =>
            clear HE3
            obtain ⟨j, vs1, hj, rfl, HE⟩ := hrel
            have hL : (((M.funcs.map Fn.ty).take j).flatMap encI32).length ≤ 1024 := Nat.le_trans (flat_take_le j) HB3.out
            by_cases hlt : j < n3
            · obtain ⟨t, ht⟩ : ∃ t, M.funcs[j]? = some t := ⟨_, List.getElem?_eq_getElem (by rw [HN3.out]; exact hlt)⟩
              obtain ⟨k, vb, vt, rfl, ct⟩ := HL.out.fat j t ht
              have HO : Hid (FnOk t) := HM.out.funcs t (List.mem_of_getElem? ht)
              have HT : Hid ((M.funcs.map Fn.ty)[j]? = some t.ty) := by
                show _ = _
                rw [List.getElem?_map, ht]; rfl
              have hib : (j : Int) < (n3 : Int) := by omega
              obtain ⟨ty, hty, hty2⟩ := u32_nat HO.out.ty
              have HTY : Hid (t.ty = (ty : Int)) := hty
              have l5 := uLeb_le 4 ty (by simp; omega)
              have c0 := HL.out.c2 _ HE.out.kp
              rw [HN3.out] at c0
              have c1 := (ct _ HE.out.kp).1.1
              rw [hty] at c1
              clear ht ct hty
              go_wp2_with fail
              refine (wu_calls HE.out.s ty (by omega) (by omega)).mono ?_
              rintro en u4 ⟨rfl, v4, r4, e4⟩
              have HE4 : Hid _ := HE.out.stepS r4 e4
              clear r4 e4 HE c0 c1
              go_wp2_with fail
              go_roundw
              case rel =>
                refine ⟨j + 1, v4, by omega, by go_num, ?_⟩
                show E3 _ _ _ _ _ _ _ _ _ _ _ _
                rw [flat_succ HT.out]
                rw [show encI32 t.ty = uLeb t.ty.toNat from rfl, HTY.out, Int.toNat_natCast]
                exact HE4.out
              case measure => simp [intOf]; omega
            · have hin : j = n3 := by omega
              subst hin
              rw [flat_all (by rw [List.length_map]; exact HN3.out)] at HE hL
              have hib : decide ((j : Int) < (j : Int)) = false := decide_eq_false (by omega)
              have c0 := HL.out.c2 _ HE.out.kp
              rw [HN3.out] at c0
              go_wp2_with fail
              refine (HE.out.section_ 3 j (by decide) (by omega) (fun e => flat_ne (fun x => by unfold encI32; intro h; have := uLeb_pos x.toNat; rw [h] at this; simp at this) (by rw [List.length_map, HN3.out]; exact e)) (by have := HLO.out; simp only [List.length_append]; omega) (by omega)).mono ?_
              rintro en u4 ⟨rfl, vo4, vs4, e4⟩
              have HE4 : Hid (E3 w0 B u4 ob vo4 (lo ++ secTx 1 M (M.funcs.map Fn.ty) ++ secTx 2 M (M.funcs.map Fn.ty) ++ secTx 3 M (M.funcs.map Fn.ty)) sb vs4 [] fb vf lf) := by
                show E3 _ _ _ _ _ _ _ _ _ _ _ _
                rw [show secTx 3 M (M.funcs.map Fn.ty) = secT 3 (M.funcs.map Fn.ty).length ((M.funcs.map Fn.ty).flatMap encI32) from rfl, List.length_map, HN3.out]
                exact e4
              clear e4 c0 HE hL hib
              have c3 := HL.out.c3 _ HE4.out.kp
              have q3 := HM.out.tabMin
              have q4 := HM.out.tabMax
              obtain ⟨tm, htm⟩ : ∃ x, M.tabMin = x := ⟨_, rfl⟩
              obtain ⟨tx, htx⟩ : ∃ x, M.tabMax = x := ⟨_, rfl⟩
              rw [htm] at c3 q3
              rw [htx] at q4
              have HTM : Hid (M.tabMin = tm) := htm
              have HTX : Hid (M.tabMax = tx) := htx
              unfold limR at q3 q4
              clear htm htx
              by_cases ht0 : 0 ≤ tm
              · go_wp2_with fail
                refine (HE4.out.s.byte (by simp) 112).mono ?_
                rintro en u5 ⟨rfl, v5, r5, e5⟩
                have HE5 : Hid _ := HE4.out.stepS r5 e5
                clear r5 e5 HE4 c3
                have c3 := HL.out.c3 _ HE5.out.kp
                have c4 := HL.out.c4 _ HE5.out.kp
                rw [HTM.out] at c3
                rw [HTX.out] at c4
                go_wp2_with fail
                have hcc : ∀ W, Kp (fun _ => False) _ W → _ := fun W hk => wlimits_calls (HE5.out.s.quiet hk) tm tx ⟨ht0, q3.2⟩ q4 (by simp)
                go_region_with (go_at_call 125; refine (hcc _ (Kp.refl _ _).drew).mono ?_; rintro en u6 ⟨rfl, v6, r6, e6⟩)
                all_goals
                  have HE6 : Hid _ := (HE5.out.quiet (Kp.refl _ _).drew).stepS r6 e6
                  have hl6 : (encLim (tm, tx)).length ≤ 11 := encLim_len q3.2 q4.2
                  clear hcc r6 e6 c3 c4 HE5
                  go_wp2_with fail
                  refine (HE6.out.section_ 4 1 (by decide) (by decide) (fun _ => by simp) (by have := HLO.out; simp only [List.length_append]; omega) (by simp; omega)).mono ?_
                  rintro en u7 ⟨rfl, vo7, vs7, e7⟩
                  have e4t : secTx 4 M (M.funcs.map Fn.ty) = secT 4 1 ([] ++ [112] ++ encLim (tm, tx)) := by
                    show (if 0 ≤ M.tabMin then secT 4 1 (112 :: encLim (M.tabMin, M.tabMax)) else []) = _
                    rw [HTM.out, HTX.out, if_pos ht0]; rfl
                  rw [← e4t] at e7
                  have HE7 : Hid _ := e7
                  clear e7 HE6 e4t hl6
                  have c5 := HL.out.c5 _ HE7.out.kp
                  have c6 := HL.out.c6 _ HE7.out.kp
                  have q5 := HM.out.memMin
                  have q6 := HM.out.memMax
                  obtain ⟨mm, hmm⟩ : ∃ x, M.memMin = x := ⟨_, rfl⟩
                  obtain ⟨mx, hmx⟩ : ∃ x, M.memMax = x := ⟨_, rfl⟩
                  rw [hmm] at c5 q5
                  rw [hmx] at c6 q6
                  have HMM : Hid (M.memMin = mm) := hmm
                  have HMX : Hid (M.memMax = mx) := hmx
                  unfold limR at q5 q6
                  clear hmm hmx
                  by_cases hm0 : 0 ≤ mm
                  · go_wp2_with fail
                    have hcc : ∀ W, Kp (fun _ => False) _ W → _ := fun W hk => wlimits_calls (HE7.out.s.quiet hk) mm mx ⟨hm0, q5.2⟩ q6 (by simp)
                    go_region_with (go_at_call 125; refine (hcc _ (Kp.refl _ _).drew).mono ?_; rintro en uA ⟨rfl, vA, rA, eA⟩)
                    all_goals
                      have HEA : Hid _ := (HE7.out.quiet (Kp.refl _ _).drew).stepS rA eA
                      have hlA : (encLim (mm, mx)).length ≤ 11 := encLim_len q5.2 q6.2
                      clear hcc rA eA c5 c6 HE7
                      go_wp2_with fail
                      refine (HEA.out.section_ 5 1 (by decide) (by decide) (fun _ => by unfold encLim; split <;> simp) (by have := HLO.out; simp only [List.length_append]; omega) (by simp; omega)).mono ?_
                      rintro en uB ⟨rfl, voB, vsB, eB⟩
                      have HEB : Hid _ := eB
                      clear eB HEA
                      go_wp2_with fail
                      refine bodyPost_end (v := .tuple #[]) (by simp [results, Tryz.results67, go_sem]) rfl ?_
                      refine ⟨rfl, voB, vsB, ?_⟩
                      have e := HEB.out
                      have e5 : secTx 5 M (M.funcs.map Fn.ty) = secT 5 1 (encLim (mm, mx)) := by
                        show (if 0 ≤ M.memMin then secT 5 1 (encLim (M.memMin, M.memMax)) else []) = _
                        rw [HMM.out, HMX.out, if_pos hm0]
                      unfold headT
                      rw [e5]
                      simpa [List.append_assoc] using e
                  · have hmb : decide ((0 : Int) ≤ mm) = false := decide_eq_false hm0
                    have hmlt : mm < 0 := by omega
                    go_wp2_with fail
                    refine bodyPost_end (v := .tuple #[]) (by simp [results, Tryz.results67, go_sem]) rfl ?_
                    refine ⟨rfl, vo7, vs7, ?_⟩
                    have e := HE7.out
                    have e5 : secTx 5 M (M.funcs.map Fn.ty) = [] := by
                      show (if 0 ≤ M.memMin then secT 5 1 (encLim (M.memMin, M.memMax)) else []) = _
                      rw [HMM.out, if_neg (by omega)]
                    unfold headT
                    rw [e5]
                    simpa [List.append_assoc] using e

              · have htb : decide ((0 : Int) ≤ tm) = false := decide_eq_false ht0
                have htlt : tm < 0 := by omega
                have e4t : secTx 4 M (M.funcs.map Fn.ty) = [] := by
                  show (if 0 ≤ M.tabMin then secT 4 1 (112 :: encLim (M.tabMin, M.tabMax)) else []) = _
                  rw [HTM.out, if_neg ht0]
                have HE7 : Hid (E3 w0 B u4 ob vo4 (lo ++ secTx 1 M (M.funcs.map Fn.ty) ++ secTx 2 M (M.funcs.map Fn.ty) ++ secTx 3 M (M.funcs.map Fn.ty) ++ secTx 4 M (M.funcs.map Fn.ty)) sb vs4 [] fb vf lf) := by
                  show E3 _ _ _ _ _ _ _ _ _ _ _ _
                  rw [e4t, List.append_nil]
                  exact HE4.out
                clear HE4 e4t
                have c5 := HL.out.c5 _ HE7.out.kp
                have c6 := HL.out.c6 _ HE7.out.kp
                have q5 := HM.out.memMin
                have q6 := HM.out.memMax
                obtain ⟨mm, hmm⟩ : ∃ x, M.memMin = x := ⟨_, rfl⟩
                obtain ⟨mx, hmx⟩ : ∃ x, M.memMax = x := ⟨_, rfl⟩
                rw [hmm] at c5 q5
                rw [hmx] at c6 q6
                have HMM : Hid (M.memMin = mm) := hmm
                have HMX : Hid (M.memMax = mx) := hmx
                unfold limR at q5 q6
                clear hmm hmx
                by_cases hm0 : 0 ≤ mm
                · go_wp2_with fail
                  have hcc : ∀ W, Kp (fun _ => False) _ W → _ := fun W hk => wlimits_calls (HE7.out.s.quiet hk) mm mx ⟨hm0, q5.2⟩ q6 (by simp)
                  go_region_with (go_at_call 125; refine (hcc _ (Kp.refl _ _).drew).mono ?_; rintro en uA ⟨rfl, vA, rA, eA⟩)
                  all_goals
                    have HEA : Hid _ := (HE7.out.quiet (Kp.refl _ _).drew).stepS rA eA
                    have hlA : (encLim (mm, mx)).length ≤ 11 := encLim_len q5.2 q6.2
                    clear hcc rA eA c5 c6 HE7
                    go_wp2_with fail
                    refine (HEA.out.section_ 5 1 (by decide) (by decide) (fun _ => by unfold encLim; split <;> simp) (by have := HLO.out; simp only [List.length_append]; omega) (by simp; omega)).mono ?_
                    rintro en uB ⟨rfl, voB, vsB, eB⟩
                    have HEB : Hid _ := eB
                    clear eB HEA
                    go_wp2_with fail
                    refine bodyPost_end (v := .tuple #[]) (by simp [results, Tryz.results67, go_sem]) rfl ?_
                    refine ⟨rfl, voB, vsB, ?_⟩
                    have e := HEB.out
                    have e5 : secTx 5 M (M.funcs.map Fn.ty) = secT 5 1 (encLim (mm, mx)) := by
                      show (if 0 ≤ M.memMin then secT 5 1 (encLim (M.memMin, M.memMax)) else []) = _
                      rw [HMM.out, HMX.out, if_pos hm0]
                    unfold headT
                    rw [e5]
                    simpa [List.append_assoc] using e
                · have hmb : decide ((0 : Int) ≤ mm) = false := decide_eq_false hm0
                  have hmlt : mm < 0 := by omega
                  go_wp2_with fail
                  refine bodyPost_end (v := .tuple #[]) (by simp [results, Tryz.results67, go_sem]) rfl ?_
                  refine ⟨rfl, vo4, vs4, ?_⟩
                  have e := HE7.out
                  have e5 : secTx 5 M (M.funcs.map Fn.ty) = [] := by
                    show (if 0 ≤ M.memMin then secT 5 1 (encLim (M.memMin, M.memMax)) else []) = _
                    rw [HMM.out, if_neg (by omega)]
                  unfold headT
                  rw [e5]
                  simpa [List.append_assoc] using e

end
end Go.Proofs.Qxb6500275aGreatDoor
