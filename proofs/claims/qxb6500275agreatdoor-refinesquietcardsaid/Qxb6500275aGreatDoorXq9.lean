import Derived.Test.Qxb6500275aGreatDoorXq3
import Derived.Test.Qxb6500275aGreatDoorXq5
import Derived.Test.Qxb6500275aGreatDoorSt3
import Derived.Test.Qxb6500275aGreatDoorIv2
import Derived.Test.Qxb6500275aGreatDoorSh1
set_option maxRecDepth 100000
set_option linter.unusedVariables false
set_option linter.unusedSimpArgs false
namespace Go.Proofs.Qxb6500275aGreatDoor
open Go Go.RowKit
/- the arguments -/
def argV (t : Ty) (args : ByteArray) : List MV := (List.range t.p.size).map (fun i => ⟨bAt t.p i, argW t args i⟩)
section
variable {w w0 u : World} {N N0 : EN} {A : Nat → Prop} {st0 st : Ma} {a : Ia} {name args : ByteArray} {t : Ty} {n : Nat} {S : Sm} {H : Hm} {va : Value} {j : Nat} {vs : List MV}
theorem argV_len : (argV t args).length = t.p.size := by simp [argV]
theorem argV_get (hj : j < t.p.size) : (argV t args)[j]? = some ⟨bAt t.p j, argW t args j⟩ := by
  unfold argV
  rw [List.getElem?_map, List.getElem?_range hj]
  rfl
theorem argV_bits : bitsM (argV t args) = argsW t args := by
  unfold bitsM argV argsW
  rw [List.map_map]
  rfl
theorem argV_ty : (argV t args).map MV.t = tysB t.p := by
  refine List.ext_getElem? (fun i => ?_)
  by_cases hi : i < t.p.size
  · rw [List.getElem?_map, argV_get hi, tysB_get hi]; rfl
  · rw [List.getElem?_eq_none (by rw [List.length_map, argV_len]; omega), List.getElem?_eq_none (by rw [tysB_len]; omega)]
theorem argV_ok (hT : Vals t.p) : ∀ v, v ∈ argV t args → VOk v := by
  intro v hv
  unfold argV at hv
  obtain ⟨i, hi, rfl⟩ := List.mem_map.1 hv
  have hi2 : i < t.p.size := List.mem_range.1 hi
  refine ⟨hT i hi2, argW_lt i, fun e => ?_⟩
  dsimp only at e ⊢
  unfold argW pAt
  rw [if_pos hi2, e]
  unfold cutB
  rw [if_pos (.inl rfl)]
  omega
/- amid the arguments -/
structure Ivz (w0 u : World) (N0 N : EN) (n : Nat) (S : Sm) (H : Hm) (vs : List MV) (va : Value) (j : Nat) : Prop where
  e : Em u N n S H
  o : OR u 229 2 va j (valC (vs.take j))
  f : ∀ k, va.ownBlock = some k → ¬ N.all k ∧ w0.heap.size ≤ k
  g : Gw w0 u N0.all N.all
theorem Ivz.step (h : Ivz w0 u N0 N n S H vs va j) {v : MV} (hv : vs[j]? = some v) (hb : j ≤ 1000) :
    ∃ v' w', (Builtin.append_ #[227, 227] 227 #[va, .slice (some ⟨u.heap.size, 0, none⟩) 1 1]).run Tryz.prog (u.alloc (.cells #[.int .u8 (v.t : Int), .int .u64 (v.b : Int)] 229)) = .ok v' w' ∧ (∃ a n c, v' = .slice a n c) ∧ Hid (Ivz w0 w' N0 N n S H vs v' (j + 1)) := by
  obtain ⟨i, z, i1, i2, i3, i4, i5⟩ := i229i
  obtain ⟨v', w', r1, r2, r3, r4⟩ := h.o.push2 u227 i1 i2 i4 (by omega) i3 (by omega) (.int .u8 (v.t : Int)) (.int .u64 (v.b : Int)) rfl rfl
  refine ⟨v', w', r1, ?_, h.e.keep r3 (fun k hk e => (h.f k e).1 hk), ?_, fun k hk => ?_, ⟨h.g.kp.later r3 (fun k e => .inr (h.f k e).2), h.g.own⟩⟩
  · obtain ⟨a, c, e⟩ := r2.slice
    exact ⟨a, _, c, e⟩
  · rw [List.take_add_one, hv]
    show OR w' 229 2 v' (j + 1) (valC (vs.take j ++ [v]))
    rw [valC_snoc]
    exact r2
  · rcases r4 k hk with h5 | h5
    · exact h.f k h5
    · refine ⟨fun ⟨i, h6⟩ => ?_, Nat.le_trans h.g.kp.size h5⟩
      have := h.e.lt h6
      omega
def InP (w : World) (xb : Nat) (A : Nat → Prop) (a : Ia) (st : Ma) (en : Ending) (w' : World) : Prop := en = .returned (encIa a) ∧ ∃ N' A', N'.xb = xb ∧ MdM w' N' A' st ∧ Gw w w' A A'
theorem InP.same (h : MdM w N A st) (hk : Kp (fun _ => False) w u) (a : Ia) : InP w N.xb A a st (.returned (encIa a)) u := ⟨rfl, N, A, rfl, h.quiet hk, ⟨hk.mono (fun _ h => h.elim), fun k hk => .inl hk⟩⟩
set_option maxHeartbeats 16000000 in
theorem invoke_w (h : MdM w N A st0) (hg : Good numI st0) (hn : name.size ≤ 9223372036854775807) (hs : args.size ≤ 9223372036854775807) {fz : Int} (hfz : fz < 9223372036854775808) (hI : InvR st0 name args fz.toNat a st) :
    Calls Tryz.prog 79 #[.pointer (some ⟨N.xb, 0, none⟩), .string name, .string args, .int .i64 fz] w (InP w N.xb A a st) := by
  have HM : Hid (MdM w N A st0) := h
  unfold InvR at hI
  by_cases h8 : 8 < name.size
  · rw [if_pos (.inl h8)] at hI
    obtain ⟨rfl, rfl⟩ := hI
    have h8i : (8 : Int) < (name.size : Int) := by omega
    clear h hg
    go_enter Tryz.func79, Tryz.ntmps79
    go_wp2_with fail
    refine bodyPost_ret (v := encIa ⟨⟨#[]⟩, 0, 1⟩) (by simp [results, Tryz.results79, go_sem, encIa]) rfl ?_
    exact InP.same HM.out (Kp.refl _ _) _
  have h8i : ¬ (8 : Int) < (name.size : Int) := by omega
  by_cases h32 : 32 < args.size
  · rw [if_pos (.inr h32)] at hI
    obtain ⟨rfl, rfl⟩ := hI
    have h32i : (32 : Int) < (args.size : Int) := by omega
    clear h hg
    go_enter Tryz.func79, Tryz.ntmps79
    go_wp2_with fail
    refine bodyPost_ret (v := encIa ⟨⟨#[]⟩, 0, 1⟩) (by simp [results, Tryz.results79, go_sem, encIa]) rfl ?_
    exact InP.same HM.out (Kp.refl _ _) _
  have h32i : ¬ (32 : Int) < (args.size : Int) := by omega
  rw [if_neg (by omega)] at hI
  rcases h with ⟨h1, ⟨n, S, h⟩, rfl⟩ | ⟨x, n, h1, h, h2, h3, ⟨h4, h5, h6⟩, rfl⟩
  · rw [h1] at hI
    dsimp only at hI
    obtain ⟨rfl, rfl⟩ := hI
    have c0 := h.c.1
    clear h hg h1
    go_enter Tryz.func79, Tryz.ntmps79
    go_wp2_with fail
    refine bodyPost_ret (v := encIa ⟨⟨#[]⟩, 0, 32⟩) (by simp [results, Tryz.results79, go_sem, encIa]) rfl ?_
    exact InP.same HM.out (Kp.refl _ _) _
  rw [h1] at hI
  dsimp only at hI
  unfold InvX at hI
  obtain ⟨hgc, henv⟩ := hg.md x h1
  rw [← lastX_find _ h6] at hI
  have hCM : x.C.M = N.m.mod := h3.symm
  rw [hCM] at hI h6
  have hMo : ModOk N.m.mod := hCM ▸ hgc.ok.mod
  obtain ⟨F, hF⟩ : ∃ F, lastX name N.m.mod.exports (-1) = F := ⟨_, rfl⟩
  rw [hF] at hI
  have HF : Hid (lastX name (N.m.exports.drop 0) (-1) = F) := hF
  obtain ⟨nx, hnx⟩ : ∃ n, N.m.exports.length = n := ⟨_, rfl⟩
  have HNX : Hid _ := hnx
  have hnx8 : nx ≤ 1000 := by rw [← hnx]; have h6 : N.m.exports.length ≤ 6 := hMo.ne; omega
  have HE : Hid (Em w N n x.S st0.H) := h
  have HMo : Hid _ := hMo
  have HIa : Hid (N.m.mod.typeOf F = none → a = ⟨⟨#[]⟩, 0, 33⟩ ∧ st = ⟨some x, st0.H⟩) := fun hto => by
    by_cases h0 : F < 0
    · rw [if_pos h0] at hI; exact hI
    · rw [if_neg h0, hto] at hI; exact hI
  have HIb : Hid (∀ t, N.m.mod.typeOf F = some t → args.size ≠ 8 * t.p.size → a = ⟨⟨#[]⟩, 0, 34⟩ ∧ st = ⟨some x, st0.H⟩) := fun t hto hne => by
    have := typeOf_range hto
    rw [if_neg (by omega), hto] at hI
    dsimp only at hI
    rw [if_pos hne] at hI
    exact hI
  have HIc : Hid (∀ t, N.m.mod.typeOf F = some t → args.size = 8 * t.p.size → ∃ R, RunR x.C fz.toNat F.toNat (argsW t args) x.S (freshS st0.H) R ∧ a = resS t R ∧ st = ⟨some ⟨x.C, R.2.S⟩, R.2.H⟩) := fun t hto hne => by
    have := typeOf_range hto
    rw [if_neg (by omega), hto] at hI
    dsimp only at hI
    rw [if_neg (fun h => h hne)] at hI
    exact hI
  have HG : Hid _ := hg
  have H1 : Hid _ := h1
  have HX : Hid ((N.fs = [] ∧ N.vf = .slice none 0 0) ∧ x.C.M = N.m.mod ∧ AllF x.C ∧ GlOk x.C.M x.S ∧ ExU x.C.M) := ⟨h2, hCM, h4, h5, by rw [hCM]; exact h6⟩
  have c0 := h.c.1
  have m8 := h.mw.c8
  have HFZ : Hid _ := hfz
  have HEX : Hid (∀ i y, N.m.exports[i]? = some y → ExpOk y) := fun i y hy => hMo.exports y (List.mem_of_getElem? hy)
  clear h hg h1 hI h2 h3 h4 h5 h6 hCM hMo hF hnx hgc henv hfz
  go_enter Tryz.func79, Tryz.ntmps79
  go_wp2_with fail
  go_loopw [11, 12] (fun ff ii w1 => ∃ (i : Nat) (f : Int), w = w1 ∧ i ≤ nx ∧ -1 ≤ f ∧ f < 4294967296 ∧ ff = .int .i64 f ∧ ii = .int .i64 i ∧ Hid (lastX name (N.m.exports.drop i) f = F)) (fun _ ii _ => nx + 1 - (intOf ii).toNat)
  case atStart => exact ⟨0, -1, rfl, by omega, by omega, by omega, rfl, rfl, HF⟩
  case round =>
    clear HF
    obtain ⟨i, f, e0, hi, hf1, hf2, rfl, rfl, HF⟩ := hrel
    subst e0
    by_cases hlt : i < nx
    · obtain ⟨y, hy⟩ : ∃ y, N.m.exports[i]? = some y := ⟨_, List.getElem?_eq_getElem (by rw [HNX.out]; exact hlt)⟩
      obtain ⟨xg, xcap, hxv, xg1, xg2, xg3, xc⟩ := HE.out.mw.atEx hy
      rw [HNX.out] at hxv xg2
      have m8b := m8
      rw [hxv] at m8b
      have d0 := xc 0 _ rfl
      rw [Nat.add_zero] at d0
      have d1 := xc 1 _ rfl
      have d2 := xc 2 _ rfl
      have hyo := HEX.out i y hy
      have hyi := hyo.idx
      unfold u32R at hyi
      have hib : (i : Int) < (nx : Int) := by omega
      rw [drop_cons hy, lastX] at HF
      clear hy xc hxv m8
      by_cases hk : y.kind = 0
      · by_cases hnm : y.name = name
        · rw [if_pos ⟨hk, hnm⟩] at HF
          rw [hk] at d1
          subst hnm
          have hne : (y.name.toList == y.name.toList) = true := by simp
          go_wp2_with fail
          go_roundw
          case rel => exact ⟨i + 1, y.idx, by first | rfl | trivial, by omega, by omega, by omega, by first | rfl | go_num, by go_num, HF⟩
          case measure => simp [intOf]; omega
        · rw [if_neg (fun e => hnm e.2)] at HF
          rw [hk] at d1
          have hne : (y.name.toList == name.toList) = false := by rw [beq_eq_false_iff_ne]; intro h; exact hnm (bytes_ext h)
          clear hnm
          go_wp2_with fail
          go_roundw
          case rel => exact ⟨i + 1, f, by first | rfl | trivial, by omega, by omega, by omega, rfl, by go_num, HF⟩
          case measure => simp [intOf]; omega
      · rw [if_neg (fun e => hk e.1)] at HF
        have hkn : ((y.kind : Int) == 0) = false := by rw [beq_eq_false_iff_ne]; omega
        have hk256 : y.kind < 256 := by have := hyo.kind; omega
        go_wp2_with fail
        go_roundw
        case rel => exact ⟨i + 1, f, by first | rfl | trivial, by omega, by omega, by omega, rfl, by go_num, HF⟩
        case measure => simp [intOf]; omega
    · have hie : i = nx := by omega
      subst hie
      obtain ⟨xa, xcp, hxv⟩ := HE.out.mw.slEx
      rw [HNX.out] at hxv
      rw [hxv] at m8
      rw [List.drop_eq_nil_of_le (by rw [HNX.out]; exact Nat.le_refl _), lastX] at HF
      obtain rfl := HF.out
      have HT := typeOf_m HE.out.mw HMo.out f ⟨hf1, hf2⟩
      clear hxv
      go_wp2_with fail
      refine HT.mono ?_
      rintro en w2 ⟨rfl, k2, hw2⟩
      have HK2 : Hid (Kp (fun _ => False) w w2) := by show Kp _ _ _; rw [hw2]; exact (Kp.refl _ _).drewM k2
      have HST : Hid (st0 = ⟨some x, st0.H⟩) := by
        show _ = _
        have := H1.out
        cases st0
        dsimp only at this
        rw [this]
      clear hw2 m8 c0
      cases hto : N.m.mod.typeOf f with
      | none =>
        have hi3 := HIa.out hto
        obtain ⟨rfl, rfl⟩ := hi3
        unfold encTo
        dsimp only
        clear hto
        go_wp2_with fail
        refine bodyPost_ret (v := encIa ⟨⟨#[]⟩, 0, 33⟩) (by simp [results, Tryz.results79, go_sem, encIa]) rfl ?_
        rw [← HST.out]
        exact InP.same HM.out HK2.out _
      | some t =>
      have hfr := typeOf_range hto
      have hT := typeOf_ok HMo.out hto
      have HIb2 : Hid _ := HIb.out t hto
      have HIc2 : Hid _ := HIc.out t hto
      obtain ⟨fn, rfl⟩ : ∃ fn : Nat, f = (fn : Int) := ⟨f.toNat, by omega⟩
      rw [Int.toNat_natCast] at HIc2
      have HTO : Hid _ := hto
      have HT0 : Hid _ := hT
      have HSp := fun u => split_kp t hT.p hT.np hT.nq u
      obtain ⟨np, hnp⟩ : ∃ n, t.p.size = n := ⟨_, rfl⟩
      have hnp4 : np ≤ 4 := hnp ▸ hT.np
      have HNP : Hid (t.p.size = np) := hnp
      have hnq1 := hT.nq
      unfold encTo
      dsimp only
      clear hto hT HIa HIb HIc
      go_wp2_with fail
      refine (HSp _).mono ?_
      rintro en w3 ⟨rfl, k3⟩
      have HK3 : Hid (Kp (fun _ => False) w w3) := HK2.out.trans k3
      clear k3 HK2
      by_cases h4 : args.size ≠ 8 * np
      · have hi2 := HIb2.out (by rw [HNP.out]; exact h4)
        obtain ⟨rfl, rfl⟩ := hi2
        have h4' : ((args.size : Int) == 8 * (np : Int)) = false := by rw [beq_eq_false_iff_ne]; omega
        have h4'' : ((args.size : Int) != 8 * (np : Int)) = true := by simp [bne, h4']
        clear h4
        go_wp2_with fail
        refine bodyPost_ret (v := encIa ⟨⟨#[]⟩, 0, 34⟩) (by simp [results, Tryz.results79, go_sem, encIa]) rfl ?_
        rw [← HST.out]
        exact InP.same HM.out HK3.out _
      · have h4e : args.size = 8 * np := by omega
        obtain ⟨R, hR, rfl, rfl⟩ := HIc2.out (by rw [HNP.out]; exact h4e)
        have h4' : ((args.size : Int) == 8 * (np : Int)) = true := by rw [h4e]; simp
        have h4'' : ((args.size : Int) != 8 * (np : Int)) = false := by simp [bne, h4']
        have HR : Hid (RunR x.C fz.toNat fn (argsW t args) x.S (freshS st0.H) R) := hR
        have HE3 : Hid (Em w3 N n x.S st0.H) := HE.out.quiet HK3.out
        have c2 := HE3.out.c.2.2.1
        have hfre := hfresh_m HE3.out.h
        clear h4 hR HIb2 HIc2 h4e
        go_wp2_with fail
        refine hfre.mono ?_
        rintro en w4 ⟨rfl, vk, vp, hh, hg4⟩
        obtain ⟨e4, g4⟩ := HE3.out.host hh hg4
        obtain ⟨N4, hN4⟩ : ∃ N4, ({ N with vk := vk, vp := vp } : EN) = N4 := ⟨_, rfl⟩
        have HN4 : Hid (N4.xb = N.xb ∧ N4.mb = N.mb ∧ N4.m = N.m ∧ N4.fs = N.fs ∧ N4.vf = N.vf) := by rw [← hN4]; exact ⟨rfl, rfl, rfl, rfl, rfl⟩
        rw [hN4] at e4 g4
        have HV0 : Hid (Ivz w w4 N N4 n x.S (freshS st0.H) (argV t args) (.slice none 0 0) 0) := ⟨e4, OR.nil _ _ _, fun k e => (nil_own2 e).elim, by
          have h1 : Gw w w3 N.all N.all := ⟨HK3.out.mono (fun _ h => h.elim), fun k hk => .inl hk⟩
          exact h1.trans g4⟩
        clear hfre hh hg4 e4 g4 hN4 c2 HE3 h4' h4''
        go_wp2_with fail
        go_loopw [17, 18] (fun va ii u1 => ∃ (j : Nat) (ta : Option Addr) (tn tc : Nat), j ≤ np ∧ ii = .int .i64 j ∧ va = .slice ta tn tc ∧ Hid (Ivz w u1 N N4 n x.S (freshS st0.H) (argV t args) va j)) (fun _ ii _ => np + 1 - (intOf ii).toNat)
        case atStart => exact ⟨0, _, _, _, by omega, rfl, rfl, HV0⟩
        case round =>
          clear HV0
          obtain ⟨j, ta, tn, tc, hj, rfl, rfl, HV⟩ := hrel
          have hps := HNP.out
          by_cases hlt : j < np
          · have hjt : j < t.p.size := by omega
            obtain ⟨v', w', r1, ⟨xa, xn, xc, hv'⟩, HV2⟩ := HV.out.step (argV_get (args := args) hjt) (by omega)
            have hbg : ((t.p[j].toNat : Nat) : Int) = (bAt t.p j : Int) := by rw [bAt_get _ _ hjt]
            have hji : (j : Int) < (np : Int) := by omega
            have hpa : pAt t.p j = bAt t.p j := by unfold pAt; rw [if_pos hjt]
            have hb256 : bAt t.p j < 256 := by have := HT0.out.p j hjt; unfold isVal at this; omega
            have hwr := wordF_range args (j : Int)
            have hcr := cutB_r (t := bAt t.p j) hwr
            have haw : (argW t args j : Int) = cutB (bAt t.p j) (wordF args (j : Int)) := by unfold argW; rw [hpa]; omega
            have HWd := fun u => word_any args (j : Int) (by omega) u
            have HCt := fun u => cut_calls2 u (bAt t.p j) hb256 (wordF args (j : Int)) hwr
            subst hv'
            dsimp only at r1
            rw [haw] at r1
            generalize cutB (bAt t.p j) (wordF args (j : Int)) = cw at r1 HCt hcr
            generalize wordF args (j : Int) = ww at HWd HCt hwr
            clear hpa haw
            go_wp2_with fail
            refine (HWd _).mono ?_
            rintro en u2 ⟨rfl, rfl⟩
            go_wp2_with fail
            refine (HCt _).mono ?_
            rintro en u3 ⟨rfl, rfl⟩
            go_wp2_with (at_builtin; refine wpList_app rfl _ _ 227 rfl r1 ?_)
            exact ⟨⟨j + 1, _, _, _, by omega, by first | rfl | go_num, rfl, HV2⟩, by simp only [intOf]; omega⟩
          · have hje : j = np := by omega
            subst hje
            obtain ⟨⟨hfs, hvf⟩, hCM, hAF, hGl, hEU⟩ := HX.out
            obtain ⟨hgc, henv⟩ := HG.out.md x H1.out
            obtain ⟨n1, n2, n3, n4, n5⟩ := HN4.out
            have hO := HV.out.o
            rw [List.take_of_length_le (by rw [argV_len, HNP.out]; exact Nat.le_refl _)] at hO
            have hrun := run_w (C := x.C) (t := t) (R := R) (vs := argV t args) HV.out.e (by rw [n4]; exact hfs) (by rw [n5]; exact hvf) (by rw [n3]; exact hCM) hgc.num hgc.ok hAF hgc.ty (f := fn) (by rw [hCM]; exact HTO.out) argV_ty (argV_ok HT0.out.p) (by rw [argV_bits]; exact inv_env henv) hGl HFZ.out (by rw [argV_bits]; exact HR.out) (by rw [argV_len, HNP.out]; exact hO) (fun k e => (HV.out.f k e).1)
            rw [n1] at hrun
            have hji : ¬ (j : Int) < (j : Int) := by omega
            clear hfs hvf hgc henv n1 n2 n4 n5 hO
            go_wp2_with fail
            refine hrun.mono ?_
            rintro en w5 ⟨N5, vo, rfl, e5, ⟨f1, f2, f3, f4, f5, f6, f7⟩, g5, gl5, hout⟩
            have HMD : Hid (MdM w5 N5 N5.all ⟨some ⟨x.C, R.2.S⟩, R.2.H⟩) := .inr ⟨⟨x.C, R.2.S⟩, R.1, rfl, e5, ⟨f1, f2⟩, by rw [f7, n3]; exact hCM.symm, ⟨hAF, gl5, hEU⟩, rfl⟩
            have HX5 : Hid (N5.xb = N.xb) := f3.trans HN4.out.1
            have HGW : Hid (Gw w w5 N.all N5.all) := by
              have hg := HV.out.g
              have hf := HV.out.f
              refine ⟨hg.kp.later g5.kp (fun k e => ?_), fun k hk => ?_⟩
              · rcases e with e | e
                · rcases hg.own k e with e2 | e2
                  · exact .inl e2
                  · exact .inr e2
                · exact .inr (hf k e).2
              · rcases g5.own k hk with e | e
                · rcases e with e | e
                  · exact hg.own k e
                  · exact .inr (hf k e).2
                · exact .inr (Nat.le_trans hg.kp.size e)
            have HFIN : Hid (∀ u s, Kp (fun _ => False) w5 u → resS t R = ⟨s, (R.1 : Int), (R.2.e : Int)⟩ → InP w N.xb N.all (resS t R) ⟨some ⟨x.C, R.2.S⟩, R.2.H⟩ (.returned (encIa ⟨s, (R.1 : Int), (R.2.e : Int)⟩)) u) := fun u s hk he => by
              rw [he]
              exact ⟨rfl, N5, N5.all, HX5.out, HMD.out.quiet hk, HGW.out.quiet hk⟩
            have HOUT : Hid _ := hout
            clear hrun e5 f1 f2 f3 f4 f5 f6 f7 g5 gl5 hout n3 hCM hAF hGl hEU HV HR
            obtain ⟨R1, hR1⟩ : ∃ R1, R.1 = R1 := ⟨_, rfl⟩
            obtain ⟨Re, hRe⟩ : ∃ Re, R.2.e = Re := ⟨_, rfl⟩
            rw [hR1, hRe] at HFIN ⊢
            rcases HOUT.out with ⟨he, rfl⟩ | ⟨he, vs', hOR, hvt, hvb, hvo⟩
            · have hres : resS t R = ⟨⟨#[]⟩, (R1 : Int), (Re : Int)⟩ := by unfold resS; rw [if_pos (.inl he), hR1, hRe]
              have HRES : Hid _ := hres
              clear hres he hR1 hRe
              go_wp2_with fail
              go_loopw [23, 24] (fun ss ii u1 => u1 = w5 ∧ ss = .string ⟨#[]⟩ ∧ ii = .int .i64 0) (fun _ _ _ => 0)
              case atStart => exact ⟨rfl, rfl, rfl⟩
              case round =>
                obtain ⟨e0, rfl, rfl⟩ := hrel
                subst e0
                go_wp2_with fail
                refine bodyPost_ret (v := encIa ⟨⟨#[]⟩, (R1 : Int), (Re : Int)⟩) (by simp [results, Tryz.results79, go_sem, encIa]) rfl ?_
                exact HFIN.out _ _ (Kp.refl _ _) HRES.out
            · have HRe0 : Hid (Re = 0) := by show _ = _; rw [← hRe]; exact he
              by_cases hq0 : t.q.size = 0
              · have hv0 : vs' = [] := by
                  unfold resL at hvt
                  rw [if_pos hq0] at hvt
                  simpa using hvt
                subst hv0
                obtain ⟨oa, oc, hov⟩ := hOR.slice
                rw [List.length_nil] at hov
                have hres : resS t R = ⟨⟨#[]⟩, (R1 : Int), (Re : Int)⟩ := by unfold resS resT; rw [if_pos (.inr (by rw [if_pos hq0])), hR1, hRe]
                have HRES : Hid _ := hres
                rw [hov]
                clear hres he hR1 hRe hOR hov hvt hvb hvo HOUT
                go_wp2_with fail
                go_loopw [23, 24] (fun ss ii u1 => u1 = w5 ∧ ss = .string ⟨#[]⟩ ∧ ii = .int .i64 0) (fun _ _ _ => 0)
                case atStart => exact ⟨rfl, rfl, rfl⟩
                case round =>
                  obtain ⟨e0, rfl, rfl⟩ := hrel
                  subst e0
                  go_wp2_with fail
                  refine bodyPost_ret (v := encIa ⟨⟨#[]⟩, (R1 : Int), (Re : Int)⟩) (by simp [results, Tryz.results79, go_sem, encIa]) rfl ?_
                  exact HFIN.out _ _ (Kp.refl _ _) HRES.out
              · obtain ⟨v, hv1⟩ : ∃ v, vs' = [v] := by
                  unfold resL at hvt
                  rw [if_neg hq0] at hvt
                  have := congrArg List.length hvt
                  simp at this
                  exact List.length_eq_one_iff.1 this
                subst hv1
                have hvt2 : v.t = bAt t.q 0 := by
                  unfold resL at hvt
                  rw [if_neg hq0] at hvt
                  simpa using hvt
                have hvb2 : R.2.out = [v.b] := by rw [← hvb]; rfl
                have hvk := hvo v (by simp)
                have hvt3 : v.t < 256 ∧ v.t ≠ 0 := by have := hvk.ty; unfold isVal at this; omega
                have hvbl := hvk.b
                obtain ⟨og, oc, hov, o1, o2, o3, o4, o5⟩ := hOR.ptr (by simp)
                rw [List.length_singleton] at hov o2
                have z0 := o4 0 (.int .u8 (v.t : Int)) rfl
                have z1 := o4 1 (.int .u64 (v.b : Int)) rfl
                have hres : resS t R = ⟨((⟨#[]⟩ ++ (⟨⟨hexL v.t 2⟩⟩ : ByteArray)) ++ ⟨#[58]⟩) ++ (⟨⟨hexL v.b 16⟩⟩ : ByteArray), (R1 : Int), (Re : Int)⟩ := by
                  have e1 : resT t = v.t := by unfold resT; rw [if_neg hq0, hvt2]
                  have e2 : (⟨#[]⟩ ++ (⟨⟨hexL v.t 2⟩⟩ : ByteArray)) = (⟨⟨hexL v.t 2⟩⟩ : ByteArray) := ByteArray.empty_append
                  unfold resS
                  rw [if_neg (by rw [e1]; omega), e1, hvb2, hR1, HRe0.out, e2]
                  rfl
                have HRES : Hid _ := hres
                have HZ : Hid (∀ u, Kp (fun _ => False) w5 u → u.cell? ⟨og, 0, none⟩ = some (.int .u8 (v.t : Int)) ∧ u.cell? ⟨og, 1, none⟩ = some (.int .u64 (v.b : Int))) := fun u hu => ⟨(hu.cell (p := ⟨og, 0, none⟩) (lt_of_cell z0) (fun h => h)).trans z0, (hu.cell (p := ⟨og, 1, none⟩) (lt_of_cell z1) (fun h => h)).trans z1⟩
                rw [hov]
                have hvti : v.t < 256 := hvt3.1
                have hw64 : IntKind.u64.wrap (v.t : Int) = (v.t : Int) := u64id (by omega) (by omega)
                have hl1 : (hexL v.t 2).length = 2 := hexL_length _ _
                have hl2 : (hexL v.b 16).length = 16 := hexL_length _ _
                have hx1 := fun u => hex_any (v.t : Int) 2 (by omega) (by decide) u
                have hx2 := fun u => hex_any (v.b : Int) 16 (by omega) (by decide) u
                simp only [Int.toNat_natCast] at hx1 hx2
                clear hres he hR1 hRe hOR hov hvt hvb hvo HOUT hvt2 hvb2 hvk hvt3 o1 o4 o5 z0 z1 hq0
                go_wp2_with fail
                go_loopw [23, 24] (fun ss ii u1 => (ss = .string ⟨#[]⟩ ∧ ii = .int .i64 0 ∨ ss = .string (((⟨#[]⟩ ++ (⟨⟨hexL v.t 2⟩⟩ : ByteArray)) ++ ⟨#[58]⟩) ++ (⟨⟨hexL v.b 16⟩⟩ : ByteArray)) ∧ ii = .int .i64 1) ∧ Hid (Kp (fun _ => False) w5 u1)) (fun _ ii _ => 2 - (intOf ii).toNat)
                case atStart => exact ⟨.inl ⟨rfl, rfl⟩, Kp.refl _ _⟩
                case round =>
                  obtain ⟨h01, HK5⟩ := hrel
                  rcases h01 with ⟨rfl, rfl⟩ | ⟨rfl, rfl⟩
                  · obtain ⟨z0, z1⟩ := HZ.out _ HK5.out
                    go_wp2_with fail
                    refine (hx1 _).mono ?_
                    rintro en w8 ⟨rfl, k8⟩
                    have HK8 : Hid (Kp (fun _ => False) w5 w8) := HK5.out.trans (below_kp k8)
                    clear k8 z0 z1
                    obtain ⟨z0, z1⟩ := HZ.out _ HK8.out
                    go_wp2_with fail
                    refine (hx2 _).mono ?_
                    rintro en w9 ⟨rfl, k9⟩
                    have HK9 : Hid (Kp (fun _ => False) w5 w9) := HK8.out.trans (below_kp k9)
                    clear k9 z0 z1
                    have hs0 : ¬ 9223372036854775807 < (hexL v.t 2).length := by omega
                    have hs1 : ¬ 9223372036854775807 < (hexL v.t 2).length + 1 := by omega
                    have hs2 : ¬ 9223372036854775807 < (hexL v.t 2).length + 1 + (hexL v.b 16).length := by omega
                    go_wp2_with fail
                    go_roundw
                    case rel => exact ⟨.inr ⟨by first | rfl | simp, by go_num⟩, HK9⟩
                    case measure => simp [intOf]
                  · go_wp2_with fail
                    refine bodyPost_ret (v := encIa ⟨((⟨#[]⟩ ++ (⟨⟨hexL v.t 2⟩⟩ : ByteArray)) ++ ⟨#[58]⟩) ++ (⟨⟨hexL v.b 16⟩⟩ : ByteArray), (R1 : Int), (Re : Int)⟩) (by simp [results, Tryz.results79, go_sem, encIa]) rfl ?_
                    exact HFIN.out _ _ HK5.out HRES.out
end
end Go.Proofs.Qxb6500275aGreatDoor
