import Derived.Test.Qxb6500275aGreatDoorRh3
import Derived.Test.Qxb6500275aGreatDoorSh1
import Derived.Test.Qxb6500275aGreatDoorHob
set_option maxRecDepth 100000
set_option linter.unusedVariables false
set_option linter.unusedSimpArgs false
namespace Go.Proofs.Qxb6500275aGreatDoor
open Go Go.RowKit
theorem strB_app (a b : List Nat) : strB (a ++ b) = strB a ++ strB b := by
  unfold strB
  rw [List.map_append]
  exact ByteArray.ext (by simp [ByteArray.data_append])
theorem strB_size (a : List Nat) : (strB a).size = a.length := by
  show (⟨a.map UInt8.ofNat⟩ : Array UInt8).size = _
  simp
theorem strB_hex (v : Nat) : strB (hexN v) = ⟨⟨hexL v 16⟩⟩ := by
  unfold strB hexN
  rw [List.map_map]
  have : (UInt8.ofNat ∘ fun c : UInt8 => c.toNat) = id := by funext c; simp
  rw [this, List.map_id]
section
variable {w : World} {hb : Nat} {vk vt va : Value} {H : Hm} {args : List Nat}
/- the call's end, behind the trace -/
def Cz (w : World) (hb : Nat) (vk vt : Value) (r : Nat × Nat × Hm) : Ending → World → Prop := Hz w hb vk vt (.tuple #[.int .u64 (r.1 : Int), .int .i64 (r.2.1 : Int)]) r.2.2
set_option maxHeartbeats 8000000 in
theorem hcall_m (h : Mh w hb vk vt H) (hO : HmOk H) (ha : RDr w va args.length (rowW args)) (hd : ∀ k, va.ownBlock = some k → ¬ Mhv hb vk vt k) (hn : args.length ≤ 4) (h64 : ∀ v, v ∈ args → v < 18446744073709551616) (k : Nat) (hk : k < H.bd.length) (want : Nat) (hw : want < 256) (pages : Nat) (hp : pages ≤ 6) :
    Calls Tryz.prog 270 #[.pointer (some ⟨hb, 0, none⟩), .int .i64 (k : Int), va, .int .u8 (want : Int), .int .i64 (pages : Int)] w (Cz w hb vk vt (callH H k args want pages)) := by
  obtain ⟨X, hX⟩ : ∃ X, callH H k args want pages = X := ⟨_, rfl⟩
  rw [hX]
  have HX : Hid _ := hX
  clear hX
  obtain ⟨c0, c1, c2, c3⟩ := h.c
  have f2 := h.fz 2 (by decide)
  have f3 := h.fz 3 (by decide)
  obtain ⟨ka, kc, hkv⟩ := h.k.slice
  obtain ⟨nb, hnb⟩ : ∃ n, H.bd.length = n := ⟨_, rfl⟩
  obtain ⟨na, hna⟩ : ∃ n, args.length = n := ⟨_, rfl⟩
  obtain ⟨aa, ac, hav⟩ : ∃ a c, va = .slice a na c := by
    obtain ⟨_, _, a, c, e, _⟩ := ha
    exact ⟨a, c, by rw [← hna]; exact e⟩
  have HA : Hid _ := ha
  have HD : Hid _ := hd
  have H64 : Hid _ := h64
  have HAV : Hid _ := hav
  have HNA : Hid _ := hna
  rw [hnb] at hk hkv
  rw [hna] at hn
  have HKV : Hid _ := hkv
  have HNB : Hid _ := hnb
  have hnb4 := hO.bd.1
  rw [hnb] at hnb4
  have HO : Hid _ := hO
  have HH : Hid _ := h
  rw [hkv] at c0
  rw [hav]
  clear ha hd h64 hav hna hkv hnb hO h
  have g1 : ¬ (4 : Int) < (na : Int) := by omega
  have g2 : ¬ (k : Int) < 0 := by omega
  have g3 : ¬ (nb : Int) ≤ (k : Int) := by omega
  have g3b : decide ((nb : Int) ≤ (k : Int)) = false := decide_eq_false g3
  have g2b : decide ((k : Int) < 0) = false := decide_eq_false g2
  obtain ⟨rw_, hrw⟩ : ∃ r, H.rows = r := ⟨_, rfl⟩
  rw [hrw] at c3
  have HRW : Hid _ := hrw
  unfold callH at HX
  rw [hrw] at HX
  clear hrw
  by_cases h12 : 12 ≤ rw_
  · rw [if_pos h12] at HX
    have h12i : (12 : Int) ≤ (rw_ : Int) := by omega
    go_enter Tryz.func270, Tryz.ntmps270
    go_wp2
    go_ret2
    rw [← HX.out]
    exact Hz.mk (Mj.start HH.out)
  rw [if_neg h12] at HX
  have h12i : ¬ (12 : Int) ≤ (rw_ : Int) := by omega
  obtain ⟨t0, ht0⟩ : ∃ t0, strB H.tr = t0 := ⟨_, rfl⟩
  have hts : t0.size ≤ 864 := by rw [← ht0, strB_size]; have := HO.out.tr.1; have := HRW.out; omega
  rw [ht0] at c2
  have HT0 : Hid _ := ht0
  clear ht0
  obtain ⟨ns, hns⟩ : ∃ ns : ByteArray, (⟨⟨itoaS (k : Int)⟩⟩ : ByteArray) = ns := ⟨_, rfl⟩
  have hnsB : ns = strB [48 + k] := by
    rw [← hns]
    unfold itoaS
    rw [if_neg (by omega), if_pos (by omega)]
    rfl
  have hns1 : ns.size = 1 := by rw [hnsB, strB_size]; rfl
  have hic := itoa_calls (k : Int) (by omega)
  rw [hns] at hic
  have HNS : Hid _ := hnsB
  clear hns hnsB
  have s1 : ¬ 9223372036854775807 < t0.size + 1 := by omega
  have s2 : ¬ 9223372036854775807 < t0.size + (1 + ns.size) := by omega
  have s3 : ¬ 9223372036854775807 < t0.size + (1 + (ns.size + 1)) := by omega
  have s4 : ¬ 9223372036854775807 < 1 + (ns.size + 1) := by omega
  have s5 : ¬ 9223372036854775807 < ns.size + 1 := by omega
  have s6 : ¬ 9223372036854775807 < 1 + ns.size := by omega
  have s7 : ¬ 9223372036854775807 < t0.size + 1 + ns.size := by omega
  have s8 : ¬ 9223372036854775807 < t0.size + 1 + ns.size + 1 := by omega
  have HJ1 := (Mj.start HH.out).rw_ (rw_ + 1)
  rw [show (((rw_ + 1 : Nat)) : Int) = (rw_ : Int) + 1 by omega] at HJ1
  have HJ1 : Hid _ := HJ1
  go_enter Tryz.func270, Tryz.ntmps270
  go_wp2_with fail
  refine (hic _).mono ?_
  rintro en w2 ⟨rfl, K2⟩
  have HJ2 : Hid _ := Mj.quiet HJ1.out K2
  clear HJ1 K2 hic c0 c1 c2 c3 f2 f3
  have HTA : Hid (strB (H.tr ++ [32, 48 + k, 40] ++ rowN (args.take 0)) = t0 ++ ⟨#[32]⟩ ++ ns ++ ⟨#[40]⟩) := by
    show _ = _
    rw [List.take_zero, rowN, List.append_nil, show H.tr ++ [32, 48 + k, 40] = H.tr ++ [32] ++ [48 + k] ++ [40] by simp, strB_app, strB_app, strB_app, HT0.out, HNS.out]
    rfl
  have HJ3 : Hid _ := Mj.tr HJ2.out (H.tr ++ [32, 48 + k, 40] ++ rowN (args.take 0))
  rw [HTA.out] at HJ3
  obtain ⟨d0, d1, d2, d3⟩ := HJ2.out.1.c
  have f2 := HJ2.out.1.fz 2 (by decide)
  dsimp only at d2 d3
  rw [HT0.out] at d2
  rw [HKV.out] at d0
  clear d3 d1
  go_wp2_with fail
  go_loopw [13] (fun ii w1 => ∃ (i : Nat) (u : World), u = w1 ∧ i ≤ na ∧ ii = .int .i64 i ∧ Hid (Mj w u (Mhv hb vk vt) hb vk vt { H with tr := H.tr ++ [32, 48 + k, 40] ++ rowN (args.take i), rows := rw_ + 1 })) (fun ii _ => na + 1 - (intOf ii).toNat)
  case atStart => exact ⟨0, _, rfl, by omega, rfl, HJ3⟩
  case round =>
    obtain ⟨i, u, e, hi, rfl, HM⟩ := hrel
    subst e
    clear HJ2 HJ3 HTA d0 d2 f2 s1 s2 s3 s4 s5 s6 s7 s8 hns1
    obtain ⟨d0, d1, d2, d3⟩ := HM.out.1.c
    have f2 := HM.out.1.fz 2 (by decide)
    have f1 := HM.out.1.fz 1 (by decide)
    dsimp only at d1 d2 d3
    rw [HKV.out] at d0
    obtain ⟨t1, ht1⟩ : ∃ t1, strB (H.tr ++ [32, 48 + k, 40] ++ rowN (args.take i)) = t1 := ⟨_, rfl⟩
    have hts1 : t1.size ≤ 1000 := by
      rw [← ht1, strB_size, List.length_append, List.length_append, rowN_len, List.length_take]
      have := HO.out.tr.1
      have := HRW.out
      have := Nat.min_le_left i args.length
      simp
      omega
    rw [ht1] at d2
    have HT1 : Hid _ := ht1
    clear ht1 d3
    by_cases hlt : i < na
    · have hlti : (i : Int) < (na : Int) := by omega
      obtain ⟨x, hx⟩ : ∃ x, args[i]? = some x := ⟨_, List.getElem?_eq_getElem (by rw [HNA.out]; exact hlt)⟩
      have hx64 := H64.out x (List.mem_of_getElem? hx)
      obtain ⟨g, o, cap, hv, q1, q2, q3⟩ := (RDr.keep HA.out HM.out.2.kp HD.out).ptr (by rw [HNA.out]; omega)
      have q4 := q3 i (.int .u64 (x : Int)) (by unfold rowW; rw [List.getElem?_map, hx]; rfl)
      rw [HAV.out, HNA.out] at hv
      injection hv with e1 _ e3
      subst e1 e3
      have hxc := hxn_calls (x : Int) 16 (by omega) (by decide)
      obtain ⟨hs, hhs⟩ : ∃ hs, hxN (x : Int) 16 = hs := ⟨_, rfl⟩
      have hhB : hs = strB (hexN x) := by rw [← hhs, strB_hex]; rfl
      have hsz : hs.size = 16 := by rw [hhB, strB_size, hexN_len]
      rw [hhs] at hxc
      have HHB : Hid _ := hhB
      have HX2 : Hid _ := hx
      clear hhB hhs hx q3
      go_wp2_with fail
      refine (hxc _).mono ?_
      rintro en w3 ⟨rfl, K3⟩
      have HM3 : Hid _ := Mj.quiet HM.out K3
      have HTS : Hid (strB (H.tr ++ [32, 48 + k, 40] ++ rowN (args.take (i + 1))) = t1 ++ hs ++ ⟨#[44]⟩) := by
        show _ = _
        rw [take_snocL HX2.out, rowN_snoc, ← List.append_assoc, ← List.append_assoc, strB_app, strB_app, HT1.out, HHB.out]
        rfl
      have HM4 : Hid _ := Mj.tr HM3.out (H.tr ++ [32, 48 + k, 40] ++ rowN (args.take (i + 1)))
      rw [HTS.out] at HM4
      clear d0 d1 d2 f2 f1 K3 hxc
      obtain ⟨d0, d1, d2, d3⟩ := HM3.out.1.c
      have f2 := HM3.out.1.fz 2 (by decide)
      dsimp only at d2
      rw [HT1.out] at d2
      clear d0 d1 d3
      have s1 : ¬ 9223372036854775807 < t1.size + hs.size := by omega
      have s2 : ¬ 9223372036854775807 < t1.size + hs.size + 1 := by omega
      have s3 : ¬ 9223372036854775807 < t1.size + (hs.size + 1) := by omega
      have s4 : ¬ 9223372036854775807 < hs.size + 1 := by omega
      go_wp2
      exact ⟨⟨i + 1, _, rfl, by omega, by go_num, HM4⟩, by simp [intOf]; omega⟩
    · have hlti : ¬ (i : Int) < (na : Int) := by omega
      have hin : i = na := by omega
      subst hin
      have s1 : ¬ 9223372036854775807 < t1.size + 1 := by omega
      obtain ⟨kd, hkd⟩ : ∃ kd, H.bd[k]? = some kd := ⟨_, List.getElem?_eq_getElem (by rw [HNB.out]; exact hk)⟩
      have hkr := HO.out.bd.2 kd (List.mem_of_getElem? hkd)
      have hkD : H.bd.getD k 0 = kd := by rw [List.getD_eq_getElem?_getD, hkd]; rfl
      obtain ⟨g, cap, hv, q1, q2, q3, q4, q5⟩ := HM.out.1.k.ptr (by show H.bd.length ≠ 0; rw [HNB.out]; omega)
      have q6 := q4 k (.int .i64 (kd : Int)) (by show (rowK H.bd)[k]? = _; unfold rowK; rw [List.getElem?_map, hkd]; rfl)
      have hgn : g ≠ hb := (HM.out.1.ak g (by rw [hv]; rfl)).1
      rw [HKV.out] at hv
      dsimp only at hv
      rw [HNB.out] at hv
      injection hv with e1 _ e3
      subst e1 e3
      have HTR : Hid (strB (H.tr ++ rowH k args) = t1 ++ ⟨#[41]⟩) := by
        show _ = _
        rw [← HT1.out, List.take_of_length_le (by rw [HNA.out]; exact Nat.le_refl _)]
        unfold rowH
        rw [← List.append_assoc, ← List.append_assoc, strB_app]
        rfl
      have HM4 : Hid _ := Mj.tr HM.out (H.tr ++ rowH k args)
      rw [HTR.out] at HM4
      rw [hkD] at HX
      have HKD : Hid _ := hkd
      clear hkd hkD q3 q4 q5
      have HM5 : Hid (Mj w (u.setCell ⟨hb, 2, none⟩ (.string (t1 ++ ⟨#[41]⟩))) (Mhv hb vk vt) hb vk vt (tracedH H k args)) := by
        have := HM4.out
        rw [← HRW.out] at this
        exact this
      clear HM4
      unfold fnH at HX
      by_cases hw0 : want = 0
      · subst hw0
        by_cases k4 : kd = 4
        · subst k4
          rw [if_neg (by decide), if_neg (by decide), if_neg (by decide)] at HX
          go_wp2
          go_ret2
          rw [← HX.out]
          exact Hz.mk HM5.out
        by_cases k3 : kd = 3
        · subst k3
          rw [if_neg (by decide), if_neg (by decide), if_pos rfl, if_pos rfl] at HX
          go_wp2
          go_ret2
          rw [← HX.out]
          exact Hz.mk HM5.out
        by_cases k2 : kd = 2
        · subst k2
          rw [if_neg (by decide), if_pos rfl] at HX
          go_wp2
          go_ret2
          rw [← HX.out]
          exact Hz.mk HM5.out
        · have k1 : kd = 1 := by omega
          subst k1
          rw [if_pos rfl, if_pos rfl] at HX
          go_wp2
          go_ret2
          rw [← HX.out]
          exact Hz.mk HM5.out
      · have w1 : ((want : Int) == 0) = false := by rw [beq_eq_false_iff_ne]; omega
        have w2 : ((want : Int) != 0) = true := by rw [bne_iff_ne]; omega
        by_cases k4 : kd = 4
        · subst k4
          rw [if_neg (by decide), if_neg (by decide), if_neg (by decide)] at HX
          go_wp2
          go_ret2
          rw [← HX.out]
          exact Hz.mk HM5.out
        by_cases k3 : kd = 3
        · subst k3
          rw [if_neg (by decide), if_neg (by decide), if_pos rfl, if_neg hw0] at HX
          have hcc := fun w => cut_calls2 w want hw (pages : Int) (by omega)
          have hcr := cutB_r (t := want) (v := (pages : Int)) (by omega)
          obtain ⟨z, hz⟩ : ∃ z, cutB want (pages : Int) = z := ⟨_, rfl⟩
          rw [hz] at hcr
          rw [hz] at HX
          simp only [hz] at hcc
          have HZ : Hid ((z.toNat : Int) = z) := by show _ = _; omega
          clear hz hcr
          go_wp2_with fail
          refine (hcc _).mono ?_
          rintro en w6 ⟨rfl, rfl⟩
          go_wp2
          go_ret2
          rw [← HX.out]
          unfold Cz
          dsimp only
          rw [HZ.out]
          exact Hz.mk HM5.out
        by_cases k2 : kd = 2
        · subst k2
          rw [if_neg (by decide), if_pos rfl] at HX
          have hcc := fun w => cut_calls2 w want hw 0 (by omega)
          have hz : cutB want 0 = 0 := by unfold cutB; split <;> rfl
          simp only [hz] at hcc
          go_wp2_with fail
          refine (hcc _).mono ?_
          rintro en w6 ⟨rfl, rfl⟩
          go_wp2
          go_ret2
          rw [← HX.out]
          exact Hz.mk HM5.out
        · have k1 : kd = 1 := by omega
          subst k1
          rw [if_pos rfl, if_neg hw0] at HX
          unfold takeH at HX
          have hT := HM.out.1.t
          dsimp only at hT
          have htp : (tracedH H k args).tp = H.tp := rfl
          rw [htp] at HX
          cases hp' : H.tp with
          | nil =>
            rw [hp'] at HX hT
            dsimp only at HX
            obtain ⟨ta, tc, htv⟩ : ∃ a c, vt = .slice a 0 c := by
              obtain ⟨_, _, a, c, e, _⟩ := hT
              exact ⟨a, c, e⟩
            have HTV : Hid _ := htv
            rw [htv] at d1
            clear htv hT hp'
            go_wp2
            go_ret2
            rw [← HX.out]
            exact Hz.mk HM5.out
          | cons x r =>
            rw [hp'] at HX hT
            dsimp only at HX
            have hx64 := HO.out.tp.2 x (by rw [hp']; exact List.mem_cons_self)
            obtain ⟨tg, to_, tc, htv, p1, p2, p3⟩ := hT.ptr (by simp)
            have p4 := p3 0 (.int .u64 (x : Int)) rfl
            rw [Nat.add_zero] at p4
            have htn : tg ≠ hb := HM.out.1.at_ tg (by rw [htv]; rfl)
            obtain ⟨nr, hnr⟩ : ∃ n, r.length = n := ⟨_, rfl⟩
            have htl : (x :: r).length = nr + 1 := by rw [List.length_cons, hnr]
            rw [htl] at htv p1
            have HTV : Hid _ := htv
            rw [htv] at d1
            have HTT : Hid _ := hT
            have HPP : Hid _ := hp'
            have HNR : Hid _ := hnr
            have HXX : Hid _ := hx64
            clear htv hT hp' p3 htl hnr
            have hcc := fun w => cut_calls2 w want hw (x : Int) (by omega)
            have hcr := cutB_r (t := want) (v := (x : Int)) (by omega)
            obtain ⟨z, hz⟩ : ∃ z, cutB want (x : Int) = z := ⟨_, rfl⟩
            rw [hz] at hcr
            rw [hz] at HX
            simp only [hz] at hcc
            have HZ : Hid ((z.toNat : Int) = z) := by show _ = _; omega
            clear hz hcr
            have HM6 : Hid (Mj w ((u.setCell ⟨hb, 2, none⟩ (.string (t1 ++ ⟨#[41]⟩))).setCell ⟨hb, 1, none⟩ (.slice (some (if tc = 1 then ⟨tg, to_, none⟩ else ⟨tg, to_ + 1, none⟩)) nr (tc - 1))) (Mhv hb vk vt) hb vk (.slice (some (if tc = 1 then ⟨tg, to_, none⟩ else ⟨tg, to_ + 1, none⟩)) nr (tc - 1)) { tracedH H k args with tp := r }) := by
              have hT5 := HM5.out.1.t
              have e0 : (tracedH H k args).tp = x :: r := HPP.out
              rw [e0, List.length_cons, HNR.out, HTV.out] at hT5
              have hT6 := RDr.tail hT5
              have hT7 : RDr (u.setCell ⟨hb, 2, none⟩ (.string (t1 ++ ⟨#[41]⟩))) (.slice (some (if tc = 1 then ⟨tg, to_, none⟩ else ⟨tg, to_ + 1, none⟩)) nr (tc - 1)) r.length (rowW r) := by rw [HNR.out]; exact hT6
              refine Mj.tp HM5.out hT7 (fun k hk => .inl ?_)
              rw [HTV.out]
              simp only [Value.ownBlock] at hk ⊢
              split at hk <;> exact hk
            by_cases htc : tc = 1
            · subst htc
              have h0 : nr = 0 := by omega
              subst h0
              rw [if_pos rfl] at HM6
              go_wp2_with fail
              refine (hcc _).mono ?_
              rintro en w6 ⟨rfl, rfl⟩
              go_wp2
              go_ret2
              rw [← HX.out]
              unfold Cz
              dsimp only
              rw [HZ.out]
              exact Hz.mk HM6.out
            · rw [if_neg htc] at HM6
              go_wp2_with fail
              refine (hcc _).mono ?_
              rintro en w6 ⟨rfl, rfl⟩
              go_wp2
              go_ret2
              rw [← HX.out]
              unfold Cz
              dsimp only
              rw [HZ.out]
              exact Hz.mk HM6.out
end
end Go.Proofs.Qxb6500275aGreatDoor
