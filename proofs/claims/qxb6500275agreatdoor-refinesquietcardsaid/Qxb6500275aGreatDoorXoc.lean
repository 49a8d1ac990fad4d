import Derived.Test.Qxb6500275aGreatDoorXo8
import Derived.Test.Qxb6500275aGreatDoorRh4
set_option maxRecDepth 100000
set_option linter.unusedVariables false
set_option linter.unusedSimpArgs false
namespace Go.Proofs.Qxb6500275aGreatDoor
open Go Go.RowKit
theorem i91j : ∃ (i : TypeInfo) (z : Value), Tryz.prog.info? 91 = some i ∧ i.zero = some z ∧ z.cells.size = 1 ∧ i.size = 1 ∧ i.bytes ≤ 1000 := by
  have h0 : (Tryz.prog.info? 91).map (fun i => (i.zero.map (fun z => z.cells.size), i.size, i.bytes)) = some (some 1, 1, 8) := by kernel_rfl
  cases h : Tryz.prog.info? 91 with
  | none => rw [h] at h0; simp at h0
  | some i =>
    rw [h] at h0
    simp at h0
    obtain ⟨⟨z, h1, h2⟩, h3, h4⟩ := h0
    exact ⟨i, z, rfl, h1, h2, h3, by omega⟩
section
variable {w0 w u : World} {N0 N : EN} {q : MQ} {g cap : Nat} {q0 q1 : List (MF × FT3)} {x b : MF × FT3}
set_option maxHeartbeats 8000000 in
theorem host_w (h : Ew w0 N0 w N q g cap q0 x) (hn : q0.length ≤ 10) (hS : SmOk q.S) (hH : HmOk q.H) {k : Nat} (hk : k < q.H.bd.length) {vs : List MV} {va : Value} (ha : OR w 229 2 va vs.length (valC vs)) (hf : ∀ j, va.ownBlock = some j → ¬ N.all j) (hv : ∀ v, v ∈ vs → v.b < 18446744073709551616) (hl : vs.length ≤ 4) {t : Ty} (hT : TyOk t) {e : Nat} {q' : MQ}
    (hr : (if (callH q.H k (vs.map MV.b) (resT t) (q.S.bs.length / 64)).2.1 ≠ 0 then some ((callH q.H k (vs.map MV.b) (resT t) (q.S.bs.length / 64)).2.1, ({ q with H := (callH q.H k (vs.map MV.b) (resT t) (q.S.bs.length / 64)).2.2 } : MQ))
          else if resT t = 0 then some (0, { q with H := (callH q.H k (vs.map MV.b) (resT t) (q.S.bs.length / 64)).2.2 })
          else layM { q with H := (callH q.H k (vs.map MV.b) (resT t) (q.S.bs.length / 64)).2.2 } (pushM x.1 ⟨resT t, (callH q.H k (vs.map MV.b) (resT t) (q.S.bs.length / 64)).1⟩)) = some (e, q')) :
    Calls Tryz.prog 258 #[.pointer (some ⟨N.xb, 0, none⟩), .int .i64 (k : Int), va, .string t.q] w (Ez w0 N0 (e : Int) q') := by
  obtain ⟨n, hnn⟩ : ∃ n, q0.length = n := ⟨_, rfl⟩
  have HNN : Hid (q0.length = n) := hnn
  have hbs := hS.m
  have hpg6 : q.S.bs.length / 64 ≤ 6 := by omega
  have hcv := callH_val (H := q.H) hH (k := k) (want := resT t) (pages := q.S.bs.length / 64) (args := vs.map MV.b) hpg6
  obtain ⟨pg, hpg⟩ : ∃ p, q.S.bs.length / 64 = p := ⟨_, rfl⟩
  rw [hpg] at hr hcv hpg6
  have hrt : resT t < 256 := by
    unfold resT
    split
    · decide
    · exact bAt_lt _ _
  have HCH : Hid (∀ (U : World) (vw : Value), Ew w0 N0 U N q g cap q0 x → OR U 91 1 vw vs.length (rowW (vs.map MV.b)) → (∀ j, vw.ownBlock = some j → ¬ N.all j) → Calls Tryz.prog 270 #[.pointer (some ⟨N.hb, 0, none⟩), .int .i64 (k : Int), vw, .int .u8 ((resT t : Nat) : Int), .int .i64 (pg : Int)] U (Cz U N.hb N.vk N.vp (callH q.H k (vs.map MV.b) (resT t) pg))) := fun U vw hU hO hj => by
    have hm := hcall_m (args := vs.map MV.b) hU.em.h hH (by rw [List.length_map]; exact RDr.of hO) (fun j e1 e2 => hj j e1 ⟨2, e2⟩) (by rw [List.length_map]; exact hl) (fun v hv1 => by
      obtain ⟨y, hy, rfl⟩ := List.mem_map.1 hv1
      exact hv y hy) k hk (resT t) hrt pg hpg6
    exact hm
  have HPg : Hid (∀ U, Ew w0 N0 U N q g cap q0 x → Calls Tryz.prog 269 #[.pointer (some ⟨N.sb, 0, none⟩)] U (Qm U (.int .i64 (pg : Int)))) := fun U hU => by
    have := mpages_m hU.em.st hS
    rw [hpg] at this
    exact this
  obtain ⟨⟨cw, ce, cH⟩, hcc⟩ : ∃ z, callH q.H k (vs.map MV.b) (resT t) pg = z := ⟨_, rfl⟩
  rw [hcc] at hr hcv HCH
  dsimp only at hr hcv
  obtain ⟨rt, hrte⟩ : ∃ r, resT t = r := ⟨_, rfl⟩
  rw [hrte] at hr hcv hrt HCH
  obtain ⟨nv, hnv⟩ : ∃ n, vs.length = n := ⟨_, rfl⟩
  have HNV : Hid (vs.length = nv) := hnv
  obtain ⟨aa, ac, hav⟩ := ha.slice
  rw [hnv] at hav hl
  have HAV : Hid (va = .slice aa nv ac) := hav
  have HA : Hid (OR w 229 2 va vs.length (valC vs)) := ha
  have HW : Hid (Ew w0 N0 w N q g cap q0 x) := h
  have HVS : Hid (∀ v, v ∈ vs → v.b < 18446744073709551616) := hv
  have HAF : Hid (∀ j, va.ownBlock = some j → ¬ N.all j) := hf
  have hnq := hT.nq
  have hrq : (t.q.size = 0 ∧ rt = 0) ∨ (t.q.size = 1 ∧ rt = bAt t.q 0 ∧ rt ≠ 0) := by
    have h1 := hT.q
    rw [← hrte]
    unfold resT
    by_cases h0 : t.q.size = 0
    · exact .inl ⟨h0, if_pos h0⟩
    · right
      have := h1 0 (by omega)
      unfold isVal at this
      rw [if_neg h0]
      exact ⟨by omega, rfl, by omega⟩
  have HSt := fun w => stuck_m true w
  rw [hav]
  clear hav ha h hv hf hcc hrte hnv hnn hpg hbs hS hH hk hT
  go_enter Tryz.func258, Tryz.ntmps258
  go_wp2_with fail
  go_loopw [9, 10] (fun ww ii u1 => ∃ (i : Nat) (vw : Value) (a2 : Option Addr) (c2 : Nat), i ≤ nv ∧ ii = .int .i64 i ∧ ww = vw ∧ vw = .slice a2 i c2 ∧ Hid (OR u1 91 1 vw i (rowW ((vs.map MV.b).take i))) ∧ Hid (Kp (fun _ => False) w u1) ∧ Hid (∀ j, vw.ownBlock = some j → w.heap.size ≤ j)) (fun _ ii _ => nv + 1 - (intOf ii).toNat)
  case atStart => exact ⟨0, .slice none 0 0, none, 0, by omega, rfl, rfl, rfl, OR.nil _ _ _, Kp.refl _ _, fun j hj => by simp [Value.ownBlock] at hj⟩
  case round =>
    obtain ⟨i, vw, a2, c2, hi, rfl, rfl, hvw, HO, HK, HF⟩ := hrel
    by_cases hlt : i < nv
    · obtain ⟨y, hy⟩ : ∃ y, vs[i]? = some y := ⟨_, List.getElem?_eq_getElem (by rw [HNV.out]; exact hlt)⟩
      have hau := OR.keep HA.out HK.out (fun _ _ h => h)
      obtain ⟨ag, acp, hav2, g1, g2, g3, g4, g5⟩ := hau.ptr (by rw [HNV.out]; omega)
      rw [HAV.out, HNV.out] at hav2
      simp at hav2
      obtain ⟨rfl, rfl⟩ := hav2
      have d1 := g4 _ _ (valC_at hy).2
      obtain ⟨ii2, z, j1, j2, j3, j4, j5⟩ := i91j
      obtain ⟨v', w', r1, r2, r3, r4⟩ := HO.out.push u67 j1 j2 j4 j5 j3 (by omega) (.int .u64 (y.b : Int)) rfl
      rw [hvw] at r1
      obtain ⟨a3, c3, hv3⟩ := r2.slice
      have hib : (i : Int) < (nv : Int) := by omega
      have HO2 : Hid (OR w' 91 1 v' (i + 1) (rowW ((vs.map MV.b).take (i + 1)))) := by
        have e : rowW ((vs.map MV.b).take (i + 1)) = rowW ((vs.map MV.b).take i) ++ [.int .u64 (y.b : Int)] := by
          have h1 : (vs.map MV.b)[i]? = some y.b := by rw [List.getElem?_map, hy]; rfl
          have h2 := List.getElem?_eq_some_iff.1 h1
          unfold rowW
          rw [List.take_succ_eq_append_getElem h2.1, h2.2, List.map_append]
          rfl
        show OR _ _ _ _ _ _
        rw [e]
        exact r2
      have HK2 : Hid (Kp (fun _ => False) w w') := HK.out.later r3 (fun j hj => .inr (HF.out j hj))
      have HF2 : Hid (∀ j, v'.ownBlock = some j → w.heap.size ≤ j) := fun j hj => by
        rcases r4 j hj with h1 | h1
        · exact HF.out j h1
        · exact Nat.le_trans HK.out.size h1
      subst hvw hv3
      clear r2 r3 r4 g4 g5 hau hy
      go_wp2_with (at_builtin; refine wpList_app rfl _ _ 67 rfl r1 ?_)
      clear r1
      go_roundw
      case rel => exact ⟨i + 1, _, _, _, by omega, by go_num, rfl, rfl, HO2.out, HK2.out, HF2.out⟩
      case measure => simp [intOf]; omega
    · have hin : i = nv := by omega
      subst hin
      have hib : decide ((i : Int) < (i : Int)) = false := decide_eq_false (by omega)
      subst hvw
      have HO2 : Hid (OR wr 91 1 (.slice a2 i c2) vs.length (rowW (vs.map MV.b))) := by
        have := HO.out
        rw [List.take_of_length_le (by rw [List.length_map, HNV.out]; exact Nat.le_refl _)] at this
        show OR _ _ _ _ _ _
        rw [HNV.out]
        exact this
      have HE1 : Hid (Ew w0 N0 wr N q g cap q0 x) := HW.out.quiet HK.out
      have HVF : Hid (∀ j, (Value.slice a2 i c2).ownBlock = some j → ¬ N.all j) := fun j hj hk => by
        have h1 := HF.out j hj
        have h2 := HW.out.all_lt hk
        omega
      have HC0 := HCH.out wr (.slice a2 i c2) HE1.out HO2.out HVF.out
      have HP0 := HPg.out wr HE1.out
      have x1 : wr.cell? ⟨N.xb, 1, none⟩ = some (.pointer (some ⟨N.sb, 0, none⟩)) := HE1.out.em.c.2.1
      have x2 : wr.cell? ⟨N.xb, 2, none⟩ = some (.pointer (some ⟨N.hb, 0, none⟩)) := HE1.out.em.c.2.2.1
      clear HCH HPg
      rcases hrq with ⟨hq0, rfl⟩ | ⟨hq1, hrb, hrz⟩
      · have hqi : ((t.q.size : Int) == 1) = false := by rw [beq_eq_false_iff_ne]; omega
        clear hq0
        go_wp2_with fail
        refine HP0.mono ?_
        rintro en u ⟨rfl, rfl⟩
        go_wp2_with fail
        refine HC0.mono ?_
        rintro en U3 ⟨rfl, vk', vp', hMh, hGw⟩
        have HE3 : Hid _ := HE1.out.host hMh hGw
        clear hMh hGw x1 x2
        by_cases hce : ce = 0
        · subst hce
          simp at hr
          obtain ⟨rfl, hrr⟩ := hr
          have HRR : Hid _ := hrr
          clear hrr
          dsimp only
          go_wp2
          go_ret
          refine ⟨rfl, ?_⟩
          have hE := HE3.out.end_
          rw [← HRR.out]
          exact ⟨_, hE⟩
        · rw [if_pos hce] at hr
          simp at hr
          obtain ⟨rfl, hrr⟩ := hr
          have HRR : Hid _ := hrr
          have hcb : ((ce : Int) == 0) = false := by rw [beq_eq_false_iff_ne]; omega
          have hcb2 : ((ce : Int) != 0) = true := by simp [bne, hcb]
          clear hrr hce
          dsimp only
          go_wp2
          go_ret
          refine ⟨rfl, ?_⟩
          have hE := HE3.out.end_
          rw [← HRR.out]
          exact ⟨_, hE⟩
      · have hqi : (t.q.size : Int) = 1 := by omega
        have hcc : (t.q[0].toNat : Int) = (rt : Int) := by rw [bAt_get t.q 0 (by omega), hrb]
        have hrzb : ((rt : Int) == 0) = false := by rw [beq_eq_false_iff_ne]; omega
        have hrzb2 : ((rt : Int) != 0) = true := by simp [bne, hrzb]
        clear hrb
        go_wp2_with fail
        refine HP0.mono ?_
        rintro en u ⟨rfl, rfl⟩
        go_wp2_with fail
        refine HC0.mono ?_
        rintro en U3 ⟨rfl, vk', vp', hMh, hGw⟩
        have HE3 : Hid _ := HE1.out.host hMh hGw
        clear hMh hGw x1 x2
        by_cases hce : ce = 0
        · subst hce
          rw [if_neg (by simp), if_neg hrz] at hr
          obtain ⟨r', hpu, rfl, hrr⟩ := layM_some hr
          have HRR : Hid _ := hrr
          have HPU : Hid _ := hpu
          have hcv2 := hcv.1
          clear hrr hr hpu hcv hrz
          dsimp only
          obtain ⟨x0, x1, x2, x3, x4, y3, y4, f0, f1, f2, f3, f4, fz, ap, fcp⟩ := HE3.out.cells HNN.out
          dsimp only at x3
          clear x0 x1 x2 x4 y3 y4 f0 f1 f2 f3 f4 fz ap fcp
          obtain ⟨k6, hk6⟩ : ∃ k, n + 1 = k := ⟨_, rfl⟩
          rw [hk6] at x3
          have hn10 : n ≤ 10 := by rw [← HNN.out]; exact hn
          have hki : (k6 : Int) - 1 = (n : Int) := by omega
          have hkm : n < k6 := by omega
          have hkmi : (n : Int) < (k6 : Int) := by omega
          have hk20 : (k6 : Int) ≤ 20 := by omega
          have hwm := wrap_i64_nat n (by omega)
          clear hk6
          have HPP : Hid (∀ U, Kp (fun _ => False) U3 U → Calls Tryz.prog 271 #[.pointer (some ⟨g, n * 5, none⟩), .int .u8 (rt : Int), .int .u64 (cw : Int)] U (fun en u => en = .returned (.bool true) ∧ ∃ t', Fkm U u N.vf q0 x r' t')) := fun U hU => by
            have := push_w (HE3.out.quiet hU) HPU.out hrt hcv2
            rw [HNN.out] at this
            exact this
          go_wp2_with fail
          go_still_tail 13, (by kernel_rfl)
          go_wp2_with fail
          refine (HPP.out _ (Kp.refl _ _).drew).mono ?_
          rintro en U8 ⟨rfl, t8, hF8⟩
          have HE8 : Hid _ := (HE3.out.quiet (Kp.refl _ _).drew).setTop hF8
          clear hF8 x3
          go_wp2_with fail
          refine (HSt _).mono ?_
          rintro en u9 ⟨rfl, rfl⟩
          go_wp2
          go_ret
          refine ⟨rfl, ?_⟩
          have hE := HE8.out.end_
          rw [← HRR.out]
          exact ⟨_, hE⟩
        · rw [if_pos hce] at hr
          simp at hr
          obtain ⟨rfl, hrr⟩ := hr
          have HRR : Hid _ := hrr
          have hcb : ((ce : Int) == 0) = false := by rw [beq_eq_false_iff_ne]; omega
          have hcb2 : ((ce : Int) != 0) = true := by simp [bne, hcb]
          clear hrr hce
          dsimp only
          go_wp2
          go_ret
          refine ⟨rfl, ?_⟩
          have hE := HE3.out.end_
          rw [← HRR.out]
          exact ⟨_, hE⟩
end
end Go.Proofs.Qxb6500275aGreatDoor
