import Derived.Test.Qxb6500275aGreatDoorVc1
set_option maxRecDepth 100000
set_option linter.unusedVariables false
set_option linter.unusedSimpArgs false
namespace Go.Proofs.Qxb6500275aGreatDoor
open Go Go.RowKit
section
variable {w : World} {mb : Nat} {M : Mod}
theorem encP_s (a : Nat) (e : Int) : encP (some (a, e)) = .tuple #[.int .i64 a, .int .i64 e] := rfl
theorem encP_n : encP none = .tuple #[.int .i64 0, .int .i64 0] := rfl
theorem typeOf_isSome {t : Option Ty} (h : t.isSome = true) : ∃ y, t = some y := by
  cases t with
  | none => simp at h
  | some y => exact ⟨y, rfl⟩
theorem text_colonOnly {t : Ty} (h : t.text.toList = [58]) : t.text = colon := by
  refine bytes_ext ?_
  rw [h, Go.ByteArray.toList_eq]
  rfl
set_option maxHeartbeats 2000000 in
theorem constOf_quiet (op : Nat) (hq : op < 256) : Calls Tryz.prog 144 #[.int .u8 op] w (Qt w (.int .u8 (constOfV op))) := by
  by_cases h1 : op < 65
  · have hF : constOfV op = 0 := if_pos (.inl h1)
    rw [hF]
    go_enter Tryz.func144, Tryz.ntmps144
    go_wp2
    go_ret
    exact ⟨rfl, 0, rfl⟩
  · by_cases h2 : 68 < op
    · have hF : constOfV op = 0 := if_pos (.inr h2)
      rw [hF]
      go_enter Tryz.func144, Tryz.ntmps144
      go_wp2
      go_ret
      exact ⟨rfl, 0, rfl⟩
    · have : op = 65 ∨ op = 66 ∨ op = 67 ∨ op = 68 := by omega
      rcases this with rfl | rfl | rfl | rfl
      all_goals
        go_enter Tryz.func144, Tryz.ntmps144
        go_wp2
        go_ret
        exact ⟨rfl, 0, rfl⟩
set_option maxHeartbeats 2000000 in
theorem limits_quiet (lo hi most : Int) (h1 : limR lo) (h2 : limR hi) (h3 : 0 ≤ most ∧ most ≤ 10) : Calls Tryz.prog 143 #[.int .i64 lo, .int .i64 hi, .int .i64 most] w (Qt w (.bool (limitsV lo hi most))) := by
  unfold limR at h1 h2
  by_cases hm : most < lo
  · have hF : limitsV lo hi most = false := if_pos hm
    rw [hF]
    go_enter Tryz.func143, Tryz.ntmps143
    go_wp2
    go_ret
    exact ⟨rfl, 0, rfl⟩
  · have hF : limitsV lo hi most = decide (hi = -1 ∨ lo ≤ hi) := if_neg hm
    rw [hF]
    by_cases hh : hi = -1
    · subst hh
      rw [decide_eq_true (.inl rfl)]
      go_enter Tryz.func143, Tryz.ntmps143
      go_wp2
      go_ret
      exact ⟨rfl, 0, rfl⟩
    · have hb : (hi == -1) = false := by rw [beq_eq_false_iff_ne]; exact hh
      by_cases hl : lo ≤ hi
      · rw [decide_eq_true (.inr hl)]
        go_enter Tryz.func143, Tryz.ntmps143
        go_wp2
        go_ret
        exact ⟨by simp [hl], 0, rfl⟩
      · rw [decide_eq_false (by omega)]
        go_enter Tryz.func143, Tryz.ntmps143
        go_wp2
        go_ret
        exact ⟨by simp [hl], 0, rfl⟩
theorem ite_or {α : Type} {c : Prop} [Decidable c] {a b r : α} (h : (if c then a else b) = r) : a = r ∨ b = r := by
  by_cases hc : c
  · rw [if_pos hc] at h; exact .inl h
  · rw [if_neg hc] at h; exact .inr h
theorem expsV_err {M : Mod} : ∀ (l b : List Exp) (i a : Nat) (e : Int), expsV M b l i = some (a, e) → e = 17 ∨ e = 18
  | [], b, i, a, e, h => by simp [expsV] at h
  | x :: xs, b, i, a, e, h => by
    rw [expsV] at h
    rcases ite_or h with h | h
    · simp at h; omega
    · rcases ite_or h with h | h
      · simp at h; omega
      · exact expsV_err xs _ _ _ _ h
set_option maxHeartbeats 8000000 in
theorem parts_calls (hM : ModOk M) (h : Md w mb M) : Calls Tryz.prog 83 #[.pointer (some ⟨mb, 0, none⟩)] w (Pure w (encP (partsV M))) := by
  obtain ⟨nf, hnf⟩ : ∃ nf, M.imports.length + M.funcs.length = nf := ⟨_, rfl⟩
  obtain ⟨X, hX⟩ : ∃ X, partsV M = X := ⟨_, rfl⟩
  rw [hX]
  unfold partsV at hX
  rw [hnf] at hX
  have HS : Hid _ := hX.symm
  have HO : Hid _ := hM
  have HM : Hid _ := h
  have HNF : Hid _ := hnf
  have hni : M.imports.length ≤ 4 := hM.ni
  have hnfn : M.funcs.length ≤ 8 := hM.nf
  obtain ⟨ta, ia, fa, m0, m1, m2, _, _, _⟩ := h.lists
  have hnf12 : nf ≤ 12 := by omega
  have hnfi : (M.imports.length : Int) + (M.funcs.length : Int) = (nf : Int) := by omega
  clear hX hnf h hM m0
  go_enter Tryz.func83, Tryz.ntmps83
  go_wp2_with fail
  go_quiet (fail)
  clear m1 m2 hnfi hni hnfn
  go_wp2_with fail
  go_loopw [5] (fun ii w1 => ∃ i : Nat, i ≤ nf ∧ ii = .int .i64 i ∧ Kp (fun _ => False) w w1 ∧ Hid (typesV M nf 0 = typesV M (nf - i) i)) (fun ii _ => nf + 1 - (intOf ii).toNat)
  case atStart => exact ⟨0, by omega, rfl, (Kp.refl _ _).drewM _, rfl⟩
  case round =>
    obtain ⟨i, hi, rfl, hK, HT⟩ := hrel
    have HM1 : Hid _ := HM.out.keep hK (fun k hk => hk.elim)
    have HK : Hid _ := hK
    clear hK
    by_cases hlt : i < nf
    · have hib : (i : Int) < (nf : Int) := by omega
      obtain ⟨d, hd⟩ : ∃ d, nf - i = d + 1 := ⟨nf - i - 1, by omega⟩
      rw [hd, typesV] at HT
      have hd2 : d = nf - (i + 1) := by omega
      subst hd2
      have htc := fun (w' : World) (hm : Md w' mb M) => typeOf_calls HO.out hm (i : Int) (by omega)
      generalize M.typeOf (i : Int) = o at *
      clear hd
      cases o with
      | none =>
        have HT2 : Hid (typesV M nf 0 = some (i, 14)) := HT.out
        rw [HT2.out] at HS
        go_wp2_with (go_at_call 85; refine (htc _ HM1.out).mono ?_; rintro en w2 ⟨rfl, hk2⟩; unfold encT)
        go_ret2
        exact ⟨by rw [HS.out]; rfl, HK.out.trans hk2⟩
      | some t =>
        have HT2 : Hid (typesV M nf 0 = typesV M (nf - (i + 1)) (i + 1)) := HT.out
        clear HT
        go_wp2_with (go_at_call 85; refine (htc _ HM1.out).mono ?_; rintro en w2 ⟨rfl, hk2⟩; unfold encT)
        go_light
        exact ⟨⟨i + 1, by omega, by go_num, HK.out.trans hk2, HT2⟩, by simp [intOf]; omega⟩
    · have hin : i = nf := by omega
      subst hin
      have HT2 : Hid (typesV M i 0 = none) := by
        show _ = _
        rw [HT.out, Nat.sub_self]; rfl
      rw [HT2.out] at HS
      dsimp only at HS
      clear HT HT2
      obtain ⟨ga, xa, ea, da, c3, c4, c5, c6, c7, c8, c9, c10, c11, gat, xat, eat, dat⟩ := HM1.out.rest
      have hlg : M.globals.length ≤ 4 := HO.out.ng
      have hst := HO.out.start
      unfold limR at hst
      have hlc1 := fun (w' : World) => limits_quiet (w := w') M.tabMin M.tabMax 8 HO.out.tabMin HO.out.tabMax (by omega)
      have hlc2 := fun (w' : World) => limits_quiet (w := w') M.memMin M.memMax 6 HO.out.memMin HO.out.memMax (by omega)
      generalize limitsV M.tabMin M.tabMax 8 = b1 at *
      generalize limitsV M.memMin M.memMax 6 = b2 at *
      obtain ⟨ng, hng⟩ : ∃ ng, M.globals.length = ng := ⟨_, rfl⟩
      rw [hng] at c7 hlg
      have HNG : Hid _ := hng
      have HGA : Hid _ := gat
      clear hng gat xat eat dat c8 c10 c11
      cases b1 with
      | false =>
        rw [if_pos rfl] at HS
        go_wp2_with fail
        go_quiet ((go_at_call 143; exact Calls.quiet_of (hlc1 _)))
        go_wp2
        go_ret2
        exact ⟨by rw [HS.out]; rfl, HK.out.drewM _⟩
      | true =>
        rw [if_neg (by decide)] at HS
        cases b2 with
        | false =>
          rw [if_pos rfl] at HS
          go_wp2_with fail
          go_quiet ((go_at_call 143; exact Calls.quiet_of (hlc1 _)))
          have HK5 : Hid _ := HK.out.drewM nq
          generalize wr.drewN nq = w5 at HK5 ⊢
          have HM5 : Hid _ := HM.out.keep HK5.out (fun k hk => hk.elim)
          clear c3 c4 c5 c6 c7 c9 HK HM1
          obtain ⟨ga, xa, ea, da, c3, c4, c5, c6, c7, c8, c9, c10, c11, gat, xat, eat, dat⟩ := HM5.out.rest
          clear c3 c4 c8 c10 c11 gat xat eat dat
          go_wp2_with fail
          go_quiet ((go_at_call 143; exact Calls.quiet_of (hlc2 _)))
          go_wp2
          go_ret2
          exact ⟨by rw [HS.out]; rfl, HK5.out.drewM _⟩
        | true =>
          rw [if_neg (by decide)] at HS
          go_wp2_with fail
          go_quiet ((go_at_call 143; exact Calls.quiet_of (hlc1 _)))
          have HK5 : Hid _ := HK.out.drewM nq
          generalize wr.drewN nq = w5 at HK5 ⊢
          have HM5 : Hid _ := HM.out.keep HK5.out (fun k hk => hk.elim)
          clear c3 c4 c5 c6 c7 c9 HK HM1
          obtain ⟨ga, xa, ea, da, c3, c4, c5, c6, c7, c8, c9, c10, c11, gat, xat, eat, dat⟩ := HM5.out.rest
          clear c3 c4 c8 c10 c11 gat xat eat dat
          go_wp2_with fail
          go_quiet ((go_at_call 143; exact Calls.quiet_of (hlc2 _)))
          have HK6 : Hid _ := HK5.out.drewM nq
          generalize w5.drewN nq = w6 at HK6 ⊢
          clear hlc1 hlc2 c5 c6 c7 c9 HM5 HK5
          go_wp2_with fail
          go_loopw [8] (fun ii w1 => ∃ i : Nat, i ≤ ng ∧ ii = .int .i64 i ∧ Kp (fun _ => False) w w1 ∧ Hid (globsV M.globals 0 = globsV (M.globals.drop i) i)) (fun ii _ => ng + 1 - (intOf ii).toNat)
          case atStart => exact ⟨0, by omega, rfl, HK6.out, rfl⟩
          case round =>
            clear HK6
            obtain ⟨j, hj, rfl, hK, HT⟩ := hrel
            have HM6 : Hid _ := HM.out.keep hK (fun k hk => hk.elim)
            have HK : Hid _ := hK
            obtain ⟨ga, xa, ea, da, c3, c4, c5, c6, c7, c8, c9, c10, c11, gat, xat, eat, dat⟩ := HM6.out.rest
            rw [HNG.out] at c7
            have HGA : Hid _ := gat
            clear hK c3 c4 c5 c6 c8 c10 c11 gat xat eat dat
            by_cases hlt : j < ng
            · obtain ⟨g, hg⟩ : ∃ g, M.globals[j]? = some g := ⟨_, List.getElem?_eq_getElem (by rw [HNG.out]; exact hlt)⟩
              have hgo := HO.out.globals g (List.mem_of_getElem? hg)
              obtain ⟨k, rfl, d0, d1, d2, d3, d4⟩ := HGA.out j g hg
              rw [drop_cons hg, globsV] at HT
              have hop : g.init.op < 256 := by have := hgo.init.op; omega
              have hty : g.ty < 256 := by have := hgo.ty; unfold isVal at this; omega
              have hcv : constOfV g.init.op < 256 := by unfold constOfV; split <;> omega
              have hco := fun (w' : World) => constOf_quiet (w := w') g.init.op hop
              generalize constOfV g.init.op = cv at *
              have hjb : (j : Int) < (ng : Int) := by omega
              clear hgo hg d1 d3 d4 c9
              by_cases hc : cv = g.ty
              · rw [if_pos hc] at HT
                have hcb : ((cv : Int) != (g.ty : Int)) = false := by rw [hc]; simp
                go_wp2_with fail
                go_quiet ((go_at_call 144; exact Calls.quiet_of (hco _)))
                go_wp2
                go_light
                exact ⟨⟨j + 1, by omega, by go_num, HK.out.drewM _, HT⟩, by simp [intOf]; omega⟩
              · rw [if_neg hc] at HT
                rw [HT.out] at HS
                have hcb : ((cv : Int) != (g.ty : Int)) = true := by rw [bne_iff_ne]; omega
                go_wp2_with fail
                go_quiet ((go_at_call 144; exact Calls.quiet_of (hco _)))
                go_wp2
                go_ret2
                exact ⟨by rw [HS.out]; rfl, HK.out.drewM _⟩
            · have hjn : j = ng := by omega
              subst hjn
              rw [List.drop_of_length_le (by rw [HNG.out]; exact Nat.le_refl _), globsV] at HT
              rw [HT.out] at HS
              dsimp only at HS
              have hxc := vexports_calls HO.out HM6.out i hnf12 HNF.out
              have hxe := fun a e => expsV_err (M := M) M.exports [] 0 a e
              generalize expsV M [] M.exports 0 = ox at *
              clear HT
              go_wp2_with fail
              refine hxc.mono ?_
              rintro en w7 ⟨rfl, mq, rfl⟩
              have HK7 : Hid _ := HK.out.drewM mq
              generalize wr.drewN mq = w7 at HK7 ⊢
              have HM7 : Hid _ := HM.out.keep HK7.out (fun k hk => hk.elim)
              clear hxc c7 c9 HGA HK HM6
              cases ox with
              | some r =>
                obtain ⟨a, ee⟩ := r
                dsimp only at HS
                have hee := hxe a ee rfl
                clear hxe
                rw [encP_s]
                rcases hee with rfl | rfl
                · go_wp2
                  go_ret2
                  exact ⟨by rw [HS.out]; rfl, HK7.out⟩
                · go_wp2
                  go_ret2
                  exact ⟨by rw [HS.out]; rfl, HK7.out⟩
              | none =>
                dsimp only at HS
                clear hxe
                rw [encP_n]
                obtain ⟨ga, xa, ea, da, c3, c4, c5, c6, c7, c8, c9, c10, c11, gat, xat, eat, dat⟩ := HM7.out.rest
                clear c3 c4 c5 c6 c7 c8 c10 c11 gat xat eat dat
                have hsg := fun (w' : World) (hm : Md w' mb M) => segments_calls HO.out hm i hnf12 HNF.out
                have HS2 : Hid (X = match startV M with | some r => some r | none => segsV M) := HS.out
                clear HS
                have HS : Hid _ := HS2.out
                clear HS2
                generalize segsV M = os at *
                by_cases hs1 : M.start = -1
                · have hsv : startV M = none := if_pos hs1
                  rw [hsv] at HS
                  dsimp only at HS
                  rw [hs1] at c9
                  clear hsv hs1 hst
                  go_wp2_with fail
                  have hsg := hsg _ HM7.out
                  have KK : Hid _ := HK7.out
                  refine hsg.mono ?_
                  rintro en w9 ⟨rfl, mq2, rfl⟩
                  cases os with
                  | none =>
                    rw [encP_n]
                    go_wp2
                    go_ret2
                    exact ⟨by rw [HS.out]; rfl, (KK.out).drewM _⟩
                  | some r =>
                    obtain ⟨a, ee⟩ := r
                    rw [encP_s]
                    go_wp2
                    go_ret2
                    exact ⟨by rw [HS.out]; rfl, (KK.out).drewM _⟩
                · have hsb : (M.start != -1) = true := by rw [bne_iff_ne]; exact hs1
                  have htc := fun (w' : World) (hm : Md w' mb M) => typeOf_calls HO.out hm M.start hst
                  have hsv : startV M = match M.typeOf M.start with | none => some (0, 15) | some t => if t.text = colon then none else some (0, 19) := if_neg hs1
                  rw [hsv] at HS
                  clear hsv hs1
                  have htk : ∀ t, M.typeOf M.start = some t → True := fun _ _ => trivial
                  generalize M.typeOf M.start = o at *
                  go_wp2_with fail
                  refine (htc _ HM7.out).mono ?_
                  rintro en w8 ⟨rfl, hk8⟩
                  have HK8 : Hid _ := HK7.out.trans hk8
                  have HM8 : Hid _ := HM.out.keep HK8.out (fun k hk => hk.elim)
                  clear htc hk8 c9 HK7 HM7 htk
                  cases o with
                  | none =>
                    dsimp only at HS
                    unfold encT
                    go_wp2
                    go_ret2
                    exact ⟨by rw [HS.out]; rfl, HK8.out⟩
                  | some t =>
                    dsimp only at HS
                    unfold encT
                    by_cases hcol : t.text = colon
                    · rw [if_pos hcol] at HS
                      dsimp only at HS
                      have hcb : (t.text.toList == [58]) = true := by
                        have : t.text.toList = [58] := by rw [hcol, Go.ByteArray.toList_eq]; rfl
                        rw [this]; rfl
                      clear hcol
                      go_wp2_with fail
                      have hsg := hsg _ HM8.out
                      have KK : Hid _ := HK8.out
                      refine hsg.mono ?_
                      rintro en w9 ⟨rfl, mq2, rfl⟩
                      cases os with
                      | none =>
                        rw [encP_n]
                        go_wp2
                        go_ret2
                        exact ⟨by rw [HS.out]; rfl, (KK.out).drewM _⟩
                      | some r =>
                        obtain ⟨a, ee⟩ := r
                        rw [encP_s]
                        go_wp2
                        go_ret2
                        exact ⟨by rw [HS.out]; rfl, (KK.out).drewM _⟩
                    · rw [if_neg hcol] at HS
                      dsimp only at HS
                      have hcb : (t.text.toList == [58]) = false := by
                        rw [beq_eq_false_iff_ne]
                        intro h
                        exact hcol (text_colonOnly h)
                      clear hcol
                      go_wp2
                      go_ret2
                      exact ⟨by rw [HS.out]; rfl, HK8.out⟩
end
end Go.Proofs.Qxb6500275aGreatDoor
