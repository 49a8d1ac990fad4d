import Derived.Test.Qxb6500275aGreatDoorBs7
set_option maxRecDepth 100000
set_option linter.unusedVariables false
set_option linter.unusedSimpArgs false
namespace Go.Proofs.Qxb6500275aGreatDoor
open Go Go.RowKit
section
variable {w w' : World} {b : Nat} {s : ByteArray} {p e : Nat} {er : Int} {a : Nat} {mb : Nat} {m : MT} {vt0 : Value} {ty : List Int}
set_option maxHeartbeats 8000000 in
theorem codes_m (h : Rc w b s p e er a) (hM : Mw w mb m) (hne : ¬ MwB mb m b) (h0 : m.fs = []) (hT : Tn w vt0 ty) (hTd : ∀ k, vt0.ownBlock = some k → k ≠ b ∧ ¬ MwB mb m k) (hty8 : ty.length ≤ 8) : Calls Tryz.prog 186 #[.pointer (some ⟨b, 0, none⟩), .pointer (some ⟨mb, 0, none⟩), vt0] w (Scq (scQ (sec10 s p e m.mod ty)) b s e er a mb m w) := by
  have hlt : b < w.heap.size := lt_of_cell h.c0
  have hes := h.es
  have hsz := h.sz
  have hp1 : p ≤ 1024 := by have := h.le; omega
  have c1 := h.c1
  have HS : Hid (Ms1 w w b mb m m) := Ms1.start hM hne hlt
  have HC := count_m h 8 (by decide)
  obtain ⟨X, hX⟩ : ∃ X, scQ (sec10 s p e m.mod ty) = X := ⟨_, rfl⟩
  rw [hX]
  have HX : Hid _ := hX
  have H0 : Hid _ := h0
  obtain ⟨nt, hnt⟩ : ∃ nt, ty.length = nt := ⟨_, rfl⟩
  obtain ⟨ta0, tc0, htv⟩ := hT.slice
  rw [hnt] at htv hty8
  have HT : Hid _ := hT
  have HTD : Hid (∀ k, vt0.ownBlock = some k → k ≠ b ∧ ¬ MwB mb m k) := hTd
  have HNT : Hid _ := hnt
  have HTV : Hid _ := htv
  -- the types' numbers stay
  have HTK : Hid (∀ u, Kp (fun k => k = b ∨ MwB mb m k) w u → Tn u vt0 ty) := fun u hu => OR.keep hT hu (fun k h1 h2 => by
    rcases h2 with h2 | h2
    · exact (hTd k h1).1 h2
    · exact (hTd k h1).2 h2)
  clear h hM hne hX h0 hT hTd hnt
  rw [htv]
  clear htv
  go_enter Tryz.func186, Tryz.ntmps186
  go_wp2_with fail
  refine HC.mono ?_
  rintro en w2 ⟨nn, q, er', a', rfl, hR, hK, hB, hC⟩
  obtain ⟨n, hn⟩ : ∃ n : Nat, nn = n := ⟨nn.toNat, by omega⟩
  subst hn
  have hn8 : n ≤ 10 := by omega
  unfold encI8
  have d3 := hR.c3
  have d2 := hR.c2
  have HR : Hid _ := hR
  have HM2 : Hid _ := HS.out.cur hK
  by_cases he : er' = 0
  · subst he
    by_cases hnn : n = nt
    · subst hnn
      have HZ : Hid (∀ l2 q2 er2 a2, Cu (fnsL s e (ty.drop 0) q (m.fs.map (·.1))) 0 a' l2 q2 er2 a2 → Cu X er a { m.mod with funcs := l2 } q2 er2 a2) := fun l2 q2 er2 a2 hz => by
        rw [H0.out] at hz
        rw [← HX.out, sec10_b (by unfold MT.mod; rw [H0.out]; rfl)]
        exact hC.out.trans (by rw [if_pos (by rw [HNT.out])]; exact hz.trans (Cu.pure _ _))
      clear hR hK HX hC hB HC
      go_wp2
      clear d2 d3 c1
      go_loopw [9] (fun ii w1 => ∃ (i q1 a1 : Nat) (er1 : Int) (l : List (Fn × Value × Value)) (v : Value), i ≤ n ∧ l.length = i ∧ ii = .int .i64 (i : Int) ∧ Rc w1 b s q1 e er1 a1 ∧ Ms1 w w1 b mb m { m with fs := l, vf := v } ∧ Hid (∀ l2 q2 er2 a2, Cu (fnsL s e (ty.drop i) q1 (l.map (·.1))) er1 a1 l2 q2 er2 a2 → Cu X er a { m.mod with funcs := l2 } q2 er2 a2)) (fun ii _ => n - (intOf ii).toNat)
      case atStart => exact ⟨0, q, a', 0, m.fs, m.vf, by omega, by rw [H0.out]; rfl, rfl, HR.out, HM2.out, HZ.out⟩
      case round =>
        obtain ⟨i, q1, a1, er1, l, v, hi, hll, rfl, hR1, hM1, hZ1⟩ := hrel
        have c3 := hR1.c3
        have cc1 := hR1.c1
        have HR1 : Hid _ := hR1
        have HM1 : Hid _ := hM1
        have HLL : Hid _ := hll
        obtain ⟨sa, sc, hsv⟩ := Mw.slFn hM1.mw
        dsimp only at hsv
        have HSV : Hid _ := hsv
        have hq1l : q1 ≤ 1024 := by have := hR1.le; omega
        clear hR1 hM1 hll HR HM2 HS HZ hsv
        by_cases hgo : er1 = 0 ∧ i < n
        · obtain ⟨he1, hi1⟩ := hgo
          subst he1
          have hlti : (i : Int) < (n : Int) := by omega
          obtain ⟨tyi, hty⟩ : ∃ t, ty[i]? = some t := ⟨_, List.getElem?_eq_getElem (by rw [HNT.out]; exact hi1)⟩
          have HTY : Hid _ := hty
          have HU := u32_z HR1.out
          go_wp2_with fail
          refine HU.mono ?_
          rintro en w3 ⟨z, q3, er3, a3, rfl, hR3, hK3, ⟨hB3, hz3⟩, hC3⟩
          have hM3 := HM1.out.cur hK3
          obtain ⟨sz, hszz⟩ : ∃ sz : Nat, z = sz := ⟨z.toNat, by omega⟩
          subst hszz
          unfold encI8
          have k1 := hR3.c1
          have k2 := hR3.c2
          have k3 := hR3.c3
          have kf2 := hR3.f.1.2
          have hq3e := hR3.le
          have HR3 : Hid _ := hR3
          have HM3 : Hid _ := hM3
          have HZ3 : Hid _ := hz3
          -- the types' numbers here
          have hT3 := HTK.out w3 hM3.kp
          obtain ⟨tg, tcc, htv3, _, _, _, htc3, _⟩ := OR.ptr hT3 (by rw [HNT.out]; omega)
          have htyc := htc3 i (.int .i64 tyi) (by unfold intC; rw [List.getElem?_map, hty]; rfl)
          have hTVe := HTV.out.symm.trans htv3
          rw [HNT.out] at hTVe
          simp at hTVe
          obtain ⟨hta0, htc0⟩ := hTVe
          subst htc0
          clear htv3 htc3 hT3 hR3 hK3 hM3 hz3 HU c3 cc1
          by_cases he3 : er3 = 0
          · subst he3
            by_cases hfit : (sz : Int) > (e : Int) - (q3 : Int)
            · have HF := fail_m HR3.out 3 q1 hq1l
              have HCf : Hid (∀ er' a', Flq 0 a3 3 q1 er' a' → Cu X er a { m.mod with funcs := l.map (·.1) } q3 er' a') := fun er' a' hf => hZ1.out _ _ _ _ (by
                rw [fnsL_b hty, fnRow_b]
                refine Cu.trans (v := (⟨0, ⟨#[]⟩, [], []⟩ : Fn)) (q := q3) (er1 := er') (a1 := a') (hC3.out.trans ?_) ?_
                · show Cu (if (sz : Int) > (e : Int) - (q3 : Int) then _ else _) _ _ _ _ _ _
                  rw [if_pos hfit]
                  exact Cu.fail _ _ hf (by decide)
                · exact Cu.stay _ _ (by rw [(hf.good rfl).1]; decide))
              have hfi : (e : Int) - (q3 : Int) < (sz : Int) := by omega
              clear hfit hZ1 hC3
              go_wp2_with fail
              refine HF.mono ?_
              rintro en w4 ⟨er4, a4, rfl, hR4, hK4, hF4⟩
              have HM4 : Hid _ := HM3.out.cur hK4
              have HR4 : Hid _ := hR4
              have HC4 : Hid (Cu X er a { m.mod with funcs := l.map (·.1) } q3 er4 a4) := HCf.out _ _ hF4.out
              clear hR4 hK4 hF4 HCf
              go_wp2
              refine bodyPost_ret (v := .tuple #[]) (results_none rfl _ _ _) rfl ?_
              exact ⟨{ m with fs := l, vf := v }, q3, er4, a4, rfl, HR4.out, HM4.out, HC4.out⟩
            · obtain ⟨E2, hE2⟩ : ∃ E2, q3 + sz = E2 := ⟨_, rfl⟩
              have HRowA : Hid (∀ fx q7 er7 a7, Cu (bindQ (localsS s q3 E2) fun b => bindQ (bodyQ s E2 (E2 - b.2 + 1) b.2 [] [] []) fun c => if c.2 = E2 then .ok ((⟨tyi, b.1, c.1.1, c.1.2⟩ : Fn), c.2) else .error (6, q3)) 0 a3 fx q7 er7 a7 → Cu (fnRow s e tyi q1) 0 a1 fx q7 er7 a7) := fun fx q7 er7 a7 hz => by
                rw [fnRow_b]
                refine hC3.out.trans ?_
                show Cu (if (sz : Int) > (e : Int) - (q3 : Int) then _ else _) _ _ _ _ _ _
                rw [if_neg hfit]
                rw [← hE2] at hz
                exact hz
              have hfi : ¬ ((e : Int) - (q3 : Int) < (sz : Int)) := by omega
              have he2 : (q3 : Int) + (sz : Int) = ((q3 + sz : Nat) : Int) := by omega
              have hR5 := HR3.out.setE (q3 + sz) (by omega) (by omega)
              rw [← he2] at hR5
              have hk5 : Kp (fun k => k = b) w3 (w3.setCell ⟨b, 2, none⟩ (.int .i64 ((q3 : Int) + (sz : Int)))) := (Kp.refl (fun k => k = b) _).setCell (p := ⟨b, 2, none⟩) (.inl rfl) _
              have hM5 := HM3.out.cur hk5
              have hka : Kp (fun _ => False) (w3.setCell ⟨b, 2, none⟩ (.int .i64 ((q3 : Int) + (sz : Int)))) ((w3.setCell ⟨b, 2, none⟩ (.int .i64 ((q3 : Int) + (sz : Int)))).alloc (.cells #[.int .i64 tyi, .string ⟨#[]⟩, .slice none 0 0, .slice none 0 0] 124)) := (Kp.refl _ _).alloc _
              have HC5 := count_m (hR5.keep hka (fun h => h)) 6 (by decide)
              have hsz5 : (w3.setCell ⟨b, 2, none⟩ (.int .i64 ((q3 : Int) + (sz : Int)))).heap.size = w3.heap.size := World.size_setCell ..
              have hbl3 : b < w3.heap.size := lt_of_cell HR3.out.c0
              have hF5 := Fb.new (w3.setCell ⟨b, 2, none⟩ (.int .i64 ((q3 : Int) + (sz : Int)))) tyi
              rw [hsz5] at hF5
              have HCd5 : Hid (Cdq w ((w3.setCell ⟨b, 2, none⟩ (.int .i64 ((q3 : Int) + (sz : Int)))).alloc (.cells #[.int .i64 tyi, .string ⟨#[]⟩, .slice none 0 0, .slice none 0 0] 124)) b mb w3.heap.size m { m with fs := l, vf := v } ⟨tyi, ⟨#[]⟩, [], []⟩ (.slice none 0 0) (.slice none 0 0)) := by
                refine ⟨hM5.new hka, hF5, fun k hk => ?_, fun k hk => ?_⟩
                · rcases hk with h | h | h
                  · subst h
                    refine ⟨by omega, fun h => ?_⟩
                    have := hM5.mw.lt h
                    rw [hsz5] at this
                    omega
                  · simp [Value.ownBlock] at h
                  · simp [Value.ownBlock] at h
                · rcases hk with h | h | h
                  · rw [h]; exact HM3.out.kp.size
                  · simp [Value.ownBlock] at h
                  · simp [Value.ownBlock] at h
              have hTg : tg ≠ b := (HTD.out tg (by rw [HTV.out, hta0]; rfl)).1
              clear hR5 hk5 hM5 hka hF5 he2
              subst hta0
              go_wp2_with fail
              refine HC5.mono ?_
              rintro en w6 ⟨gk, q6, er6, a6, rfl, hR6, hK6, hB6, hC6⟩
              obtain ⟨G, hG⟩ : ∃ G : Nat, gk = G := ⟨gk.toNat, by omega⟩
              subst hG
              have HCd6 : Hid _ := HCd5.out.cur hK6
              rw [hE2] at hR6 hC6
              have HR6 : Hid _ := hR6
              have HZL : Hid (∀ acc2 q7 er7 a7, Cu (locQ s E2 G [] q6) er6 a6 acc2 q7 er7 a7 → Cu (localsS s q3 E2) 0 a3 (bytesOf acc2) q7 er7 a7) := fun acc2 q7 er7 a7 hz => by
                rw [localsS_b]
                exact Cu.start (hC6.out.trans (hz.trans (Cu.pure _ _)))
              obtain ⟨fb, hfb⟩ : ∃ fb, w3.heap.size = fb := ⟨_, rfl⟩
              have hG6 : G ≤ 6 := by omega
              have HE2 : Hid _ := hE2
              unfold encI8
              clear hR6 hK6 hB6 hC6 HC5 HCd5 k1 k2 k3 kf2 htyc
              rw [hfb] at HCd6
              go_wp2
              try rw [hfb]
              clear hfb hsz5 hE2
              go_loopw [14] (fun gg w7 => ∃ (g q7 a7 : Nat) (er7 : Int) (acc : List Nat), g ≤ G ∧ acc.length ≤ 6 ∧ gg = .int .i64 (g : Int) ∧ Rc w7 b s q7 E2 er7 a7 ∧ Cdq w w7 b mb fb m { m with fs := l, vf := v } ⟨tyi, bytesOf acc, [], []⟩ (.slice none 0 0) (.slice none 0 0) ∧ Hid (∀ acc2 q8 er8 a8, Cu (locQ s E2 (G - g) acc q7) er7 a7 acc2 q8 er8 a8 → Cu (localsS s q3 E2) 0 a3 (bytesOf acc2) q8 er8 a8)) (fun gg _ => G - (intOf gg).toNat)
              case atStart => exact ⟨0, q6, a6, er6, [], by omega, by simp, rfl, HR6.out, HCd6.out, HZL.out⟩
              case round =>
                obtain ⟨g, q7, a7, er7, acc, hg, hal, rfl, hR7, hCd7, hZ7⟩ := hrel
                have n3 := hR7.c3
                have HR7 : Hid _ := hR7
                have HCd7 : Hid _ := hCd7
                have l1 := hCd7.fb_.c1
                dsimp only at l1
                obtain ⟨L, hL⟩ : ∃ L, (bytesOf acc).size = L := ⟨_, rfl⟩
                have hLa : L = acc.length := by rw [← hL, bytesOf_sizeQ]
                clear hR7 hCd7 HR6 HCd6 HZL
                by_cases hgo7 : er7 = 0 ∧ g < G
                · obtain ⟨he7, hg7⟩ := hgo7
                  subst he7
                  have hltg : (g : Int) < (G : Int) := by omega
                  have HU7 := count_m HR7.out (6 - (L : Int)) (by omega)
                  have HLA : Hid _ := hLa
                  have HL : Hid _ := hL
                  have hLb : L ≤ 6 := by omega
                  have hLbi : (L : Int) ≤ 6 := by omega
                  clear hLa
                  go_wp2_with fail
                  clear hL
                  refine HU7.mono ?_
                  rintro en w7a ⟨kk, q7a, er7a, a7a, rfl, hR7a, hK7a, hB7a, hC7a⟩
                  obtain ⟨k, hk⟩ : ∃ k : Nat, kk = k := ⟨kk.toNat, by omega⟩
                  subst hk
                  have hkl : acc.length + k ≤ 6 := by have := HLA.out; omega
                  have hCd7a := HCd7.out.cur hK7a
                  have HU8 := valtype_m hR7a
                  have HCd7a : Hid _ := hCd7a
                  clear hR7a hK7a hCd7a HU7 n3 hB7a l1
                  unfold encI8
                  go_wp2_with fail
                  refine HU8.mono ?_
                  rintro en w7b ⟨tt, q7b, er7b, a7b, rfl, hR7b, hK7b, hB7b, hC7b⟩
                  have HCd7b : Hid _ := HCd7a.out.cur hK7b
                  have HR7b : Hid _ := hR7b
                  have hz7 : ∀ acc2 q8 er8 a8, Cu (locQ s E2 (G - (g + 1)) (acc ++ List.replicate k tt) q7b) er7b a7b acc2 q8 er8 a8 → Cu (localsS s q3 E2) 0 a3 (bytesOf acc2) q8 er8 a8 := fun acc2 q8 er8 a8 hz => hZ7.out _ _ _ _ (by
                    rw [show G - g = G - (g + 1) + 1 by omega, locQ]
                    refine Cu.trans (v := (k : Int)) (q := q7a) (er1 := er7a) (a1 := a7a) ?_ (hC7b.out.trans hz)
                    have := hC7a.out
                    rw [HLA.out] at this
                    exact this)
                  have HZ7 : Hid (∀ acc2 q8 er8 a8, Cu (locQ s E2 (G - (g + 1)) (acc ++ List.replicate k tt) q7b) er7b a7b acc2 q8 er8 a8 → Cu (localsS s q3 E2) 0 a3 (bytesOf acc2) q8 er8 a8) := hz7
                  clear hR7b hK7b HU8 HCd7a hz7 hZ7 hC7a hC7b
                  unfold encB
                  go_wp2
                  go_loopw [17] (fun jj w8 => ∃ (j : Nat), j ≤ k ∧ jj = .int .i64 (j : Int) ∧ Rc w8 b s q7b E2 er7b a7b ∧ Cdq w w8 b mb fb m { m with fs := l, vf := v } ⟨tyi, bytesOf (acc ++ List.replicate j tt), [], []⟩ (.slice none 0 0) (.slice none 0 0)) (fun jj _ => k - (intOf jj).toNat)
                  case atStart => exact ⟨0, by omega, rfl, HR7b.out, by simpa using HCd7b.out⟩
                  case round =>
                    obtain ⟨j, hj, rfl, hR8, hCd8⟩ := hrel
                    have o3 := hR8.c3
                    have HR8 : Hid _ := hR8
                    have HCd8 : Hid _ := hCd8
                    have l1 := hCd8.fb_.c1
                    have lf1 := hCd8.fb_.fz 1
                    dsimp only at l1
                    obtain ⟨T8, hT8⟩ : ∃ T8, bytesOf (acc ++ List.replicate j tt) = T8 := ⟨_, rfl⟩
                    have hT8s : T8.size = acc.length + j := by rw [← hT8, bytesOf_sizeQ]; simp
                    rw [hT8] at l1 HCd8
                    have HT8 : Hid _ := hT8
                    have HT8s : Hid _ := hT8s
                    clear hR8 hCd8 HR7b HCd7b hT8 hT8s
                    by_cases hgo8 : er7b = 0 ∧ j < k
                    · obtain ⟨he8, hj8⟩ := hgo8
                      subst he8
                      have hltj : (j : Int) < (k : Int) := by omega
                      have HO := one_str wr tt hB7b
                      have hka : Kp (fun _ => False) wr (wr.alloc (.cells #[.int .u8 (tt : Int)] 5)) := (Kp.refl _ _).alloc _
                      have hCa := HCd8.out.new hka
                      have hCb := hCa.setL (T8 ++ ⟨#[UInt8.ofNat tt]⟩)
                      have l1a := hCa.fb_.c1
                      have lf1a := hCa.fb_.fz 1
                      dsimp only at l1a hCb
                      have HCb : Hid _ := hCb
                      have HRb : Hid (Rc ((wr.alloc (.cells #[.int .u8 (tt : Int)] 5)).setCell ⟨fb, 1, none⟩ (.string (T8 ++ ⟨#[UInt8.ofNat tt]⟩))) b s q7b E2 0 a7b) := (HR8.out.keep hka (fun h => h)).keep ((Kp.refl (fun k => k = fb) _).setCell (p := ⟨fb, 1, none⟩) (.inl rfl) _) (fun h => (HCd8.out.ne fb (.inl rfl)).1 (by have : b = fb := h; exact this.symm))
                      have hsz8 : ¬ 9223372036854775807 < T8.size + 1 := by have := HT8s.out; omega
                      clear hCa hCb hka
                      go_wp2_with (simp only [HO])
                      refine ⟨⟨j + 1, by omega, by go_num, HRb.out, ?_⟩, by simp [intOf]; omega⟩
                      have e8 : bytesOf (acc ++ List.replicate (j + 1) tt) = T8 ++ ⟨#[UInt8.ofNat tt]⟩ := by
                        rw [List.replicate_succ', ← List.append_assoc, bytesOf_app, HT8.out]
                      rw [e8]
                      exact HCb.out
                    · have HNext : Hid (∀ acc2 q8 er8 a8, Cu (locQ s E2 (G - (g + 1)) (acc ++ List.replicate j tt) q7b) er7b a7b acc2 q8 er8 a8 → Cu (localsS s q3 E2) 0 a3 (bytesOf acc2) q8 er8 a8) := fun acc2 q8 er8 a8 hz => by
                        by_cases hj8 : j < k
                        · have he8 : er7b ≠ 0 := fun h => hgo8 ⟨h, hj8⟩
                          exact HZ7.out _ _ _ _ ⟨fun h => absurd h he8, hz.bad⟩
                        · have : j = k := by omega
                          subst this
                          exact HZ7.out _ _ _ _ hz
                      have hlen : (acc ++ List.replicate j tt).length ≤ 6 := by simp; omega
                      have HLen : Hid _ := hlen
                      clear HZ7 hlen
                      by_cases hj8 : j < k
                      · have he8 : er7b ≠ 0 := fun h => hgo8 ⟨h, hj8⟩
                        have heb8 : (er7b == 0) = false := by rw [beq_eq_false_iff_ne]; exact he8
                        have hltj : (j : Int) < (k : Int) := by omega
                        go_wp2
                        refine ⟨⟨g + 1, q7b, a7b, er7b, acc ++ List.replicate j tt, by omega, HLen.out, by go_num, HR8.out, ?_, HNext.out⟩, by simp [intOf]; omega⟩
                        rw [HT8.out]
                        exact HCd8.out
                      · have hltj : ¬ (j : Int) < (k : Int) := by omega
                        go_wp2
                        refine ⟨⟨g + 1, q7b, a7b, er7b, acc ++ List.replicate j tt, by omega, HLen.out, by go_num, HR8.out, ?_, HNext.out⟩, by simp [intOf]; omega⟩
                        rw [HT8.out]
                        exact HCd8.out
                · have HLoc : Hid (Cu (localsS s q3 E2) 0 a3 (bytesOf acc) q7 er7 a7) := hZ7.out _ _ _ _ (by
                    by_cases hg7 : g < G
                    · exact Cu.stay _ _ (fun h => hgo7 ⟨h, hg7⟩)
                    · rw [show G - g = 0 by omega]
                      exact Cu.pure _ _)
                  have HRowB : Hid (∀ fx q8 er8 a8, Cu (bindQ (bodyQ s E2 (E2 - q7 + 1) q7 [] [] []) fun c => if c.2 = E2 then .ok ((⟨tyi, bytesOf acc, c.1.1, c.1.2⟩ : Fn), c.2) else .error (6, q3)) er7 a7 fx q8 er8 a8 → Cu (fnRow s e tyi q1) 0 a1 fx q8 er8 a8) := fun fx q8 er8 a8 hz => HRowA.out _ _ _ _ (HLoc.out.trans hz)
                  have HCd8 : Hid _ := HCd7.out
                  have HR8x : Hid _ := HR7.out
                  have hE2e : E2 ≤ e := by have := HE2.out; omega
                  clear hZ7 HLoc HRowA l1 hL hLa
                  by_cases hg7 : g < G
                  · have he7 : er7 ≠ 0 := fun h => hgo7 ⟨h, hg7⟩
                    have heb7 : (er7 == 0) = false := by rw [beq_eq_false_iff_ne]; exact he7
                    have hltg : (g : Int) < (G : Int) := by omega
                    have HB8 := body_m HR8x.out HCd8.out.fb_ (fun h => (HCd8.out.ne b h).1 rfl) ⟨rfl, rfl⟩
                    go_wp2_with fail
                    refine HB8.mono ?_
                    rintro en w9 ⟨ins9, t9, q9, er9, a9, vb9, vt9, rfl, hR9, hF9, hK9, hob9, hot9, hil9, htl9, hC9⟩
                    have hCd9 := HCd8.out.body hF9 hK9 hob9 hot9 (lt_of_cell HR8x.out.c0)
                    have HCd9 : Hid _ := hCd9
                    have HR9 : Hid _ := hR9
                    have m1 := hR9.c1
                    have m2 := hR9.c2
                    have m3 := hR9.c3
                    have hq9 := hR9.le
                    have hee9 := hC9.out.bad he7
                    have he9 : er9 ≠ 0 := by rw [hee9.1]; exact he7
                    have heb9 : (er9 == 0) = false := by rw [beq_eq_false_iff_ne]; exact he9
                    have HRow : Hid (Cu (fnRow s e tyi q1) 0 a1 (⟨tyi, (bytesOf acc), ins9, t9⟩ : Fn) q9 er9 a9) := HRowB.out _ _ _ _ (hC9.out.trans (Cu.stay _ _ he9))
                    clear hF9 hK9 hob9 hot9 hCd9 hR9 HB8 hee9 hC9
                    go_wp2_with fail
                    go_quiet (fail)
                    have hCdx := HCd9.out.new ((Kp.refl (fun _ => False) w9).drewM nq)
                    have hRcx := HR9.out.keep ((Kp.refl (fun _ => False) w9).drewM nq) (fun h => h)
                    obtain ⟨ba, bc, hvb⟩ := hCdx.fb_.bo.slice
                    obtain ⟨ta, tc, hvt⟩ := hCdx.fb_.ta.slice
                    dsimp only at hvb hvt
                    subst hvb hvt
                    have hk2 : Kp (fun k => k = b) (w9.drewN nq) ((w9.drewN nq).setCell ⟨b, 2, none⟩ (.int .i64 (e : Int))) := (Kp.refl (fun k => k = b) _).setCell (p := ⟨b, 2, none⟩) (.inl rfl) _
                    have hRq := hRcx.setE e (by have := hRcx.le; omega) hes
                    have hCd2 := hCdx.cur hk2
                    have g2 := hRcx.c2
                    have gf2 := hRcx.f.1.2
                    have HCd2 : Hid _ := hCd2
                    have HRq : Hid _ := hRq
                    clear hCdx hk2 hRq hCd2 hRcx
                    go_wp2_with fail
                    obtain ⟨W9, hW9⟩ : ∃ W9, (w9.drewN nq).setCell ⟨b, 2, none⟩ (.int .i64 (e : Int)) = W9 := ⟨_, rfl⟩
                    rw [hW9] at HCd2 HRq ⊢
                    clear hW9
                    have hcc0 := HCd2.out.fb_.c0
                    have hcc1 := HCd2.out.fb_.c1
                    have hcc2 := HCd2.out.fb_.c2
                    have hcc3 := HCd2.out.fb_.c3
                    have dj := HCd2.out.ms.mw.c2
                    dsimp only at dj hcc0 hcc1 hcc2 hcc3
                    rw [HSV.out] at dj
                    have hD : Kp (fun _ => False) W9 W9.drew := (Kp.refl _ _).drew
                    have hCD := HCd2.out.new hD
                    obtain ⟨v', w8, r1, ⟨ra, rn, rc, hvo⟩, ⟨r2, r3⟩, r5, r6⟩ := hCD.push (by have := HLL.out; show l.length ≤ 1000; omega) rfl rfl
                    dsimp only at r1 r2
                    rw [HSV.out] at r1 r2
                    subst hvo
                    obtain ⟨U, hU⟩ : ∃ U, W9.drew.alloc (.cells #[.int .i64 tyi, .string (bytesOf acc), .slice ba ins9.length bc, .slice ta t9.length tc] 124) = U := ⟨_, rfl⟩
                    have hKU : Kp (fun _ => False) W9 U := by rw [← hU]; exact hD.alloc _
                    have djU : U.cell? ⟨mb, 2, none⟩ = some (.slice sa l.length sc) := by rw [hKU.cell (p := ⟨mb, 2, none⟩) (HCd2.out.ms.mw.lt (.inl rfl)) (fun h => h)]; exact dj
                    have hlf : fb < W9.heap.size := HCd2.out.fb_.lt (.inl rfl)
                    have u0 := (hKU.cell (p := ⟨fb, 0, none⟩) hlf (fun h => h)).trans hcc0
                    have u1 := (hKU.cell (p := ⟨fb, 1, none⟩) hlf (fun h => h)).trans hcc1
                    have u2 := (hKU.cell (p := ⟨fb, 2, none⟩) hlf (fun h => h)).trans hcc2
                    have u3 := (hKU.cell (p := ⟨fb, 3, none⟩) hlf (fun h => h)).trans hcc3
                    have hUU : (W9.alloc (.cells #[.int .i64 tyi, .string (bytesOf acc), .slice ba ins9.length bc, .slice ta t9.length tc] 124)).drew = U := by rw [← hU]; rfl
                    rw [hU] at r1
                    have HR1a : Hid _ := r1
                    have HM8 : Hid _ := r5
                    have HR8 : Hid _ := (HRq.out.keep hD (fun h => h)).keep r6 hCD.ms.ne
                    clear r5 r6 hCD hKU hD r1 hU hlf
                    apply region_one
                    case walk =>
                      go_region_law (refine step_apq rfl _ _ 79 rfl HR1a.out ?_)
                      all_goals exact ⟨rfl, rfl⟩
                    case key =>
                      go_wp2
                      have hll2 := HLL.out
                      refine ⟨⟨i + 1, q9, a9, er9, l ++ [_], .slice ra rn rc, by omega, by rw [List.length_append, hll2]; rfl, by go_num, HR8.out, HM8.out, fun l2 qq er2 a2 hz => hZ1.out _ _ _ _ ?_⟩, by simp [intOf]; omega⟩
                      rw [fnsL_b HTY.out]
                      refine Cu.trans (HRow.out) ?_
                      rw [List.map_append] at hz
                      exact hz
                  · have hltg : ¬ (g : Int) < (G : Int) := by omega
                    have HB8 := body_m HR8x.out HCd8.out.fb_ (fun h => (HCd8.out.ne b h).1 rfl) ⟨rfl, rfl⟩
                    go_wp2_with fail
                    refine HB8.mono ?_
                    rintro en w9 ⟨ins9, t9, q9, er9, a9, vb9, vt9, rfl, hR9, hF9, hK9, hob9, hot9, hil9, htl9, hC9⟩
                    have hCd9 := HCd8.out.body hF9 hK9 hob9 hot9 (lt_of_cell HR8x.out.c0)
                    have HCd9 : Hid _ := hCd9
                    have HR9 : Hid _ := hR9
                    have m1 := hR9.c1
                    have m2 := hR9.c2
                    have m3 := hR9.c3
                    have hq9 := hR9.le
                    clear hF9 hK9 hob9 hot9 hCd9 hR9 HB8
                    by_cases he9 : er9 = 0
                    · subst he9
                      by_cases hend : q9 = E2
                      · have HRow : Hid (Cu (fnRow s e tyi q1) 0 a1 (⟨tyi, (bytesOf acc), ins9, t9⟩ : Fn) q9 0 a9) := HRowB.out _ _ _ _ (hC9.out.trans (by rw [if_pos hend]; exact Cu.pure _ _))
                        have hb1 : ((q9 : Int) == (E2 : Int)) = true := by rw [beq_iff_eq]; omega
                        have hb2 : ((q9 : Int) != (E2 : Int)) = false := by simp [bne, hb1]
                        clear hend
                        go_wp2_with fail
                        go_quiet (fail)
                        have hCdx := HCd9.out.new ((Kp.refl (fun _ => False) w9).drewM nq)
                        have hRcx := HR9.out.keep ((Kp.refl (fun _ => False) w9).drewM nq) (fun h => h)
                        obtain ⟨ba, bc, hvb⟩ := hCdx.fb_.bo.slice
                        obtain ⟨ta, tc, hvt⟩ := hCdx.fb_.ta.slice
                        dsimp only at hvb hvt
                        subst hvb hvt
                        have hk2 : Kp (fun k => k = b) (w9.drewN nq) ((w9.drewN nq).setCell ⟨b, 2, none⟩ (.int .i64 (e : Int))) := (Kp.refl (fun k => k = b) _).setCell (p := ⟨b, 2, none⟩) (.inl rfl) _
                        have hRq := hRcx.setE e (by have := hRcx.le; omega) hes
                        have hCd2 := hCdx.cur hk2
                        have g2 := hRcx.c2
                        have gf2 := hRcx.f.1.2
                        have HCd2 : Hid _ := hCd2
                        have HRq : Hid _ := hRq
                        clear hCdx hk2 hRq hCd2 hRcx
                        go_wp2_with fail
                        obtain ⟨W9, hW9⟩ : ∃ W9, (w9.drewN nq).setCell ⟨b, 2, none⟩ (.int .i64 (e : Int)) = W9 := ⟨_, rfl⟩
                        rw [hW9] at HCd2 HRq ⊢
                        clear hW9
                        have hcc0 := HCd2.out.fb_.c0
                        have hcc1 := HCd2.out.fb_.c1
                        have hcc2 := HCd2.out.fb_.c2
                        have hcc3 := HCd2.out.fb_.c3
                        have dj := HCd2.out.ms.mw.c2
                        dsimp only at dj hcc0 hcc1 hcc2 hcc3
                        rw [HSV.out] at dj
                        have hD : Kp (fun _ => False) W9 W9.drew := (Kp.refl _ _).drew
                        have hCD := HCd2.out.new hD
                        obtain ⟨v', w8, r1, ⟨ra, rn, rc, hvo⟩, ⟨r2, r3⟩, r5, r6⟩ := hCD.push (by have := HLL.out; show l.length ≤ 1000; omega) rfl rfl
                        dsimp only at r1 r2
                        rw [HSV.out] at r1 r2
                        subst hvo
                        obtain ⟨U, hU⟩ : ∃ U, W9.drew.alloc (.cells #[.int .i64 tyi, .string (bytesOf acc), .slice ba ins9.length bc, .slice ta t9.length tc] 124) = U := ⟨_, rfl⟩
                        have hKU : Kp (fun _ => False) W9 U := by rw [← hU]; exact hD.alloc _
                        have djU : U.cell? ⟨mb, 2, none⟩ = some (.slice sa l.length sc) := by rw [hKU.cell (p := ⟨mb, 2, none⟩) (HCd2.out.ms.mw.lt (.inl rfl)) (fun h => h)]; exact dj
                        have hlf : fb < W9.heap.size := HCd2.out.fb_.lt (.inl rfl)
                        have u0 := (hKU.cell (p := ⟨fb, 0, none⟩) hlf (fun h => h)).trans hcc0
                        have u1 := (hKU.cell (p := ⟨fb, 1, none⟩) hlf (fun h => h)).trans hcc1
                        have u2 := (hKU.cell (p := ⟨fb, 2, none⟩) hlf (fun h => h)).trans hcc2
                        have u3 := (hKU.cell (p := ⟨fb, 3, none⟩) hlf (fun h => h)).trans hcc3
                        have hUU : (W9.alloc (.cells #[.int .i64 tyi, .string (bytesOf acc), .slice ba ins9.length bc, .slice ta t9.length tc] 124)).drew = U := by rw [← hU]; rfl
                        rw [hU] at r1
                        have HR1a : Hid _ := r1
                        have HM8 : Hid _ := r5
                        have HR8 : Hid _ := (HRq.out.keep hD (fun h => h)).keep r6 hCD.ms.ne
                        clear r5 r6 hCD hKU hD r1 hU hlf
                        apply region_one
                        case walk =>
                          go_region_law (refine step_apq rfl _ _ 79 rfl HR1a.out ?_)
                          all_goals exact ⟨rfl, rfl⟩
                        case key =>
                          go_wp2
                          have hll2 := HLL.out
                          refine ⟨⟨i + 1, q9, a9, 0, l ++ [_], .slice ra rn rc, by omega, by rw [List.length_append, hll2]; rfl, by go_num, HR8.out, HM8.out, fun l2 qq er2 a2 hz => hZ1.out _ _ _ _ ?_⟩, by simp [intOf]; omega⟩
                          rw [fnsL_b HTY.out]
                          refine Cu.trans (HRow.out) ?_
                          rw [List.map_append] at hz
                          exact hz
                      · have HRowF : Hid (∀ er' a', Flq 0 a9 6 q3 er' a' → Cu (fnRow s e tyi q1) 0 a1 (⟨tyi, (bytesOf acc), ins9, t9⟩ : Fn) q9 er' a') := fun er' a' hf => HRowB.out _ _ _ _ (hC9.out.trans (by rw [if_neg hend]; exact Cu.fail _ _ hf (by decide)))
                        have hb1 : ((q9 : Int) == (E2 : Int)) = false := by rw [beq_eq_false_iff_ne]; omega
                        have hb2 : ((q9 : Int) != (E2 : Int)) = true := by simp [bne, hb1]
                        have HF9 := fun n => fail_m (HR9.out.keep ((Kp.refl (fun _ => False) w9).drewM n) (fun h => h)) 6 q3 (by omega)
                        clear hend
                        go_wp2_with fail
                        go_quiet (fail)
                        go_wp2_with fail
                        refine (HF9 _).mono ?_
                        rintro en w10 ⟨er10, a10, rfl, hR10, hK10, hF10⟩
                        have HCd10 : Hid _ := (HCd9.out.new ((Kp.refl (fun _ => False) w9).drewM _)).cur hK10
                        have HR10 : Hid _ := hR10
                        have HRow : Hid (Cu (fnRow s e tyi q1) 0 a1 (⟨tyi, (bytesOf acc), ins9, t9⟩ : Fn) q9 er10 a10) := HRowF.out _ _ hF10.out
                        clear hR10 hK10 hF10 HRowF HF9 m1 m2 m3
                        have hCdx := HCd10.out
                        have hRcx := HR10.out
                        obtain ⟨ba, bc, hvb⟩ := hCdx.fb_.bo.slice
                        obtain ⟨ta, tc, hvt⟩ := hCdx.fb_.ta.slice
                        dsimp only at hvb hvt
                        subst hvb hvt
                        have hk2 : Kp (fun k => k = b) w10 (w10.setCell ⟨b, 2, none⟩ (.int .i64 (e : Int))) := (Kp.refl (fun k => k = b) _).setCell (p := ⟨b, 2, none⟩) (.inl rfl) _
                        have hRq := hRcx.setE e (by have := hRcx.le; omega) hes
                        have hCd2 := hCdx.cur hk2
                        have g2 := hRcx.c2
                        have gf2 := hRcx.f.1.2
                        have HCd2 : Hid _ := hCd2
                        have HRq : Hid _ := hRq
                        clear hCdx hk2 hRq hCd2 hRcx
                        go_wp2_with fail
                        obtain ⟨W9, hW9⟩ : ∃ W9, w10.setCell ⟨b, 2, none⟩ (.int .i64 (e : Int)) = W9 := ⟨_, rfl⟩
                        rw [hW9] at HCd2 HRq ⊢
                        clear hW9
                        have hcc0 := HCd2.out.fb_.c0
                        have hcc1 := HCd2.out.fb_.c1
                        have hcc2 := HCd2.out.fb_.c2
                        have hcc3 := HCd2.out.fb_.c3
                        have dj := HCd2.out.ms.mw.c2
                        dsimp only at dj hcc0 hcc1 hcc2 hcc3
                        rw [HSV.out] at dj
                        have hD : Kp (fun _ => False) W9 W9.drew := (Kp.refl _ _).drew
                        have hCD := HCd2.out.new hD
                        obtain ⟨v', w8, r1, ⟨ra, rn, rc, hvo⟩, ⟨r2, r3⟩, r5, r6⟩ := hCD.push (by have := HLL.out; show l.length ≤ 1000; omega) rfl rfl
                        dsimp only at r1 r2
                        rw [HSV.out] at r1 r2
                        subst hvo
                        obtain ⟨U, hU⟩ : ∃ U, W9.drew.alloc (.cells #[.int .i64 tyi, .string (bytesOf acc), .slice ba ins9.length bc, .slice ta t9.length tc] 124) = U := ⟨_, rfl⟩
                        have hKU : Kp (fun _ => False) W9 U := by rw [← hU]; exact hD.alloc _
                        have djU : U.cell? ⟨mb, 2, none⟩ = some (.slice sa l.length sc) := by rw [hKU.cell (p := ⟨mb, 2, none⟩) (HCd2.out.ms.mw.lt (.inl rfl)) (fun h => h)]; exact dj
                        have hlf : fb < W9.heap.size := HCd2.out.fb_.lt (.inl rfl)
                        have u0 := (hKU.cell (p := ⟨fb, 0, none⟩) hlf (fun h => h)).trans hcc0
                        have u1 := (hKU.cell (p := ⟨fb, 1, none⟩) hlf (fun h => h)).trans hcc1
                        have u2 := (hKU.cell (p := ⟨fb, 2, none⟩) hlf (fun h => h)).trans hcc2
                        have u3 := (hKU.cell (p := ⟨fb, 3, none⟩) hlf (fun h => h)).trans hcc3
                        have hUU : (W9.alloc (.cells #[.int .i64 tyi, .string (bytesOf acc), .slice ba ins9.length bc, .slice ta t9.length tc] 124)).drew = U := by rw [← hU]; rfl
                        rw [hU] at r1
                        have HR1a : Hid _ := r1
                        have HM8 : Hid _ := r5
                        have HR8 : Hid _ := (HRq.out.keep hD (fun h => h)).keep r6 hCD.ms.ne
                        clear r5 r6 hCD hKU hD r1 hU hlf
                        apply region_one
                        case walk =>
                          go_region_law (refine step_apq rfl _ _ 79 rfl HR1a.out ?_)
                          all_goals exact ⟨rfl, rfl⟩
                        case key =>
                          go_wp2
                          have hll2 := HLL.out
                          refine ⟨⟨i + 1, q9, a10, er10, l ++ [_], .slice ra rn rc, by omega, by rw [List.length_append, hll2]; rfl, by go_num, HR8.out, HM8.out, fun l2 qq er2 a2 hz => hZ1.out _ _ _ _ ?_⟩, by simp [intOf]; omega⟩
                          rw [fnsL_b HTY.out]
                          refine Cu.trans (HRow.out) ?_
                          rw [List.map_append] at hz
                          exact hz
                    · have HRow : Hid (Cu (fnRow s e tyi q1) 0 a1 (⟨tyi, (bytesOf acc), ins9, t9⟩ : Fn) q9 er9 a9) := HRowB.out _ _ _ _ (hC9.out.trans (Cu.stay _ _ he9))
                      have heb9 : (er9 == 0) = false := by rw [beq_eq_false_iff_ne]; exact he9
                      go_wp2_with fail
                      go_quiet (fail)
                      have hCdx := HCd9.out.new ((Kp.refl (fun _ => False) w9).drewM nq)
                      have hRcx := HR9.out.keep ((Kp.refl (fun _ => False) w9).drewM nq) (fun h => h)
                      obtain ⟨ba, bc, hvb⟩ := hCdx.fb_.bo.slice
                      obtain ⟨ta, tc, hvt⟩ := hCdx.fb_.ta.slice
                      dsimp only at hvb hvt
                      subst hvb hvt
                      have hk2 : Kp (fun k => k = b) (w9.drewN nq) ((w9.drewN nq).setCell ⟨b, 2, none⟩ (.int .i64 (e : Int))) := (Kp.refl (fun k => k = b) _).setCell (p := ⟨b, 2, none⟩) (.inl rfl) _
                      have hRq := hRcx.setE e (by have := hRcx.le; omega) hes
                      have hCd2 := hCdx.cur hk2
                      have g2 := hRcx.c2
                      have gf2 := hRcx.f.1.2
                      have HCd2 : Hid _ := hCd2
                      have HRq : Hid _ := hRq
                      clear hCdx hk2 hRq hCd2 hRcx
                      go_wp2_with fail
                      obtain ⟨W9, hW9⟩ : ∃ W9, (w9.drewN nq).setCell ⟨b, 2, none⟩ (.int .i64 (e : Int)) = W9 := ⟨_, rfl⟩
                      rw [hW9] at HCd2 HRq ⊢
                      clear hW9
                      have hcc0 := HCd2.out.fb_.c0
                      have hcc1 := HCd2.out.fb_.c1
                      have hcc2 := HCd2.out.fb_.c2
                      have hcc3 := HCd2.out.fb_.c3
                      have dj := HCd2.out.ms.mw.c2
                      dsimp only at dj hcc0 hcc1 hcc2 hcc3
                      rw [HSV.out] at dj
                      have hD : Kp (fun _ => False) W9 W9.drew := (Kp.refl _ _).drew
                      have hCD := HCd2.out.new hD
                      obtain ⟨v', w8, r1, ⟨ra, rn, rc, hvo⟩, ⟨r2, r3⟩, r5, r6⟩ := hCD.push (by have := HLL.out; show l.length ≤ 1000; omega) rfl rfl
                      dsimp only at r1 r2
                      rw [HSV.out] at r1 r2
                      subst hvo
                      obtain ⟨U, hU⟩ : ∃ U, W9.drew.alloc (.cells #[.int .i64 tyi, .string (bytesOf acc), .slice ba ins9.length bc, .slice ta t9.length tc] 124) = U := ⟨_, rfl⟩
                      have hKU : Kp (fun _ => False) W9 U := by rw [← hU]; exact hD.alloc _
                      have djU : U.cell? ⟨mb, 2, none⟩ = some (.slice sa l.length sc) := by rw [hKU.cell (p := ⟨mb, 2, none⟩) (HCd2.out.ms.mw.lt (.inl rfl)) (fun h => h)]; exact dj
                      have hlf : fb < W9.heap.size := HCd2.out.fb_.lt (.inl rfl)
                      have u0 := (hKU.cell (p := ⟨fb, 0, none⟩) hlf (fun h => h)).trans hcc0
                      have u1 := (hKU.cell (p := ⟨fb, 1, none⟩) hlf (fun h => h)).trans hcc1
                      have u2 := (hKU.cell (p := ⟨fb, 2, none⟩) hlf (fun h => h)).trans hcc2
                      have u3 := (hKU.cell (p := ⟨fb, 3, none⟩) hlf (fun h => h)).trans hcc3
                      have hUU : (W9.alloc (.cells #[.int .i64 tyi, .string (bytesOf acc), .slice ba ins9.length bc, .slice ta t9.length tc] 124)).drew = U := by rw [← hU]; rfl
                      rw [hU] at r1
                      have HR1a : Hid _ := r1
                      have HM8 : Hid _ := r5
                      have HR8 : Hid _ := (HRq.out.keep hD (fun h => h)).keep r6 hCD.ms.ne
                      clear r5 r6 hCD hKU hD r1 hU hlf
                      apply region_one
                      case walk =>
                        go_region_law (refine step_apq rfl _ _ 79 rfl HR1a.out ?_)
                        all_goals exact ⟨rfl, rfl⟩
                      case key =>
                        go_wp2
                        have hll2 := HLL.out
                        refine ⟨⟨i + 1, q9, a9, er9, l ++ [_], .slice ra rn rc, by omega, by rw [List.length_append, hll2]; rfl, by go_num, HR8.out, HM8.out, fun l2 qq er2 a2 hz => hZ1.out _ _ _ _ ?_⟩, by simp [intOf]; omega⟩
                        rw [fnsL_b HTY.out]
                        refine Cu.trans (HRow.out) ?_
                        rw [List.map_append] at hz
                        exact hz
          · have hs0 : sz = 0 := by have := HZ3.out he3; omega
            subst hs0
            clear HZ3
            have heb3 : (er3 == 0) = false := by rw [beq_eq_false_iff_ne]; exact he3
            have HRowZ : Hid (∀ (fx : Fn) q7, Cu (fnRow s e tyi q1) 0 a1 fx q7 er3 a3) := fun fx q7 => by
              rw [fnRow_b]
              exact hC3.out.trans (Cu.stay _ _ he3)
            have hR5 := HR3.out.setE q3 (by omega) (by omega)
            have hk5 : Kp (fun k => k = b) w3 (w3.setCell ⟨b, 2, none⟩ (.int .i64 (q3 : Int))) := (Kp.refl (fun k => k = b) _).setCell (p := ⟨b, 2, none⟩) (.inl rfl) _
            have hM5 := HM3.out.cur hk5
            have hka : Kp (fun _ => False) (w3.setCell ⟨b, 2, none⟩ (.int .i64 (q3 : Int))) ((w3.setCell ⟨b, 2, none⟩ (.int .i64 (q3 : Int))).alloc (.cells #[.int .i64 tyi, .string ⟨#[]⟩, .slice none 0 0, .slice none 0 0] 124)) := (Kp.refl _ _).alloc _
            have HC5 := count_z (hR5.keep hka (fun h => h)) 6 (by decide)
            have hsz5 : (w3.setCell ⟨b, 2, none⟩ (.int .i64 (q3 : Int))).heap.size = w3.heap.size := World.size_setCell ..
            have hbl3 : b < w3.heap.size := lt_of_cell HR3.out.c0
            have hF5 := Fb.new (w3.setCell ⟨b, 2, none⟩ (.int .i64 (q3 : Int))) tyi
            rw [hsz5] at hF5
            have HCd5 : Hid (Cdq w ((w3.setCell ⟨b, 2, none⟩ (.int .i64 (q3 : Int))).alloc (.cells #[.int .i64 tyi, .string ⟨#[]⟩, .slice none 0 0, .slice none 0 0] 124)) b mb w3.heap.size m { m with fs := l, vf := v } ⟨tyi, ⟨#[]⟩, [], []⟩ (.slice none 0 0) (.slice none 0 0)) := by
              refine ⟨hM5.new hka, hF5, fun k hk => ?_, fun k hk => ?_⟩
              · rcases hk with h | h | h
                · subst h
                  refine ⟨by omega, fun h => ?_⟩
                  have := hM5.mw.lt h
                  rw [hsz5] at this
                  omega
                · simp [Value.ownBlock] at h
                · simp [Value.ownBlock] at h
              · rcases hk with h | h | h
                · rw [h]; exact HM3.out.kp.size
                · simp [Value.ownBlock] at h
                · simp [Value.ownBlock] at h
            have hTg : tg ≠ b := (HTD.out tg (by rw [HTV.out, hta0]; rfl)).1
            clear hR5 hk5 hM5 hka hF5
            subst hta0
            go_wp2_with fail
            refine HC5.mono ?_
            rintro en w6 ⟨gk, q6, er6, a6, rfl, hR6, hK6, ⟨_, hgz⟩, hC6⟩
            have hgk : gk = 0 := hgz (by rw [(hC6.out.bad he3).1]; exact he3)
            subst hgk
            clear hgz
            have HCd6 : Hid _ := HCd5.out.cur hK6
            have hee := hC6.out.bad he3
            have HR6 : Hid _ := hR6
            have HEE : Hid (er6 = er3 ∧ a6 = a3) := hee
            obtain ⟨fb, hfb⟩ : ∃ fb, w3.heap.size = fb := ⟨_, rfl⟩
            have n3 := hR6.c3
            have he6 : er6 ≠ 0 := by rw [hee.1]; exact he3
            have heb6 : (er6 == 0) = false := by rw [beq_eq_false_iff_ne]; exact he6
            have HCd8 : Hid _ := HCd6.out
            have HR8x : Hid _ := HR6.out
            obtain ⟨E2, hE2⟩ : ∃ E2, q3 = E2 := ⟨_, rfl⟩
            have hE2e : E2 ≤ e := by omega
            rw [hE2] at HR8x
            unfold encI8
            clear hR6 hK6 hC6 HC5 HCd5 k1 k2 k3 kf2 htyc hee hE2 HCd6 HR6
            rw [hfb] at HCd8
            go_wp2
            try rw [hfb]
            clear hfb hsz5
            refine wp_loop_rounds 1 ?_
            rw [rounds_succ]
            have HB8 := body_m HR8x.out HCd8.out.fb_ (fun h => (HCd8.out.ne b h).1 rfl) ⟨rfl, rfl⟩
            go_wp2_with fail
            refine HB8.mono ?_
            rintro en w9 ⟨ins9, t9, q9, er9, a9, vb9, vt9, rfl, hR9, hF9, hK9, hob9, hot9, hil9, htl9, hC9⟩
            have hCd9 := HCd8.out.body hF9 hK9 hob9 hot9 (lt_of_cell HR8x.out.c0)
            have HCd9 : Hid _ := hCd9
            have HR9 : Hid _ := hR9
            have m1 := hR9.c1
            have m2 := hR9.c2
            have m3 := hR9.c3
            have hee9 := hC9.out.bad he6
            have he9 : er9 ≠ 0 := by rw [hee9.1]; exact he6
            have heb9 : (er9 == 0) = false := by rw [beq_eq_false_iff_ne]; exact he9
            have HRow : Hid (Cu (fnRow s e tyi q1) 0 a1 (⟨tyi, ⟨#[]⟩, ins9, t9⟩ : Fn) q9 er9 a9) := by
              rw [hee9.1, hee9.2, HEE.out.1, HEE.out.2]
              exact HRowZ.out _ _
            clear hF9 hK9 hob9 hot9 hCd9 hR9 HB8 hee9 hC9
            go_wp2_with fail
            go_quiet (fail)
            have hCdx := HCd9.out.new ((Kp.refl (fun _ => False) w9).drewM nq)
            have hRcx := HR9.out.keep ((Kp.refl (fun _ => False) w9).drewM nq) (fun h => h)
            obtain ⟨ba, bc, hvb⟩ := hCdx.fb_.bo.slice
            obtain ⟨ta, tc, hvt⟩ := hCdx.fb_.ta.slice
            dsimp only at hvb hvt
            subst hvb hvt
            have hk2 : Kp (fun k => k = b) (w9.drewN nq) ((w9.drewN nq).setCell ⟨b, 2, none⟩ (.int .i64 (e : Int))) := (Kp.refl (fun k => k = b) _).setCell (p := ⟨b, 2, none⟩) (.inl rfl) _
            have hRq := hRcx.setE e (by have := hRcx.le; omega) hes
            have hCd2 := hCdx.cur hk2
            have g2 := hRcx.c2
            have gf2 := hRcx.f.1.2
            have HCd2 : Hid _ := hCd2
            have HRq : Hid _ := hRq
            clear hCdx hk2 hRq hCd2 hRcx
            go_wp2_with fail
            obtain ⟨W9, hW9⟩ : ∃ W9, (w9.drewN nq).setCell ⟨b, 2, none⟩ (.int .i64 (e : Int)) = W9 := ⟨_, rfl⟩
            rw [hW9] at HCd2 HRq ⊢
            clear hW9
            have hcc0 := HCd2.out.fb_.c0
            have hcc1 := HCd2.out.fb_.c1
            have hcc2 := HCd2.out.fb_.c2
            have hcc3 := HCd2.out.fb_.c3
            have dj := HCd2.out.ms.mw.c2
            dsimp only at dj hcc0 hcc1 hcc2 hcc3
            rw [HSV.out] at dj
            have hD : Kp (fun _ => False) W9 W9.drew := (Kp.refl _ _).drew
            have hCD := HCd2.out.new hD
            obtain ⟨v', w8, r1, ⟨ra, rn, rc, hvo⟩, ⟨r2, r3⟩, r5, r6⟩ := hCD.push (by have := HLL.out; show l.length ≤ 1000; omega) rfl rfl
            dsimp only at r1 r2
            rw [HSV.out] at r1 r2
            subst hvo
            obtain ⟨U, hU⟩ : ∃ U, W9.drew.alloc (.cells #[.int .i64 tyi, .string ⟨#[]⟩, .slice ba ins9.length bc, .slice ta t9.length tc] 124) = U := ⟨_, rfl⟩
            have hKU : Kp (fun _ => False) W9 U := by rw [← hU]; exact hD.alloc _
            have djU : U.cell? ⟨mb, 2, none⟩ = some (.slice sa l.length sc) := by rw [hKU.cell (p := ⟨mb, 2, none⟩) (HCd2.out.ms.mw.lt (.inl rfl)) (fun h => h)]; exact dj
            have hlf : fb < W9.heap.size := HCd2.out.fb_.lt (.inl rfl)
            have u0 := (hKU.cell (p := ⟨fb, 0, none⟩) hlf (fun h => h)).trans hcc0
            have u1 := (hKU.cell (p := ⟨fb, 1, none⟩) hlf (fun h => h)).trans hcc1
            have u2 := (hKU.cell (p := ⟨fb, 2, none⟩) hlf (fun h => h)).trans hcc2
            have u3 := (hKU.cell (p := ⟨fb, 3, none⟩) hlf (fun h => h)).trans hcc3
            have hUU : (W9.alloc (.cells #[.int .i64 tyi, .string ⟨#[]⟩, .slice ba ins9.length bc, .slice ta t9.length tc] 124)).drew = U := by rw [← hU]; rfl
            rw [hU] at r1
            have HR1a : Hid _ := r1
            have HM8 : Hid _ := r5
            have HR8 : Hid _ := (HRq.out.keep hD (fun h => h)).keep r6 hCD.ms.ne
            clear r5 r6 hCD hKU hD r1 hU hlf
            apply region_one
            case walk =>
              go_region_law (refine step_apq rfl _ _ 79 rfl HR1a.out ?_)
              all_goals exact ⟨rfl, rfl⟩
            case key =>
              go_wp2
              have hll2 := HLL.out
              refine ⟨⟨i + 1, q9, a9, er9, l ++ [_], .slice ra rn rc, by omega, by rw [List.length_append, hll2]; rfl, by go_num, HR8.out, HM8.out, fun l2 qq er2 a2 hz => hZ1.out _ _ _ _ ?_⟩, by simp [intOf]; omega⟩
              rw [fnsL_b HTY.out]
              refine Cu.trans (HRow.out) ?_
              rw [List.map_append] at hz
              exact hz
        · by_cases hi1 : i < n
          · have he1 : er1 ≠ 0 := fun h => hgo ⟨h, hi1⟩
            have heb : (er1 == 0) = false := by rw [beq_eq_false_iff_ne]; exact he1
            have hlti : (i : Int) < (n : Int) := by omega
            go_wp2
            refine bodyPost_end (v := .tuple #[]) (results_none rfl _ _ _) rfl ?_
            exact ⟨{ m with fs := l, vf := v }, q1, er1, a1, rfl, HR1.out, HM1.out, hZ1.out _ _ _ _ (Cu.stay _ _ he1)⟩
          · have hlti : ¬ (i : Int) < (n : Int) := by omega
            go_wp2
            refine bodyPost_end (v := .tuple #[]) (results_none rfl _ _ _) rfl ?_
            refine ⟨{ m with fs := l, vf := v }, q1, er1, a1, rfl, HR1.out, HM1.out, hZ1.out _ _ _ _ ?_⟩
            rw [List.drop_eq_nil_of_le (by rw [HNT.out]; omega)]
            exact Cu.pure _ _
    · have HF := fail_m HR.out 12 p hp1
      have hnb : ((n : Int) == (nt : Int)) = false := by rw [beq_eq_false_iff_ne]; omega
      have hnb2 : ((n : Int) != (nt : Int)) = true := by simp; omega
      have HCf : Hid (∀ er2 a2, Flq 0 a' 12 p er2 a2 → Cu X er a m.mod q er2 a2) := fun er2 a2 hf => by
        rw [← HX.out, sec10_b (by unfold MT.mod; rw [H0.out]; rfl)]
        exact hC.out.trans (by rw [if_neg (by rw [HNT.out]; omega)]; exact Cu.fail _ _ hf (by decide))
      clear hR hK HX hC hB HC hnn
      go_wp2_with fail
      refine HF.mono ?_
      rintro en w4 ⟨er4, a4, rfl, hR4, hK4, hF4⟩
      have HR4 : Hid _ := hR4
      have HM4 : Hid _ := HM2.out.cur hK4
      have HC4 : Hid (Cu X er a m.mod q er4 a4) := HCf.out _ _ hF4.out
      have hne4 : er4 ≠ 0 := by rw [(hF4.out.good rfl).1]; decide
      have heb4 : (er4 == 0) = false := by rw [beq_eq_false_iff_ne]; exact hne4
      have e3 := hR4.c3
      have e2 := hR4.c2
      clear hR4 hK4 hF4 HCf d2 d3 c1 hne4
      go_wp2
      refine wp_loop_rounds 1 ?_
      rw [rounds_succ]
      by_cases hn0 : 0 < n
      · have hn0i : (0 : Int) < (n : Int) := by omega
        go_wp2
        refine bodyPost_end (v := .tuple #[]) (results_none rfl _ _ _) rfl ?_
        exact ⟨m, q, er4, a4, rfl, HR4.out, HM4.out, HC4.out⟩
      · have hn0i : ¬ (0 : Int) < (n : Int) := by omega
        go_wp2
        refine bodyPost_end (v := .tuple #[]) (results_none rfl _ _ _) rfl ?_
        exact ⟨m, q, er4, a4, rfl, HR4.out, HM4.out, HC4.out⟩
  · have heb : (er' == 0) = false := by rw [beq_eq_false_iff_ne]; exact he
    have HC4 : Hid (Cu X er a m.mod q er' a') := by
      rw [← HX.out, sec10_b (by unfold MT.mod; rw [H0.out]; rfl)]
      exact hC.out.trans (Cu.stay _ _ he)
    clear hR hK HX hC hB HC he
    go_wp2
    refine wp_loop_rounds 1 ?_
    rw [rounds_succ]
    by_cases hn0 : 0 < n
    · have hn0i : (0 : Int) < (n : Int) := by omega
      go_wp2
      refine bodyPost_end (v := .tuple #[]) (results_none rfl _ _ _) rfl ?_
      exact ⟨m, q, er', a', rfl, HR.out, HM2.out, HC4.out⟩
    · have hn0i : ¬ (0 : Int) < (n : Int) := by omega
      go_wp2
      refine bodyPost_end (v := .tuple #[]) (results_none rfl _ _ _) rfl ?_
      exact ⟨m, q, er', a', rfl, HR.out, HM2.out, HC4.out⟩
end
end Go.Proofs.Qxb6500275aGreatDoor
