import Derived.Test.Qxb6500275aGreatDoorBd2
import Derived.Test.Qxb6500275aGreatDoorBs8
set_option maxRecDepth 100000
set_option linter.unusedVariables false
set_option linter.unusedSimpArgs false
namespace Go.Proofs.Qxb6500275aGreatDoor
open Go Go.RowKit
/- amid Decode: the module's and the types' rows -/
structure Dx (w w1 : World) (rb mb : Nat) (m : MT) (ty : List Int) (tv : Value) : Prop where
  mw : Mw w1 mb m
  mf : ∀ k, MwB mb m k → k ≠ rb ∧ w.heap.size ≤ k
  tn : Tn w1 tv ty
  tf : ∀ k, tv.ownBlock = some k → k ≠ rb ∧ ¬ MwB mb m k ∧ w.heap.size ≤ k
  tl : ty.length ≤ 8
  kp : Kp (fun _ => False) w w1
  rf : w.heap.size ≤ rb ∧ rb < w1.heap.size
section
variable {w w1 w2 : World} {rb mb : Nat} {m m2 : MT} {ty ty2 : List Int} {tv tv2 : Value}
theorem Dx.cur (h : Dx w w1 rb mb m ty tv) (hk : Kp (· = rb) w1 w2) : Dx w w2 rb mb m ty tv :=
  ⟨h.mw.keep hk (fun k hk2 e => (h.mf k hk2).1 e), h.mf, OR.keep h.tn hk (fun k hk2 e => (h.tf k hk2).1 e), h.tf, h.tl, h.kp.later hk (fun j hj => .inr (by have : j = rb := hj; rw [this]; exact h.rf.1)), h.rf.1, Nat.lt_of_lt_of_le h.rf.2 hk.size⟩
theorem Dx.sect (h : Dx w w1 rb mb m ty tv) (hs : Ms1 w1 w2 rb mb m m2) : Dx w w2 rb mb m2 ty tv := by
  have hsz := h.kp.size
  refine ⟨hs.mw, fun k hk => ?_, OR.keep h.tn hs.kp (fun k hk2 e => ?_), fun k hk => ⟨(h.tf k hk).1, fun h2 => ?_, (h.tf k hk).2.2⟩, h.tl, h.kp.later hs.kp (fun j hj => ?_), h.rf.1, Nat.lt_of_lt_of_le h.rf.2 hs.kp.size⟩
  · refine ⟨fun e => hs.ne (by rw [← e]; exact hk), ?_⟩
    rcases hs.ow k hk with h5 | h5
    · exact (h.mf k h5).2
    · omega
  · rcases e with e | e
    · exact (h.tf k hk2).1 e
    · exact (h.tf k hk2).2.1 e
  · rcases hs.ow k h2 with h5 | h5
    · exact (h.tf k hk).2.1 h5
    · have := OR.lt h.tn hk
      omega
  · rcases hj with e | e
    · exact .inr (by rw [e]; exact h.rf.1)
    · exact .inr (h.mf j e).2
theorem Dx.types (h : Dx w w1 rb mb m ty tv) (hk : Kp (· = rb) w1 w2) (ht : Tn w2 tv2 ty2) (hf : ∀ k, tv2.ownBlock = some k → w1.heap.size ≤ k) (hl : ty2.length ≤ 8) : Dx w w2 rb mb m ty2 tv2 := by
  have h2 := h.cur hk
  have hsz := h.kp.size
  refine ⟨h2.mw, h2.mf, ht, fun k hk2 => ?_, hl, h2.kp, h2.rf⟩
  have h3 := hf k hk2
  have h4 := h.rf.2
  refine ⟨by omega, fun h5 => ?_, by omega⟩
  have := h.mw.lt h5
  omega
end
def errOf (w : World) (b : Nat) : Int := match w.cell? ⟨b, 3, none⟩ with
  | some (.int _ p) => p
  | _ => 0
theorem errOf_rc {w : World} {b : Nat} {s : ByteArray} {p e : Nat} {er : Int} {a : Nat} (h : Rc w b s p e er a) : errOf w b = er := by unfold errOf; rw [h.c3]
def msrD (s : ByteArray) (rb : Nat) (w : World) : Nat := if errOf w rb = 0 then s.size + 1 - posOf w rb else 0
theorem msrD_rc {w : World} {b : Nat} {s : ByteArray} {p e : Nat} {er : Int} {a : Nat} (h : Rc w b s p e er a) : msrD s b w = if er = 0 then s.size + 1 - p else 0 := by unfold msrD; rw [errOf_rc h, posOf_rc h]
/- what a section's call comes to -/
def Sy (o : RM) (er3 : Int) (a3 : Nat) (M : Mod) (ty : List Int) (q : Nat) (er5 : Int) (a5 : Nat) : Prop :=
  (er3 = 0 → (er5 = 0 ∧ o = .ok (M, ty, q)) ∨ (er5 ≠ 0 ∧ o = .error (er5, a5))) ∧ (er3 ≠ 0 → er5 = er3 ∧ a5 = a3)
theorem Sy.of {id : Nat} {s : ByteArray} {p e : Nat} {M M2 : Mod} {ty : List Int} {er3 er5 : Int} {a3 a5 q : Nat} (h1 : 1 ≤ id) (h11 : id ≤ 11) (h3 : id ≠ 3) (h : Cu (scQ (secS id s p e M ty)) er3 a3 M2 q er5 a5) : Sy (secS id s p e M ty) er3 a3 M2 ty q er5 a5 := by
  refine ⟨fun h0 => ?_, h.bad⟩
  rcases h.good h0 with ⟨g1, g2⟩ | ⟨g1, g2⟩
  · obtain ⟨ty', ht⟩ := scQ_ok g1
    have := secS_ty h1 h11 h3 ht
    subst this
    exact .inl ⟨g2, ht⟩
  · exact .inr ⟨g2, scQ_err g1⟩
theorem Sy.of3 {s : ByteArray} {p e : Nat} {M : Mod} {ty l : List Int} {er3 er5 : Int} {a3 a5 q : Nat} (h : Cu (vecS s p e 8 (tiRow s e)) er3 a3 l q er5 a5) : Sy (secS 3 s p e M ty) er3 a3 M l q er5 a5 := by
  have e3 : secS 3 s p e M ty = bindR (vecS s p e 8 (tiRow s e)) fun x => .ok (M, x.1, x.2) := by simp [secS, sec3]
  refine ⟨fun h0 => ?_, h.bad⟩
  rcases h.good h0 with ⟨g1, g2⟩ | ⟨g1, g2⟩
  · exact .inl ⟨g2, by rw [e3, bindR_ok g1]⟩
  · exact .inr ⟨g2, by rw [e3, bindR_err g1]⟩
section
variable {w : World} {s : ByteArray} {rv : Value}
set_option maxHeartbeats 1000000 in
theorem decode_big (h : 1024 < s.size) (hs : s.size ≤ 4611686018427387904) : Calls Tryz.prog 132 #[rv, .string s] w (DmP (decodeS s) s w) := by
  have hi : (1024 : Int) < (s.size : Int) := by omega
  have hD : decodeS s = .error (1, 0) := by unfold decodeS; rw [if_pos h]
  go_enter Tryz.func132, Tryz.ntmps132
  go_wp2
  go_ret3
  exact DmP.mkErr hD (Kp.refl _ _) rfl
set_option maxHeartbeats 1000000 in
theorem decode_small (h : s.size < 8) : Calls Tryz.prog 132 #[rv, .string s] w (DmP (decodeS s) s w) := by
  have hi : ¬ (1024 : Int) < (s.size : Int) := by omega
  have hi8 : (s.size : Int) < 8 := by omega
  have hD : decodeS s = .error (3, s.size) := by unfold decodeS; rw [if_neg (by omega), if_pos h]
  have HD : Hid _ := hD
  clear hD
  go_enter Tryz.func132, Tryz.ntmps132
  go_wp2
  go_ret3
  exact DmP.mkErr HD.out (Kp.refl _ _) rfl
set_option maxHeartbeats 1000000 in
theorem decode_magic (h : 8 ≤ s.size) (h2 : s.size ≤ 1024) (hm : ((s.extract 0 8).toList == [0, 97, 115, 109, 1, 0, 0, 0]) = false) : Calls Tryz.prog 132 #[rv, .string s] w (DmP (decodeS s) s w) := by
  have hi : ¬ (1024 : Int) < (s.size : Int) := by omega
  have hi8 : ¬ (s.size : Int) < 8 := by omega
  have hD : decodeS s = .error (2, 0) := by unfold decodeS; rw [if_neg (by omega), if_neg (by omega), if_neg (by rw [hm]; decide)]
  have HD : Hid _ := hD
  clear hD
  go_enter Tryz.func132, Tryz.ntmps132
  go_wp2
  go_ret3
  exact DmP.mkErr HD.out (Kp.refl _ _) rfl
set_option maxHeartbeats 16000000 in
theorem decode_go (h : 8 ≤ s.size) (h2 : s.size ≤ 1024) (hm : ((s.extract 0 8).toList == [0, 97, 115, 109, 1, 0, 0, 0]) = true) : Calls Tryz.prog 132 #[rv, .string s] w (DmP (decodeS s) s w) := by
  have hi : ¬ (1024 : Int) < (s.size : Int) := by omega
  have hi8 : ¬ (s.size : Int) < 8 := by omega
  obtain ⟨X, hX⟩ : ∃ X, secsL s (s.size - 8 + 1) 0 8 Mod.empty [] = X := ⟨_, rfl⟩
  have HD : Hid (decodeS s = bindR X fun x => if x.2.1.length = x.1.funcs.length then .ok x.1 else .error (12, s.size)) := by
    show _ = _
    unfold decodeS
    rw [if_neg (by omega), if_neg (by omega), if_pos hm, hX]
  have HX : Hid _ := hX
  have HW0 : Hid (((w.alloc (.cells #[.string s, .int .i64 8, .int .i64 (s.size : Int), .int .i64 0, .int .i64 0] 288)).alloc (.cells mt0C 85)) = ((w.alloc (.cells #[.string s, .int .i64 8, .int .i64 (s.size : Int), .int .i64 0, .int .i64 0] 288)).alloc (.cells mt0C 85))) := rfl
  have hka : Kp (fun _ => False) w ((w.alloc (.cells #[.string s, .int .i64 8, .int .i64 (s.size : Int), .int .i64 0, .int .i64 0] 288)).alloc (.cells mt0C 85)) := ((Kp.refl _ _).alloc _).alloc _
  have hR0 : Rc ((w.alloc (.cells #[.string s, .int .i64 8, .int .i64 (s.size : Int), .int .i64 0, .int .i64 0] 288)).alloc (.cells mt0C 85)) w.heap.size s 8 s.size 0 0 := by
    have hb := (blk_al w #[.string s, .int .i64 8, .int .i64 (s.size : Int), .int .i64 0, .int .i64 0] 288).keep ((Kp.refl (fun _ => False) _).alloc (.cells mt0C 85)) (fun h => h)
    exact ⟨hb.cell (i := 0) (by simp), hb.cell (i := 1) (by simp), hb.cell (i := 2) (by simp), hb.cell (i := 3) (by simp), hb.cell (i := 4) (by simp), ⟨⟨hb.fz (by simp), hb.fz (by simp)⟩, hb.fz (by simp), hb.fz (by simp)⟩, by omega, Nat.le_refl _, h2, by omega⟩
  have hM0 := Mw.new (w.alloc (.cells #[.string s, .int .i64 8, .int .i64 (s.size : Int), .int .i64 0, .int .i64 0] 288))
  rw [World.size_alloc] at hM0
  have HD0 : Hid (Dx w ((w.alloc (.cells #[.string s, .int .i64 8, .int .i64 (s.size : Int), .int .i64 0, .int .i64 0] 288)).alloc (.cells mt0C 85)) w.heap.size (w.heap.size + 1) mt0 [] (.slice none 0 0)) := by
    refine ⟨hM0, fun k hk => ?_, OR.nil _ _ _, fun k hk => by simp [Value.ownBlock] at hk, by simp, hka, Nat.le_refl _, lt_of_cell hR0.c0⟩
    rcases hk with e | ⟨r, hr, e⟩
    · omega
    · rw [mt0_rows hr] at e
      simp [Value.ownBlock] at e
  have HR0 : Hid _ := hR0
  have hs0 : w.heap.size < w.heap.size + 1 := by omega
  clear hX hka hR0 hM0 HW0
  go_enter Tryz.func132, Tryz.ntmps132
  go_wp2
  obtain ⟨W0, hW0⟩ : ∃ W0, ((w.alloc (.cells #[.string s, .int .i64 8, .int .i64 (s.size : Int), .int .i64 0, .int .i64 0] 288)).alloc (.cells mt0C 85)) = W0 := ⟨_, rfl⟩
  rw [hW0] at HD0 HR0
  unfold mt0C at hW0
  rw [hW0]
  clear hW0
  obtain ⟨rb, hrb⟩ : ∃ rb, w.heap.size = rb := ⟨_, rfl⟩
  obtain ⟨mb, hmb⟩ : ∃ mb, w.heap.size + 1 = mb := ⟨_, rfl⟩
  rw [hmb] at HD0 ⊢
  rw [hrb] at HD0 HR0 ⊢
  clear hrb hmb hs0
  go_loopw [9, 10] (fun ll tt w1 => ∃ (last q1 a1 : Nat) (er1 : Int) (m : MT) (ty : List Int), last ≤ 11 ∧ ll = .int .i64 (last : Int) ∧ Rc w1 rb s q1 s.size er1 a1 ∧ Dx w w1 rb mb m ty tt ∧ Hid (er1 = 0 → FreshM last m.mod ty) ∧ Hid (Sx1 X s last q1 m.mod ty er1 a1)) (fun _ _ w1 => msrD s rb w1)
  case atStart => exact ⟨0, 8, 0, 0, mt0, [], by omega, rfl, HR0.out, HD0.out, fun _ => FreshM.start, ⟨fun _ => HX.out, fun h => absurd rfl h⟩⟩
  case round =>
    obtain ⟨last, q1, a1, er1, m, ty, hl11, rfl, hR1, hD1, hF1, hS1⟩ := hrel
    have c1 := hR1.c1
    have c3 := hR1.c3
    have c4 := hR1.c4
    have HR1 : Hid _ := hR1
    have HD1 : Hid _ := hD1
    have HMs : Hid _ := msrD_rc hR1
    have hq1s := hR1.le
    obtain ⟨tva, tvc, htv⟩ := OR.slice hD1.tn
    subst htv
    clear hR1 hD1 HR0 HD0 HX
    by_cases hgo : er1 = 0 ∧ q1 < s.size
    · obtain ⟨he1, hq1⟩ := hgo
      subst he1
      have HMq : Hid (msrD s rb wr = s.size + 1 - q1) := by show _ = _; rw [msrD_rc HR1.out, if_pos rfl]
      have hqi : (q1 : Int) < (s.size : Int) := by omega
      obtain ⟨id, hid⟩ : ∃ id, bAt s q1 = id := ⟨_, rfl⟩
      have HB := byte_ok HR1.out hq1 hid
      have hid256 : id < 256 := by rw [← hid]; exact bAt_lt _ _
      have HID0 : Hid _ := hid
      have HFr : Hid (FreshM last m.mod ty) := hF1.out rfl
      clear hid
      go_wp2_with fail
      refine (HB.out _ (Kp.refl _ _)).mono ?_
      rintro en w2 ⟨a2, rfl, hR2, hK2⟩
      have hD2 := HD1.out.cur hK2
      have e1 := hR2.c1
      have HR2 : Hid _ := hR2
      have HD2 : Hid _ := hD2
      clear hR2 hK2 hD2 HB c1 c3 c4
      by_cases hbad : id ≤ last ∨ 11 < id
      · have HXe : Hid (decodeS s = .error (5, q1)) := by
          show _ = _
          rw [HD.out, ← hS1.out.good rfl, secsL, if_pos hq1]
          unfold nextS
          rw [if_pos hq1]
          show bindR (if bAt s q1 ≤ last ∨ 11 < bAt s q1 then _ else _) _ = _
          rw [HID0.out, if_pos hbad]
          rfl
        by_cases hb1 : id ≤ last
        · have hb1i : (id : Int) ≤ (last : Int) := by omega
          clear hbad
          go_wp2
          go_ret3
          exact DmP.mkErr HXe.out HD2.out.kp rfl
        · have hb1i : ¬ (id : Int) ≤ (last : Int) := by omega
          have hb2i : (11 : Int) < (id : Int) := by omega
          clear hbad
          go_wp2
          go_ret3
          exact DmP.mkErr HXe.out HD2.out.kp rfl
      · have hb1i : ¬ (id : Int) ≤ (last : Int) := by omega
        have hb2i : ¬ (11 : Int) < (id : Int) := by omega
        have hidl : last < id := by omega
        have hid1 : 1 ≤ id := by omega
        have hid11 : id ≤ 11 := by omega
        have HXs := hS1.out.good rfl
        rw [secsL_b hq1 (by rw [HID0.out]; exact hbad), HID0.out] at HXs
        have HXs' : Hid _ := HXs
        have HU := u32_z HR2.out
        clear hbad HXs
        go_wp2_with fail
        refine HU.mono ?_
        rintro en w3 ⟨z, q3, er3, a3, rfl, hR3, hK3, ⟨hB3, hz3⟩, hC3⟩
        have hD3 := HD2.out.cur hK3
        obtain ⟨sz, hszz⟩ : ∃ sz : Nat, z = sz := ⟨z.toNat, by omega⟩
        subst hszz
        unfold encI8
        have k1 := hR3.c1
        have k2 := hR3.c2
        have k3 := hR3.c3
        have kf2 := hR3.f.1.2
        have hq3e := hR3.le
        have HR3 : Hid _ := hR3
        have HD3 : Hid _ := hD3
        have HZ3 : Hid _ := hz3
        clear hR3 hK3 hD3 hz3 HU e1
        by_cases he3 : er3 = 0
        · subst he3
          have hu3 : u32S s (q1 + 1) s.size = .ok ((sz : Int), q3) := hC3.out.le rfl
          have hq3 := (u32S_ok hu3).2.1
          have HXu := HXs'.out
          rw [hu3] at HXu
          have HXu' : Hid (((if (sz : Int) > (s.size : Int) - q3 then .error (3, q1 + 1) else bindQ (secS id s q3 (q3 + (sz : Int).toNat) m.mod ty) fun x => if x.2.2 = q3 + (sz : Int).toNat then secsL s (s.size - x.2.2 + 1) id x.2.2 x.1 x.2.1 else .error (6, q3)) : RM) = X) := HXu
          clear HXu HXs' hC3
          by_cases hfit : (sz : Int) > (s.size : Int) - (q3 : Int)
          · have hfi : (s.size : Int) - (q3 : Int) < (sz : Int) := by omega
            have HXe : Hid (decodeS s = .error (3, q1 + 1)) := by
              show _ = _
              rw [HD.out, ← HXu'.out, if_pos hfit]
              rfl
            clear hfit HXu'
            go_wp2
            go_ret3
            exact DmP.mkErr HXe.out HD3.out.kp rfl
          · obtain ⟨E2, hE2⟩ : ∃ E2, q3 + sz = E2 := ⟨_, rfl⟩
            have HXg : Hid ((bindQ (secS id s q3 E2 m.mod ty) fun x => if x.2.2 = E2 then secsL s (s.size - x.2.2 + 1) id x.2.2 x.1 x.2.1 else .error (6, q3)) = X) := by
              have := HXu'.out
              rw [if_neg hfit, Int.toNat_natCast, hE2] at this
              exact this
            have hfi : ¬ ((s.size : Int) - (q3 : Int) < (sz : Int)) := by omega
            have he2 : ((E2 : Nat) : Int) = (q3 : Int) + (sz : Int) := by omega
            have hR4 := HR3.out.setE E2 (by omega) (by omega)
            have hk4 : Kp (fun k => k = rb) w3 (w3.setCell ⟨rb, 2, none⟩ (.int .i64 (E2 : Int))) := (Kp.refl (fun k => k = rb) _).setCell (p := ⟨rb, 2, none⟩) (.inl rfl) _
            have HD4 : Hid _ := HD3.out.cur hk4
            have hqE : q3 ≤ E2 := by omega
            have hEs : E2 ≤ s.size := by omega
            rw [he2] at hR4 HD4
            have he3 : True := trivial
            have HFs : Hid (id = 10 → m.fs = []) := fun e => by have := HFr.out.f (by omega); unfold MT.mod at this; simpa using this
            clear hfit HXu' hE2 he2 hk4
            by_cases hid3 : id = 3
            · have HFu := funcs_m hR4
              have hidi : (id : Int) = 3 := by omega
              have HID : Hid _ := hid3
              clear hid3 hR4
              go_wp2_with fail
              refine HFu.mono ?_
              rintro en w5 ⟨l5, v5, q5, er5, a5, rfl, hT5, hf5, hl5, hR5, hK5, hC5⟩
              have hD5 := HD4.out.types hK5 hT5 hf5 hl5
              obtain ⟨va, vc, hv5⟩ := OR.slice hT5
              have HSy : Hid (Sy (secS id s q3 E2 m.mod ty) 0 a3 m.mod l5 q5 er5 a5) := by rw [HID.out]; exact Sy.of3 hC5.out
              clear hT5 hf5 hl5 hK5 hC5 HFu
              subst hv5
              by_cases he5 : er5 = 0
              · subst he5
                have hok : secS id s q3 E2 m.mod ty = .ok (m.mod, l5, q5) := by
                  rcases HSy.out.1 rfl with ⟨_, g⟩ | ⟨g, _⟩
                  · exact g
                  · exact absurd rfl g
                by_cases hend : q5 = E2
                · have hb1 : ((q5 : Int) == (E2 : Int)) = true := by rw [beq_iff_eq]; omega
                  have hb2 : ((q5 : Int) != (E2 : Int)) = false := by simp [bne, hb1]
                  have HS5 : Hid (Sx1 X s id q5 m.mod l5 0 a5) := ⟨fun _ => by rw [← HXg.out, hok]; show _ = (if q5 = E2 then _ else _); rw [if_pos hend], fun h => absurd rfl h⟩
                  have HF5 : Hid (FreshM id m.mod l5) := HFr.out.next hidl hid1 hid11 hok
                  have HE5 : Hid _ := hend
                  clear hend hok
                  have m1 := hR5.c1
                  have m2 := hR5.c2
                  have m3 := hR5.c3
                  have mf2 := hR5.f.1.2
                  have HR5 : Hid _ := hR5
                  have HD5 : Hid _ := hD5
                  clear hR5 hD5
                  go_wp2_with fail
                  go_quiet (fail)
                  have hkd : Kp (fun _ => False) w5 (w5.drewN nq) := (Kp.refl _ _).drewM _
                  have hR6 := (HR5.out.keep hkd (fun h => h)).setE s.size (by have := HR5.out.le; have := HR5.out.es; omega) (Nat.le_refl _)
                  have hk6 : Kp (fun k => k = rb) (w5.drewN nq) ((w5.drewN nq).setCell ⟨rb, 2, none⟩ (.int .i64 (s.size : Int))) := (Kp.refl (fun k => k = rb) _).setCell (p := ⟨rb, 2, none⟩) (.inl rfl) _
                  have HD6 : Hid _ := (HD5.out.cur (hkd.mono (fun _ h => h.elim))).cur hk6
                  have HR6 : Hid _ := hR6
                  clear hR6 hk6 hkd m1 m3
                  go_wp2
                  exact ⟨⟨id, q5, a5, _, m, l5, hid11, (by first | rfl | rw [hidi]), HR6.out, HD6.out, fun _ => HF5.out, HS5.out⟩, by rw [msrD_rc HR6.out, HMq.out]; rw [if_pos rfl]; have := HE5.out; have := hq1s; omega⟩
                · have hb1 : ((q5 : Int) == (E2 : Int)) = false := by rw [beq_eq_false_iff_ne]; omega
                  have hb2 : ((q5 : Int) != (E2 : Int)) = true := by simp [bne, hb1]
                  have HXe : Hid (decodeS s = .error (6, q3)) := by
                    show _ = _
                    rw [HD.out, ← HXg.out, hok]
                    show bindR (if q5 = E2 then _ else _) _ = _
                    rw [if_neg hend]
                    rfl
                  have m1 := hR5.c1
                  have m2 := hR5.c2
                  have m3 := hR5.c3
                  have HK5 : Hid _ := hD5.kp
                  clear hend hok hR5 hD5
                  go_wp2_with fail
                  go_quiet (fail)
                  go_wp2
                  go_ret3
                  exact DmP.mkErr HXe.out (HK5.out.drewM _) rfl
              · have heb5 : (er5 == 0) = false := by rw [beq_eq_false_iff_ne]; exact he5
                have hno : secS id s q3 E2 m.mod ty = .error (er5, a5) := by
                  rcases HSy.out.1 rfl with ⟨g, _⟩ | ⟨_, g⟩
                  · exact absurd g he5
                  · exact g
                have HS5 : Hid (Sx1 X s id q5 m.mod l5 er5 a5) := ⟨fun h => absurd h he5, fun _ => by rw [← HXg.out, hno]; rfl⟩
                have HF5 : Hid (er5 = 0 → FreshM id m.mod l5) := fun h => absurd h he5
                clear hno
                have m1 := hR5.c1
                have m2 := hR5.c2
                have m3 := hR5.c3
                have mf2 := hR5.f.1.2
                have HR5 : Hid _ := hR5
                have HD5 : Hid _ := hD5
                clear hR5 hD5
                go_wp2_with fail
                go_quiet (fail)
                have hkd : Kp (fun _ => False) w5 (w5.drewN nq) := (Kp.refl _ _).drewM _
                have hR6 := (HR5.out.keep hkd (fun h => h)).setE s.size (by have := HR5.out.le; have := HR5.out.es; omega) (Nat.le_refl _)
                have hk6 : Kp (fun k => k = rb) (w5.drewN nq) ((w5.drewN nq).setCell ⟨rb, 2, none⟩ (.int .i64 (s.size : Int))) := (Kp.refl (fun k => k = rb) _).setCell (p := ⟨rb, 2, none⟩) (.inl rfl) _
                have HD6 : Hid _ := (HD5.out.cur (hkd.mono (fun _ h => h.elim))).cur hk6
                have HR6 : Hid _ := hR6
                clear hR6 hk6 hkd m1 m3
                go_wp2
                exact ⟨⟨id, q5, a5, _, m, l5, hid11, (by first | rfl | rw [hidi]), HR6.out, HD6.out, HF5.out, HS5.out⟩, by rw [msrD_rc HR6.out, HMq.out]; rw [if_neg he5]; have := hq1s; omega⟩
            have hidb3 : ((id : Int) == 3) = false := by rw [beq_eq_false_iff_ne]; omega
            by_cases hid10 : id = 10
            · have HCo := codes_m hR4 HD4.out.mw (fun h => (HD4.out.mf rb h).1 rfl) (HFs.out hid10) HD4.out.tn (fun k hk => ⟨(HD4.out.tf k hk).1, (HD4.out.tf k hk).2.1⟩) HD4.out.tl
              have hidi : (id : Int) = 10 := by omega
              have HID : Hid _ := hid10
              clear hid10 hid3 hR4
              go_wp2_with fail
              refine HCo.mono ?_
              rintro en w5 ⟨m5, q5, er5, a5, rfl, hR5, hM5, hC5⟩
              have hD5 := HD4.out.sect hM5
              have HSy : Hid (Sy (secS id s q3 E2 m.mod ty) 0 a3 m5.mod ty q5 er5 a5) := by rw [HID.out]; exact Sy.of (by decide) (by decide) (by decide) hC5.out
              clear hM5 hC5 HCo
              by_cases he5 : er5 = 0
              · subst he5
                have hok : secS id s q3 E2 m.mod ty = .ok (m5.mod, ty, q5) := by
                  rcases HSy.out.1 rfl with ⟨_, g⟩ | ⟨g, _⟩
                  · exact g
                  · exact absurd rfl g
                by_cases hend : q5 = E2
                · have hb1 : ((q5 : Int) == (E2 : Int)) = true := by rw [beq_iff_eq]; omega
                  have hb2 : ((q5 : Int) != (E2 : Int)) = false := by simp [bne, hb1]
                  have HS5 : Hid (Sx1 X s id q5 m5.mod ty 0 a5) := ⟨fun _ => by rw [← HXg.out, hok]; show _ = (if q5 = E2 then _ else _); rw [if_pos hend], fun h => absurd rfl h⟩
                  have HF5 : Hid (FreshM id m5.mod ty) := HFr.out.next hidl hid1 hid11 hok
                  have HE5 : Hid _ := hend
                  clear hend hok
                  have m1 := hR5.c1
                  have m2 := hR5.c2
                  have m3 := hR5.c3
                  have mf2 := hR5.f.1.2
                  have HR5 : Hid _ := hR5
                  have HD5 : Hid _ := hD5
                  clear hR5 hD5
                  go_wp2_with fail
                  go_quiet (fail)
                  have hkd : Kp (fun _ => False) w5 (w5.drewN nq) := (Kp.refl _ _).drewM _
                  have hR6 := (HR5.out.keep hkd (fun h => h)).setE s.size (by have := HR5.out.le; have := HR5.out.es; omega) (Nat.le_refl _)
                  have hk6 : Kp (fun k => k = rb) (w5.drewN nq) ((w5.drewN nq).setCell ⟨rb, 2, none⟩ (.int .i64 (s.size : Int))) := (Kp.refl (fun k => k = rb) _).setCell (p := ⟨rb, 2, none⟩) (.inl rfl) _
                  have HD6 : Hid _ := (HD5.out.cur (hkd.mono (fun _ h => h.elim))).cur hk6
                  have HR6 : Hid _ := hR6
                  clear hR6 hk6 hkd m1 m3
                  go_wp2
                  exact ⟨⟨id, q5, a5, _, m5, ty, hid11, (by first | rfl | rw [hidi]), HR6.out, HD6.out, fun _ => HF5.out, HS5.out⟩, by rw [msrD_rc HR6.out, HMq.out]; rw [if_pos rfl]; have := HE5.out; have := hq1s; omega⟩
                · have hb1 : ((q5 : Int) == (E2 : Int)) = false := by rw [beq_eq_false_iff_ne]; omega
                  have hb2 : ((q5 : Int) != (E2 : Int)) = true := by simp [bne, hb1]
                  have HXe : Hid (decodeS s = .error (6, q3)) := by
                    show _ = _
                    rw [HD.out, ← HXg.out, hok]
                    show bindR (if q5 = E2 then _ else _) _ = _
                    rw [if_neg hend]
                    rfl
                  have m1 := hR5.c1
                  have m2 := hR5.c2
                  have m3 := hR5.c3
                  have HK5 : Hid _ := hD5.kp
                  clear hend hok hR5 hD5
                  go_wp2_with fail
                  go_quiet (fail)
                  go_wp2
                  go_ret3
                  exact DmP.mkErr HXe.out (HK5.out.drewM _) rfl
              · have heb5 : (er5 == 0) = false := by rw [beq_eq_false_iff_ne]; exact he5
                have hno : secS id s q3 E2 m.mod ty = .error (er5, a5) := by
                  rcases HSy.out.1 rfl with ⟨g, _⟩ | ⟨_, g⟩
                  · exact absurd g he5
                  · exact g
                have HS5 : Hid (Sx1 X s id q5 m5.mod ty er5 a5) := ⟨fun h => absurd h he5, fun _ => by rw [← HXg.out, hno]; rfl⟩
                have HF5 : Hid (er5 = 0 → FreshM id m5.mod ty) := fun h => absurd h he5
                clear hno
                have m1 := hR5.c1
                have m2 := hR5.c2
                have m3 := hR5.c3
                have mf2 := hR5.f.1.2
                have HR5 : Hid _ := hR5
                have HD5 : Hid _ := hD5
                clear hR5 hD5
                go_wp2_with fail
                go_quiet (fail)
                have hkd : Kp (fun _ => False) w5 (w5.drewN nq) := (Kp.refl _ _).drewM _
                have hR6 := (HR5.out.keep hkd (fun h => h)).setE s.size (by have := HR5.out.le; have := HR5.out.es; omega) (Nat.le_refl _)
                have hk6 : Kp (fun k => k = rb) (w5.drewN nq) ((w5.drewN nq).setCell ⟨rb, 2, none⟩ (.int .i64 (s.size : Int))) := (Kp.refl (fun k => k = rb) _).setCell (p := ⟨rb, 2, none⟩) (.inl rfl) _
                have HD6 : Hid _ := (HD5.out.cur (hkd.mono (fun _ h => h.elim))).cur hk6
                have HR6 : Hid _ := hR6
                clear hR6 hk6 hkd m1 m3
                go_wp2
                exact ⟨⟨id, q5, a5, _, m5, ty, hid11, (by first | rfl | rw [hidi]), HR6.out, HD6.out, HF5.out, HS5.out⟩, by rw [msrD_rc HR6.out, HMq.out]; rw [if_neg he5]; have := hq1s; omega⟩
            have hidb10 : ((id : Int) == 10) = false := by rw [beq_eq_false_iff_ne]; omega
            have HSe := sect_m hR4 HD4.out.mw (fun h => (HD4.out.mf rb h).1 rfl) HFr.out hidl hid1 hid11 hid3 hid10
            have HID : Hid (id ≠ 3) := hid3
            clear hid10 hid3 hR4
            go_wp2_with fail
            refine HSe.mono ?_
            rintro en w5 ⟨m5, q5, er5, a5, rfl, hR5, hM5, hC5⟩
            have hD5 := HD4.out.sect hM5
            have HSy : Hid (Sy (secS id s q3 E2 m.mod ty) 0 a3 m5.mod ty q5 er5 a5) := Sy.of hid1 hid11 HID.out hC5.out
            clear hM5 hC5 HSe
            by_cases he5 : er5 = 0
            · subst he5
              have hok : secS id s q3 E2 m.mod ty = .ok (m5.mod, ty, q5) := by
                rcases HSy.out.1 rfl with ⟨_, g⟩ | ⟨g, _⟩
                · exact g
                · exact absurd rfl g
              by_cases hend : q5 = E2
              · have hb1 : ((q5 : Int) == (E2 : Int)) = true := by rw [beq_iff_eq]; omega
                have hb2 : ((q5 : Int) != (E2 : Int)) = false := by simp [bne, hb1]
                have HS5 : Hid (Sx1 X s id q5 m5.mod ty 0 a5) := ⟨fun _ => by rw [← HXg.out, hok]; show _ = (if q5 = E2 then _ else _); rw [if_pos hend], fun h => absurd rfl h⟩
                have HF5 : Hid (FreshM id m5.mod ty) := HFr.out.next hidl hid1 hid11 hok
                have HE5 : Hid _ := hend
                clear hend hok
                have m1 := hR5.c1
                have m2 := hR5.c2
                have m3 := hR5.c3
                have mf2 := hR5.f.1.2
                have HR5 : Hid _ := hR5
                have HD5 : Hid _ := hD5
                clear hR5 hD5
                go_wp2_with fail
                go_quiet (fail)
                have hkd : Kp (fun _ => False) w5 (w5.drewN nq) := (Kp.refl _ _).drewM _
                have hR6 := (HR5.out.keep hkd (fun h => h)).setE s.size (by have := HR5.out.le; have := HR5.out.es; omega) (Nat.le_refl _)
                have hk6 : Kp (fun k => k = rb) (w5.drewN nq) ((w5.drewN nq).setCell ⟨rb, 2, none⟩ (.int .i64 (s.size : Int))) := (Kp.refl (fun k => k = rb) _).setCell (p := ⟨rb, 2, none⟩) (.inl rfl) _
                have HD6 : Hid _ := (HD5.out.cur (hkd.mono (fun _ h => h.elim))).cur hk6
                have HR6 : Hid _ := hR6
                clear hR6 hk6 hkd m1 m3
                go_wp2
                exact ⟨⟨id, q5, a5, _, m5, ty, hid11, (by first | rfl | rw [hidi]), HR6.out, HD6.out, fun _ => HF5.out, HS5.out⟩, by rw [msrD_rc HR6.out, HMq.out]; rw [if_pos rfl]; have := HE5.out; have := hq1s; omega⟩
              · have hb1 : ((q5 : Int) == (E2 : Int)) = false := by rw [beq_eq_false_iff_ne]; omega
                have hb2 : ((q5 : Int) != (E2 : Int)) = true := by simp [bne, hb1]
                have HXe : Hid (decodeS s = .error (6, q3)) := by
                  show _ = _
                  rw [HD.out, ← HXg.out, hok]
                  show bindR (if q5 = E2 then _ else _) _ = _
                  rw [if_neg hend]
                  rfl
                have m1 := hR5.c1
                have m2 := hR5.c2
                have m3 := hR5.c3
                have HK5 : Hid _ := hD5.kp
                clear hend hok hR5 hD5
                go_wp2_with fail
                go_quiet (fail)
                go_wp2
                go_ret3
                exact DmP.mkErr HXe.out (HK5.out.drewM _) rfl
            · have heb5 : (er5 == 0) = false := by rw [beq_eq_false_iff_ne]; exact he5
              have hno : secS id s q3 E2 m.mod ty = .error (er5, a5) := by
                rcases HSy.out.1 rfl with ⟨g, _⟩ | ⟨_, g⟩
                · exact absurd g he5
                · exact g
              have HS5 : Hid (Sx1 X s id q5 m5.mod ty er5 a5) := ⟨fun h => absurd h he5, fun _ => by rw [← HXg.out, hno]; rfl⟩
              have HF5 : Hid (er5 = 0 → FreshM id m5.mod ty) := fun h => absurd h he5
              clear hno
              have m1 := hR5.c1
              have m2 := hR5.c2
              have m3 := hR5.c3
              have mf2 := hR5.f.1.2
              have HR5 : Hid _ := hR5
              have HD5 : Hid _ := hD5
              clear hR5 hD5
              go_wp2_with fail
              go_quiet (fail)
              have hkd : Kp (fun _ => False) w5 (w5.drewN nq) := (Kp.refl _ _).drewM _
              have hR6 := (HR5.out.keep hkd (fun h => h)).setE s.size (by have := HR5.out.le; have := HR5.out.es; omega) (Nat.le_refl _)
              have hk6 : Kp (fun k => k = rb) (w5.drewN nq) ((w5.drewN nq).setCell ⟨rb, 2, none⟩ (.int .i64 (s.size : Int))) := (Kp.refl (fun k => k = rb) _).setCell (p := ⟨rb, 2, none⟩) (.inl rfl) _
              have HD6 : Hid _ := (HD5.out.cur (hkd.mono (fun _ h => h.elim))).cur hk6
              have HR6 : Hid _ := hR6
              clear hR6 hk6 hkd m1 m3
              go_wp2
              exact ⟨⟨id, q5, a5, _, m5, ty, hid11, (by first | rfl | rw [hidi]), HR6.out, HD6.out, HF5.out, HS5.out⟩, by rw [msrD_rc HR6.out, HMq.out]; rw [if_neg he5]; have := hq1s; omega⟩
        · have hs0 : sz = 0 := by have := HZ3.out he3; omega
          subst hs0
          have heb3 : (er3 == 0) = false := by rw [beq_eq_false_iff_ne]; exact he3
          obtain ⟨E2, hE2⟩ : ∃ E2, q3 = E2 := ⟨_, rfl⟩
          have HXb : Hid (er3 ≠ 0 → X = .error (er3, a3)) := fun _ => by
            rw [← HXs'.out]
            rcases hC3.out.good rfl with ⟨_, g⟩ | ⟨g, _⟩
            · exact absurd g he3
            · rw [g]; rfl
          have hR4 := HR3.out.setE q3 (Nat.le_refl _) (by omega)
          have hk4 : Kp (fun k => k = rb) w3 (w3.setCell ⟨rb, 2, none⟩ (.int .i64 (q3 : Int))) := (Kp.refl (fun k => k = rb) _).setCell (p := ⟨rb, 2, none⟩) (.inl rfl) _
          have HD4 : Hid _ := HD3.out.cur hk4
          have HFs : Hid (id = 10 → m.fs = []) := fun e => by have := HFr.out.f (by omega); unfold MT.mod at this; simpa using this
          clear HZ3 hk4 hC3 HXs' hE2
          by_cases hid3 : id = 3
          · have HFu := funcs_m hR4
            have hidi : (id : Int) = 3 := by omega
            have HID : Hid _ := hid3
            clear hid3 hR4
            go_wp2_with fail
            refine HFu.mono ?_
            rintro en w5 ⟨l5, v5, q5, er5, a5, rfl, hT5, hf5, hl5, hR5, hK5, hC5⟩
            have hD5 := HD4.out.types hK5 hT5 hf5 hl5
            obtain ⟨va, vc, hv5⟩ := OR.slice hT5
            have HSy : Hid (Sy (secS id s q3 q3 m.mod ty) er3 a3 m.mod l5 q5 er5 a5) := by rw [HID.out]; exact Sy.of3 hC5.out
            clear hT5 hf5 hl5 hK5 hC5 HFu
            subst hv5
            have he5 : er5 ≠ 0 := by rw [(HSy.out.2 he3).1]; exact he3
            have heb5 : (er5 == 0) = false := by rw [beq_eq_false_iff_ne]; exact he5
            have HS5 : Hid (Sx1 X s id q5 m.mod l5 er5 a5) := ⟨fun h => absurd h he5, fun _ => by rw [(HSy.out.2 he3).1, (HSy.out.2 he3).2]; exact HXb.out he3⟩
            have HF5 : Hid (er5 = 0 → FreshM id m.mod l5) := fun h => absurd h he5
            have m1 := hR5.c1
            have m2 := hR5.c2
            have m3 := hR5.c3
            have mf2 := hR5.f.1.2
            have HR5 : Hid _ := hR5
            have HD5 : Hid _ := hD5
            clear hR5 hD5
            go_wp2_with fail
            go_quiet (fail)
            have hkd : Kp (fun _ => False) w5 (w5.drewN nq) := (Kp.refl _ _).drewM _
            have hR6 := (HR5.out.keep hkd (fun h => h)).setE s.size (by have := HR5.out.le; have := HR5.out.es; omega) (Nat.le_refl _)
            have hk6 : Kp (fun k => k = rb) (w5.drewN nq) ((w5.drewN nq).setCell ⟨rb, 2, none⟩ (.int .i64 (s.size : Int))) := (Kp.refl (fun k => k = rb) _).setCell (p := ⟨rb, 2, none⟩) (.inl rfl) _
            have HD6 : Hid _ := (HD5.out.cur (hkd.mono (fun _ h => h.elim))).cur hk6
            have HR6 : Hid _ := hR6
            clear hR6 hk6 hkd m1 m3
            go_wp2
            exact ⟨⟨id, q5, a5, _, m, l5, hid11, (by first | rfl | rw [hidi]), HR6.out, HD6.out, HF5.out, HS5.out⟩, by rw [msrD_rc HR6.out, HMq.out]; rw [if_neg he5]; have := hq1s; omega⟩
          have hidb3 : ((id : Int) == 3) = false := by rw [beq_eq_false_iff_ne]; omega
          by_cases hid10 : id = 10
          · have HCo := codes_m hR4 HD4.out.mw (fun h => (HD4.out.mf rb h).1 rfl) (HFs.out hid10) HD4.out.tn (fun k hk => ⟨(HD4.out.tf k hk).1, (HD4.out.tf k hk).2.1⟩) HD4.out.tl
            have hidi : (id : Int) = 10 := by omega
            have HID : Hid _ := hid10
            clear hid10 hid3 hR4
            go_wp2_with fail
            refine HCo.mono ?_
            rintro en w5 ⟨m5, q5, er5, a5, rfl, hR5, hM5, hC5⟩
            have hD5 := HD4.out.sect hM5
            have HSy : Hid (Sy (secS id s q3 q3 m.mod ty) er3 a3 m5.mod ty q5 er5 a5) := by rw [HID.out]; exact Sy.of (by decide) (by decide) (by decide) hC5.out
            clear hM5 hC5 HCo
            have he5 : er5 ≠ 0 := by rw [(HSy.out.2 he3).1]; exact he3
            have heb5 : (er5 == 0) = false := by rw [beq_eq_false_iff_ne]; exact he5
            have HS5 : Hid (Sx1 X s id q5 m5.mod ty er5 a5) := ⟨fun h => absurd h he5, fun _ => by rw [(HSy.out.2 he3).1, (HSy.out.2 he3).2]; exact HXb.out he3⟩
            have HF5 : Hid (er5 = 0 → FreshM id m5.mod ty) := fun h => absurd h he5
            have m1 := hR5.c1
            have m2 := hR5.c2
            have m3 := hR5.c3
            have mf2 := hR5.f.1.2
            have HR5 : Hid _ := hR5
            have HD5 : Hid _ := hD5
            clear hR5 hD5
            go_wp2_with fail
            go_quiet (fail)
            have hkd : Kp (fun _ => False) w5 (w5.drewN nq) := (Kp.refl _ _).drewM _
            have hR6 := (HR5.out.keep hkd (fun h => h)).setE s.size (by have := HR5.out.le; have := HR5.out.es; omega) (Nat.le_refl _)
            have hk6 : Kp (fun k => k = rb) (w5.drewN nq) ((w5.drewN nq).setCell ⟨rb, 2, none⟩ (.int .i64 (s.size : Int))) := (Kp.refl (fun k => k = rb) _).setCell (p := ⟨rb, 2, none⟩) (.inl rfl) _
            have HD6 : Hid _ := (HD5.out.cur (hkd.mono (fun _ h => h.elim))).cur hk6
            have HR6 : Hid _ := hR6
            clear hR6 hk6 hkd m1 m3
            go_wp2
            exact ⟨⟨id, q5, a5, _, m5, ty, hid11, (by first | rfl | rw [hidi]), HR6.out, HD6.out, HF5.out, HS5.out⟩, by rw [msrD_rc HR6.out, HMq.out]; rw [if_neg he5]; have := hq1s; omega⟩
          have hidb10 : ((id : Int) == 10) = false := by rw [beq_eq_false_iff_ne]; omega
          have HSe := sect_m hR4 HD4.out.mw (fun h => (HD4.out.mf rb h).1 rfl) HFr.out hidl hid1 hid11 hid3 hid10
          have HID : Hid (id ≠ 3) := hid3
          clear hid10 hid3 hR4
          go_wp2_with fail
          refine HSe.mono ?_
          rintro en w5 ⟨m5, q5, er5, a5, rfl, hR5, hM5, hC5⟩
          have hD5 := HD4.out.sect hM5
          have HSy : Hid (Sy (secS id s q3 q3 m.mod ty) er3 a3 m5.mod ty q5 er5 a5) := Sy.of hid1 hid11 HID.out hC5.out
          clear hM5 hC5 HSe
          have he5 : er5 ≠ 0 := by rw [(HSy.out.2 he3).1]; exact he3
          have heb5 : (er5 == 0) = false := by rw [beq_eq_false_iff_ne]; exact he5
          have HS5 : Hid (Sx1 X s id q5 m5.mod ty er5 a5) := ⟨fun h => absurd h he5, fun _ => by rw [(HSy.out.2 he3).1, (HSy.out.2 he3).2]; exact HXb.out he3⟩
          have HF5 : Hid (er5 = 0 → FreshM id m5.mod ty) := fun h => absurd h he5
          have m1 := hR5.c1
          have m2 := hR5.c2
          have m3 := hR5.c3
          have mf2 := hR5.f.1.2
          have HR5 : Hid _ := hR5
          have HD5 : Hid _ := hD5
          clear hR5 hD5
          go_wp2_with fail
          go_quiet (fail)
          have hkd : Kp (fun _ => False) w5 (w5.drewN nq) := (Kp.refl _ _).drewM _
          have hR6 := (HR5.out.keep hkd (fun h => h)).setE s.size (by have := HR5.out.le; have := HR5.out.es; omega) (Nat.le_refl _)
          have hk6 : Kp (fun k => k = rb) (w5.drewN nq) ((w5.drewN nq).setCell ⟨rb, 2, none⟩ (.int .i64 (s.size : Int))) := (Kp.refl (fun k => k = rb) _).setCell (p := ⟨rb, 2, none⟩) (.inl rfl) _
          have HD6 : Hid _ := (HD5.out.cur (hkd.mono (fun _ h => h.elim))).cur hk6
          have HR6 : Hid _ := hR6
          clear hR6 hk6 hkd m1 m3
          go_wp2
          exact ⟨⟨id, q5, a5, _, m5, ty, hid11, (by first | rfl | rw [hidi]), HR6.out, HD6.out, HF5.out, HS5.out⟩, by rw [msrD_rc HR6.out, HMq.out]; rw [if_neg he5]; have := hq1s; omega⟩
    · by_cases he1 : er1 = 0
      · subst he1
        have hq1 : ¬ q1 < s.size := fun h => hgo ⟨rfl, h⟩
        have hqi : ¬ (q1 : Int) < (s.size : Int) := by omega
        have hXo : X = .ok (m.mod, ty, q1) := by rw [← hS1.out.good rfl, secsL, if_neg hq1]
        obtain ⟨fa, fc, hfv⟩ := HD1.out.mw.slFn
        have d2 := HD1.out.mw.c2
        rw [hfv] at d2
        by_cases hlen : ty.length = m.fs.length
        · have HXe : Hid (decodeS s = .ok m.mod) := by
            show _ = _
            rw [HD.out, hXo]
            show (if ty.length = m.mod.funcs.length then _ else _) = _
            rw [if_pos (by unfold MT.mod; simpa using hlen)]
          have hb1 : ((ty.length : Int) == (m.fs.length : Int)) = true := by rw [beq_iff_eq]; omega
          have hb2 : ((ty.length : Int) != (m.fs.length : Int)) = false := by simp [bne, hb1]
          clear hlen hXo hfv
          go_wp2
          go_ret3
          exact DmP.mkOk HXe.out HD1.out.kp rfl HD1.out.mw (fun k hk => (HD1.out.mf k hk).2)
        · have HXe : Hid (decodeS s = .error (12, s.size)) := by
            show _ = _
            rw [HD.out, hXo]
            show (if ty.length = m.mod.funcs.length then _ else _) = _
            rw [if_neg (by unfold MT.mod; simpa using hlen)]
          have hb1 : ((ty.length : Int) == (m.fs.length : Int)) = false := by rw [beq_eq_false_iff_ne]; omega
          have hb2 : ((ty.length : Int) != (m.fs.length : Int)) = true := by simp [bne, hb1]
          clear hlen hXo hfv
          go_wp2
          go_ret3
          exact DmP.mkErr HXe.out HD1.out.kp rfl
      · have heb1 : (er1 == 0) = false := by rw [beq_eq_false_iff_ne]; exact he1
        have HXe : Hid (decodeS s = .error (er1, a1)) := by
          show _ = _
          rw [HD.out, hS1.out.bad he1]
          rfl
        have HK1 : Hid _ := HD1.out.kp
        by_cases hq1 : q1 < s.size
        · have hqi : (q1 : Int) < (s.size : Int) := by omega
          go_wp2_with fail
          go_quiet (fail)
          go_wp2
          go_ret3
          exact DmP.mkErr HXe.out (HK1.out.drewM _) rfl
        · have hqi : ¬ (q1 : Int) < (s.size : Int) := by omega
          go_wp2_with fail
          go_quiet (fail)
          go_wp2
          go_ret3
          exact DmP.mkErr HXe.out (HK1.out.drewM _) rfl
end
end Go.Proofs.Qxb6500275aGreatDoor
