import Derived.Test.Qxb6500275aGreatDoorWr18
import Derived.Test.Qxb6500275aGreatDoorSec3
set_option maxRecDepth 100000
set_option linter.unusedVariables false
set_option linter.unusedSimpArgs false
set_option linter.unusedSectionVars false
namespace Go.Proofs.Qxb6500275aGreatDoor
open Go Go.RowKit
variable [Inhabited TV]
def Z79 : Array Value := #[.int .i64 0, .string ⟨#[]⟩, .slice none 0 0, .slice none 0 0]
theorem mk79 (w : World) (n : Nat) (hn : n ≤ 8) : (Instr.makeSlice 79 (.int .i64 (n : Int)) (.int .i64 (n : Int))).run Tryz.prog w = .ok (.slice (some ⟨w.heap.size, 0, none⟩) n n) (w.alloc (.cells (madeCells Z79 (n * 4)) 124)) :=
  make_n2 w 79 124 n 4 72 Z79 (by kernel_rfl) (by kernel_rfl) (by kernel_rfl) (by omega) (by omega)
section
variable {α β : Type} {RR : Rel β} {w w1 w2 : World} {b : Nat} {s : ByteArray} {p q q2 e f bb ib tb mb : Nat} {ty : List Int} {k n sz : Nat} {z cur : Nat → Value} {l : List β} {M : Mod} {Post : Ending → World → Prop} {X : RM}
theorem Lp.readE (hR : RowOk RR) (h : Lp RR w w1 b s q e bb ib tb ty k n sz z l cur) (hk : Kp (· = b) w1 w2) (hr : Rd w2 b s q2 f bb) : Lp RR w w2 b s q2 f bb ib tb ty k n sz z l cur := by
  have hlt := h.lt
  have hne := h.ne
  exact ⟨hr, h.bt.keep hk (fun e => hne.1 e.symm) (fun e => hne.2.1 e.symm) (fun e => hne.2.2 e.symm), h.rw.keep hR hk (by omega) (fun j hj => by omega), h.kp.trans (hk.mono fun j hj => .inl hj), hlt, hne⟩
theorem Lp.errE (h : Lp RR w w1 b s q f bb ib tb ty k n sz z l cur) {c : Int} {a : Nat} (hk : Kp (· = b) w1 w2) (hX : X = .error (c, a)) : SecP X b s e bb ib tb mb w (fault c a) w2 := by
  have hne := h.ne
  exact SecP.mkErr hX (h.kp.trans (hk.mono fun j hj => .inl hj)).s4 rfl (h.bt.keep hk (fun e => hne.1 e.symm) (fun e => hne.2.1 e.symm) (fun e => hne.2.2 e.symm))
theorem Lp.enterStep {kk : Nat × Nat → RM} (hR : RowOk RR) (h : Lp RR w w1 b s q e bb ib tb ty k n sz z l cur) (HS : Hid (X = bindR (enterS s q e) kk))
    (h1 : ∀ c a w4, SecP X b s e bb ib tb mb w (fault c a) w4 → Post (fault c a) w4) (h2 : ∀ (q2 f : Nat) w4, Hid (enterS s q e = .ok (q2, f)) → Hid (X = kk (q2, f)) → Hid (Lp RR w w4 b s q2 f bb ib tb ty k n sz z l cur) → Post (.returned (.int .i64 q2)) w4) : Calls Tryz.prog 64 #[.pointer (some ⟨b, 0, none⟩)] w1 Post := by
  cases ho : enterS s q e with
  | error g =>
    obtain ⟨c, a⟩ := g
    refine (enter_err h.rd ho).mono ?_
    rintro en w4 ⟨rfl, hK⟩
    exact h1 c a w4 (h.errE hK (HS.out.trans (bindR_err ho kk)))
  | ok x =>
    obtain ⟨q2, f⟩ := x
    refine (enter_ok h.rd ho).mono ?_
    rintro en w4 ⟨rfl, hr, hK⟩
    exact h2 q2 f w4 ho (HS.out.trans (bindR_ok ho kk)) (h.readE hR hK hr)
theorem Lp.leaveStep {fr : Nat} {kk : Fn × Nat → RM} {v : Fn × Nat} (hR : RowOk RR) (h : Lp RR w w1 b s q f bb ib tb ty k n sz z l cur) (HS : Hid (X = bindR (if q = f then .ok v else .error (6, fr)) kk)) (hf : f ≤ e) (he : e ≤ s.size) (hfr : fr ≤ 4096)
    (h1 : ∀ c a w4, SecP X b s e bb ib tb mb w (fault c a) w4 → Post (fault c a) w4) (h2 : ∀ w4, Kp (· = b) w1 w4 → Hid (X = kk v) → Hid (Lp RR w w4 b s q e bb ib tb ty k n sz z l cur) → Post (.returned (.tuple #[])) w4) : Calls Tryz.prog 65 #[.pointer (some ⟨b, 0, none⟩), .int .i64 fr, .int .i64 e] w1 Post := by
  by_cases hq : q = f
  · subst hq
    rw [if_pos rfl] at HS
    refine (leave_ok h.rd fr e hfr hf he).mono ?_
    rintro en w4 ⟨rfl, hr, hK⟩
    exact h2 w4 hK HS (h.readE hR hK hr)
  · rw [if_neg hq] at HS
    refine (leave_err h.rd hq fr (.int .i64 e) hfr).mono ?_
    rintro en w4 ⟨rfl, hK⟩
    exact h1 6 fr w4 (h.errE hK HS.out)
end
section
variable {w w1 w2 : World} {b : Nat} {s : ByteArray} {p q q2 e f bb ib tb mb : Nat} {ty : List Int} {k n : Nat} {z cur : Nat → Value} {l : List Fn} {M : Mod} {Post : Ending → World → Prop} {X : RM}
theorem Lp.bodyStep {kk : List Ins × List Int × Nat → RM} (h : Lp fnR w w1 b s q f bb ib tb ty k n 4 z l cur) {m : Nat} (hm : l.length = m) (hl : l.length < n) (h3 : cur 3 = .slice none 0 0) (HS : Hid (X = bindR (bodyS s q f) kk))
    (h1 : ∀ c a w4, SecP X b s e bb ib tb mb w (fault c a) w4 → Post (fault c a) w4)
    (h2 : ∀ ins tabs q2 w4 vb vt, Hid (bodyS s q f = .ok (ins, tabs, q2)) → Hid (X = kk (ins, tabs, q2)) → Hid (Lp fnR w w4 b s q2 f bb ib tb ty k n 4 z l (upd (upd cur 2 vb) 3 vt)) → Hid (InsAt w4 (k + 1) vb ins) → Hid (TabAt w4 (k + 1) vt tabs) → Post (.returned (.tuple #[])) w4) :
    Calls Tryz.prog 119 #[.pointer (some ⟨b, 0, none⟩), .pointer (some ⟨k, m * 4, none⟩)] w1 Post := by
  subst hm
  have hlt := h.lt
  obtain ⟨le, G, hB, hr, hc, hz⟩ := h.rw
  have hrow : (l.length + 1) * 4 ≤ n * 4 := Nat.mul_le_mul_right _ hl
  have hk1 : k < w1.heap.size := hB.lt (by omega)
  have hG3 : G (l.length * 4 + 3) = .slice none 0 0 := (hc hl 3 (by decide)).trans h3
  refine (body_calls (fb := k) (nf := n * 4) (fo := l.length * 4) (F := G) h.rd h.bt h.ne ⟨by omega, by omega, by omega, by omega⟩ hB (by omega) hG3).mono ?_
  intro en w4 hP
  obtain ⟨hK, hP⟩ := hP
  have hK' : Kp (S4 b bb ib tb) w w4 := by
    refine ⟨hK.os.trans h.kp.os, hK.tape.trans h.kp.tape, hK.output.trans h.kp.output, Nat.le_trans h.kp.size hK.size, fun i hi hs => (hK.block i (Nat.lt_of_lt_of_le hi h.kp.size) ?_).trans (h.kp.block i hi hs)⟩
    rintro (h5 | h5)
    · exact hs h5
    · omega
  have hS : ∀ j, (S4 b bb ib tb j ∨ j = k) → j < k + 1 := fun j hj => by
    unfold S4 at hj
    omega
  cases ho : bodyS s q f with
  | error g =>
    obtain ⟨c, a⟩ := g
    rw [ho] at hP
    obtain ⟨rfl, hb⟩ := hP
    exact h1 c a w4 (SecP.mkErr (HS.out.trans (bindR_err ho kk)) hK'.s4 rfl hb)
  | ok x =>
    obtain ⟨ins, tabs, q2⟩ := x
    rw [ho] at hP
    obtain ⟨rfl, hr2, hb2, vb, vt, hB2, hI, hT⟩ := hP
    refine h2 ins tabs q2 w4 vb vt ho (HS.out.trans (bindR_ok ho kk)) ⟨hr2, hb2, ⟨le, _, hB2, fun i x hx => ?_, fun _ c hc4 => ?_, fun i h4 h5 c hc4 => ?_⟩, hK', hlt, h.ne⟩ (hI.mono hk1) (hT.mono hk1)
    · have hi := (List.getElem?_eq_some_iff.1 hx).1
      refine fn_pure.same _ _ _ _ _ (fnR_ok.keep _ _ _ _ _ _ (hr i x hx) hK hS) (fun c hc4 => ?_)
      rw [upd_ne _ _ (row_ne (by omega) hc4 (by decide)), upd_ne _ _ (row_ne (by omega) hc4 (by decide))]
    · by_cases e3 : c = 3
      · subst e3; rw [upd_same, upd_same]
      · rw [upd_ne _ _ e3, upd_ne _ _ (by omega)]
        by_cases e2 : c = 2
        · subst e2; rw [upd_same, upd_same]
        · rw [upd_ne _ _ e2, upd_ne _ _ (by omega)]; exact hc hl c hc4
    · rw [upd_ne _ _ (row_ne (by omega) hc4 (by decide)), upd_ne _ _ (row_ne (by omega) hc4 (by decide))]
      exact hz i h4 h5 c hc4
theorem Bt.tyAt {t : Int} {i : Nat} (h : Bt w bb ib tb ty) (hi : ty[i]? = some t) : w.cell? ⟨bb, i, none⟩ = some (.int .i64 t) := by
  obtain ⟨_, _, _, ⟨F, G, H, b1, b2, b3, hl⟩, _⟩ := h
  have := (List.getElem?_eq_some_iff.1 hi).1
  have := hl.lT
  rw [b1.cell (by omega), hl.cT i t hi]
theorem Bt.tyN (h : Bt w bb ib tb ty) : w.cell? ⟨bb, 8, none⟩ = some (.int .i64 ty.length) ∧ ty.length ≤ 8 := by
  obtain ⟨_, _, _, ⟨F, G, H, b1, b2, b3, hl⟩, _⟩ := h
  exact ⟨by rw [b1.cell (by decide), hl.nT], hl.lT⟩
set_option maxHeartbeats 4000000 in
theorem codes_calls (h : Dc w b s p e bb ib tb mb ty M) : Calls Tryz.prog 61 #[.pointer (some ⟨b, 0, none⟩), .pointer (some ⟨mb, 0, none⟩)] w (SecP (sec10 s p e M ty) b s e bb ib tb mb w) := by
  have HD : Hid _ := h
  have hbl : b < w.heap.size := lt_of_cell h.rd.c0
  have hml : mb < w.heap.size := h.md.lt
  have hbm : b < mb := h.lt.1
  have hes : e ≤ s.size := h.rd.es
  have hsz : s.size ≤ 1024 := h.rd.sz
  have c1 := h.rd.c1
  obtain ⟨X, hX⟩ : ∃ X, sec10 s p e M ty = X := ⟨_, rfl⟩
  have HS : Hid (X = sec10 s p e M ty) := hX.symm
  unfold sec10 at HS
  rw [hX]
  clear h hX
  go_enter Tryz.func61, Tryz.ntmps61
  go_wp2_with fail
  refine RP.step HS (count_calls HD.out.rd 8 (by omega)) (fun c a w4 hX hK => ⟨rfl, HD.out.err hK hX⟩) ?_
  clear HS
  intro n q w2 hn HS hK2 hR2
  have hn6 := (countS_ok hn.out).1
  obtain ⟨n, rfl⟩ := Int.eq_ofNat_of_zero_le hn6.1
  unfold encI
  dsimp only at HS
  have hB2 := HD.out.btOf hK2
  have c3 := hR2.c3
  have c2 := hR2.c2
  obtain ⟨n8, hT8⟩ := hB2.tyN
  clear hn c1
  by_cases hT : n = ty.length
  · have hTb : (ty.length : Int) = (n : Int) := by omega
    rw [if_pos hTb.symm] at HS
    rw [hTb] at n8
    have HT : Hid _ := hT
    clear hT hTb
    by_cases h0 : n = 0
    · subst h0
      have ht0 : ty = [] := List.length_eq_zero_iff.1 HT.out.symm
      subst ht0
      clear hT8
      go_wp2
      go_end0
      exact SecP.mkOk HS.out hK2.sd rfl hR2 (HD.out.btOf hK2) (HD.out.mdOf hK2 (fun k h => .inl h))
    · go_wp2
      rw [mk79 w2 n (by omega)]
      have hL0 := Lp.first (R := fnR) (n := n) (sz := 4) HD.out hK2 hR2 Z79 rfl (by decide) 124
      obtain ⟨k, hk⟩ : ∃ k, w2.heap.size = k := ⟨_, rfl⟩
      have hkm : mb < k := by have := hK2.size; omega
      rw [hk] at hL0 ⊢
      generalize w2.alloc (.cells (madeCells Z79 (n * 4)) 124) = w3 at *
      have c2' := hL0.rd.c2
      clear hk hK2 hR2 hB2 n8 c3 c2
      go_wp2
      go_loopw [8] (fun ii w1 => ∃ (i q' : Nat) (l : List Fn), i ≤ n ∧ ii = .int .i64 i ∧ l.length = i ∧ Lp fnR w w1 b s q' e bb ib tb ty k n 4 (fun c => Z79[c]!) l (fun c => Z79[c]!) ∧ Hid (X = bindR (fnsL s e (ty.drop i) q' l) fun x => .ok ({ M with funcs := pick x.1 M.funcs }, ty, x.2))) (fun ii _ => n - (intOf ii).toNat)
      case atStart => exact ⟨0, q, [], by omega, rfl, rfl, hL0, HS⟩
      case round =>
        clear hL0 HS c2'
        obtain ⟨i, q', l, hi, rfl, hl, hLi, HS⟩ := hrel
        have HL : Hid _ := hLi
        have HN : Hid _ := hl
        by_cases hlt : i < n
        · have hln : l.length < n := by omega
          clear hl hLi
          have hti : i < ty.length := by have := HT.out; omega
          obtain ⟨t, ht⟩ : ∃ t, ty[i]? = some t := ⟨_, List.getElem?_eq_getElem hti⟩
          have hdr : ty.drop i = t :: ty.drop (i + 1) := by
            rw [List.drop_eq_getElem_cons hti]
            congr 1
            rw [List.getElem?_eq_getElem hti] at ht
            exact Option.some.inj ht
          rw [hdr] at HS
          dsimp only [fnsL, fnRow] at HS
          simp only [bindR_assoc] at HS
          have HT2 : Hid _ := ht
          clear ht hdr
          go_wp2_with fail
          refine HL.out.enterStep (mb := mb) fnR_ok HS (fun c a w4 h => ⟨rfl, h⟩) ?_
          clear HS HL
          intro q1 f w4 he HS HL
          have hen := enterS_ok he.out
          dsimp only at HS
          have hc0 := HL.out.rw.cell hln (c := 0) (by decide)
          have hct := HL.out.bt.tyAt HT2.out
          have c3 := HL.out.rd.c3
          have hL5 := HL.out.set fnR_ok fn_pure hln (c := 0) (by decide) (.int .i64 t)
          rw [HN.out] at hc0 hL5
          rw [Nat.add_zero] at hc0 hL5
          obtain ⟨hc0, hf0⟩ := hc0
          clear HL he
          have HL : Hid _ := hL5
          clear hL5
          go_wp2_with fail
          generalize w4.setCell ⟨k, i * 4, none⟩ (.int .i64 t) = w5 at HL ⊢
          clear hc0 hf0 hct c3
          refine RP.step HS (locals_calls HL.out.rd) (fun c a w4 hX hK => ⟨rfl, HL.out.errE hK hX⟩) ?_
          clear HS
          intro v2 q2 w6 hv2 HS hK6 hR6
          unfold encS
          dsimp only at HS
          have hL6 := HL.out.read fnR_ok hK6 hR6
          have hc1 := hL6.rw.cell hln (c := 1) (by decide)
          have hL7 := hL6.set fnR_ok fn_pure hln (c := 1) (by decide) (.string v2)
          rw [HN.out] at hc1 hL7
          obtain ⟨hc1, hf1⟩ := hc1
          clear HL hL6 hK6 hR6 hv2
          have HL : Hid _ := hL7
          clear hL7
          go_wp2_with fail
          generalize w6.setCell ⟨k, i * 4 + 1, none⟩ (.string v2) = w7 at HL ⊢
          clear hc1 hf1
          refine HL.out.bodyStep (e := e) (mb := mb) HN.out hln rfl HS (fun c a w4 h => ⟨rfl, h⟩) ?_
          clear HS HL
          intro ins tabs q3 w8 vb vt hbo HS HL HI HTb
          dsimp only at HS
          have hqf := HL.out.rd.le
          go_wp2_with fail
          refine HL.out.leaveStep (mb := mb) fnR_ok HS (by omega) hes (by omega) (fun c a w4 h => ⟨rfl, h⟩) ?_
          clear HS
          intro w9 hK9 HS HL9
          have hbk := HL.out.lt.1
          have hI9 : Hid (InsAt w9 (k + 1) vb ins) := HI.out.keep hK9 (fun j hj => by omega)
          have hT9 : Hid (TabAt w9 (k + 1) vt tabs) := HTb.out.keep hK9 (fun j hj => by omega)
          clear HL HI HTb hK9
          dsimp only at HS
          go_wp2
          go_light
          exact ⟨⟨i + 1, q3, l ++ [(⟨t, v2, ins, tabs⟩ : Fn)], by omega, by go_num, by rw [List.length_append, HN.out]; rfl, HL9.out.push (x := (⟨t, v2, ins, tabs⟩ : Fn)) fn_pure hln ⟨⟨rfl, rfl⟩, hI9.out, hT9.out⟩, HS⟩, by simp [intOf]; omega⟩
        · have hin : i = n := by omega
          subst hin
          have hdr : ty.drop i = [] := List.drop_eq_nil_of_le (by have := HT.out; omega)
          rw [hdr] at HS
          clear hLi hl hdr
          obtain ⟨⟨v0, hv0⟩, hf0⟩ := (HL.out.mdOf HD.out).cell (i := 2) (by decide)
          go_wp2
          go_end0
          go_light
          exact Lp.fin HD.out HL.out HS.out (by rw [pick_ne HN.out h0]; exact (HL.out.mdOf HD.out).setFuncs (HL.out.rw.done fnR_ok HN.out (by omega) (by omega) (by omega)))
  · rw [if_neg (by omega)] at HS
    have hTb : ((n : Int) != (ty.length : Int)) = true := by rw [bne_iff_ne]; omega
    go_wp2
    go_light
    exact ⟨rfl, HD.out.err hK2 HS.out⟩
end
end Go.Proofs.Qxb6500275aGreatDoor
