import Derived.Test.Qxb6500275aGreatDoorPp8
import Derived.Test.Qxb6500275aGreatDoorPp9
import Derived.Test.Qxb6500275aGreatDoorSp11
set_option maxRecDepth 100000
set_option linter.unusedVariables false
set_option linter.unusedSimpArgs false
namespace Go.Proofs.Qxb6500275aGreatDoor
open Go Go.RowKit
/- the compiler at rest -/
structure Pr (w : World) (pb cb x : Nat) : Prop where
  is : ∃ F G cells, Blk w pb 54 F ∧ Blk w cb 363 G ∧ PL cb F G cells x ∧ cells.length ≤ x ∧ F 51 = .int .i64 0
  ne : pb ≠ cb
section
variable {w : World} {mb pb cb x fk fo : Nat} {M : Mod} {p : PS} {fn : Fn}
theorem Pr.keep {w' : World} {S : Nat → Prop} (h : Pr w pb cb x) (hk : Kp S w w') (h1 : ¬ S pb) (h2 : ¬ S cb) : Pr w' pb cb x := by
  obtain ⟨⟨F, G, cells, b1, b2, hl, hx⟩, ne⟩ := h
  exact ⟨⟨F, G, cells, b1.keep hk h1, b2.keep hk h2, hl, hx⟩, ne⟩
/- a body begins -/
theorem Pr.begin (h : Pr w pb cb x) (results : Nat) : Pd (((((((((((w.setCell ⟨pb, 0, none⟩ (.slice (some ⟨cb, 0, none⟩) 1 121)).setCell ⟨pb, 2, none⟩ (.int .u8 11)).setCell ⟨pb, 3, none⟩ (.int .i64 0)).setCell ⟨pb, 4, none⟩ (.int .i64 results)).setCell ⟨pb, 5, none⟩ (.int .i64 0)).setCell ⟨pb, 6, none⟩ (.int .i64 0)).setCell ⟨pb, 7, none⟩ (.int .i64 0)).setCell ⟨pb, 8, none⟩ (.int .i64 0)).setCell ⟨pb, 51, none⟩ (.int .i64 1)).setCell ⟨pb, 52, none⟩ (.int .i64 0)).setCell ⟨pb, 53, none⟩ (.int .i64 0)) pb cb x ⟨[⟨0, 0, 0⟩], [⟨11, 0, results, 0, [], 0, 0⟩], 0, 0⟩ := by
  obtain ⟨⟨F, G, cells, b1, b2, hl, hx⟩, ne⟩ := h
  have n' := Ne.symm ne
  refine ⟨⟨_, _, ((((((((((b1.set (by decide) _).set (by decide) _).set (by decide) _).set (by decide) _).set (by decide) _).set (by decide) _).set (by decide) _).set (by decide) _).set (by decide) _).set (by decide) _).set (by decide) _, ((((((((((b2.other n' _).other n' _).other n' _).other n' _).other n' _).other n' _).other n' _).other n' _).other n' _).other n' _).other n' _, ?_, ?_⟩, ne⟩
  · refine ⟨rfl, ?_, fun i h1 h2 h3 => hl.zr i h1 (by omega) h3, fun i c hc => ?_, rfl, by simp⟩
    · exact hl.hi
    · have hi := (List.getElem?_eq_some_iff.1 hc).1
      simp at hi
      subst hi
      simp at hc
      subst hc
      exact hl.cl 0 Ins.zero hl.z
  · refine ⟨fun j g hg => ?_, rfl, rfl, rfl, by simp⟩
    have hj := (List.getElem?_eq_some_iff.1 hg).1
    simp at hj
    subst hj
    simp at hg
    subst hg
    exact ⟨rfl, rfl, rfl, rfl, rfl, rfl, rfl⟩
theorem Pr.some (h : Pr w pb cb x) : ∃ nn, w.cell? ⟨pb, 0, Option.none⟩ = some (.slice (some ⟨cb, 0, Option.none⟩) nn 121) ∧ 1 ≤ nn ∧ nn ≤ 121 ∧ (∀ i, i < 54 → (∃ v, w.cell? ⟨pb, i, Option.none⟩ = Option.some v) ∧ w.frozen? ⟨pb, i, Option.none⟩ = false) := by
  obtain ⟨⟨F, G, cells, b1, b2, hl, hx⟩, ne⟩ := h
  exact ⟨cells.length, by rw [b1.cell (by decide), hl.sl], (List.getElem?_eq_some_iff.1 hl.z).1, hl.n, fun i hi => ⟨⟨_, b1.cell hi⟩, b1.fz hi⟩⟩
def shutK (o : Option PS) (last : Bool) : Option PS := match o with
  | none => none
  | some q => if q.ctl.length = 0 ∧ last = false then none else some q
theorem stepP_11 {last : Bool} {X1 Y1 : Int} (h : skipP p 11 = none) : stepP M fn last p ⟨11, X1, Y1⟩ = shutK (shutP p) last := by
  unfold stepP
  rw [h]
  dsimp only
  rw [if_neg (by omega), if_neg (by omega), if_pos rfl]
  unfold shutK
  cases shutP p <;> rfl
def FO (pb cb x : Nat) (w : World) (o : Except Nat PS) (en : Ending) (w' : World) : Prop :=
  Kp (P2 pb cb) w w' ∧ match o with
    | .ok q => en = .returned (.tuple #[.int .i64 0, .int .i64 0]) ∧ Pd w' pb cb x q
    | .error a => en = .returned (.tuple #[.int .i64 a, .int .i64 29]) ∧ Pw w' pb cb x
set_option maxHeartbeats 16000000 in
theorem flat_calls (hM : ModOk M) (hm : Md w mb M) (hf : FnC w (mb + 1) fk fo fn) (hF : FnOk fn) (hR : FnRoom fn) (h : Pr w pb cb x) (hlt : pb < mb ∧ cb < mb) (results : Nat) (hr : results ≤ 1) :
    Calls Tryz.prog 87 #[.pointer (some ⟨pb, 0, none⟩), .pointer (some ⟨mb, 0, none⟩), .pointer (some ⟨fk, fo, none⟩), .int .i64 results] w (FO pb cb x w (flatP M fn results)) := by
  obtain ⟨X, hX⟩ : ∃ X, flatP M fn results = X := ⟨_, rfl⟩
  rw [hX]
  unfold flatP at hX
  have HX : Hid (flatL M fn (fn.body.drop 0) 0 ⟨[⟨0, 0, 0⟩], [⟨11, 0, results, 0, [], 0, 0⟩], 0, 0⟩ = X) := hX
  have HB : Hid (∀ W, Pr W pb cb x → _) := fun W (hW : Pr W pb cb x) => hW.begin results
  have HP : Hid _ := h
  have HM : Hid _ := hm
  have HO : Hid _ := hM
  have HF : Hid _ := hF
  have HFC : Hid _ := hf
  have HPI : Hid _ := PI.first results hr
  have hroom : costL (fn.body.drop 0) ≤ 120 := by
    unfold costL
    rw [List.drop_zero, hR.sum]
    have := hF.nb.2
    have := hF.nt
    omega
  obtain ⟨nn, p0, pn1, pn2, pa⟩ := h.some
  have fz := fun i hi => (pa i hi).2
  have z0 := fz 0 (by decide)
  have z2 := fz 2 (by decide)
  have z3 := fz 3 (by decide)
  have z4 := fz 4 (by decide)
  have z5 := fz 5 (by decide)
  have z6 := fz 6 (by decide)
  have z7 := fz 7 (by decide)
  have z8 := fz 8 (by decide)
  have z51 := fz 51 (by decide)
  have z52 := fz 52 (by decide)
  have z53 := fz 53 (by decide)
  obtain ⟨⟨v2, p2⟩, _⟩ := pa 2 (by decide)
  obtain ⟨⟨v3, p3⟩, _⟩ := pa 3 (by decide)
  obtain ⟨⟨v4, p4⟩, _⟩ := pa 4 (by decide)
  obtain ⟨⟨v5, p5⟩, _⟩ := pa 5 (by decide)
  obtain ⟨⟨v6, p6⟩, _⟩ := pa 6 (by decide)
  obtain ⟨⟨v7, p7⟩, _⟩ := pa 7 (by decide)
  obtain ⟨⟨v8, p8⟩, _⟩ := pa 8 (by decide)
  obtain ⟨⟨v51, p51⟩, _⟩ := pa 51 (by decide)
  obtain ⟨⟨v52, p52⟩, _⟩ := pa 52 (by decide)
  obtain ⟨⟨v53, p53⟩, _⟩ := pa 53 (by decide)
  have hnb := hF.nb.2
  obtain ⟨nb, hnb'⟩ : ∃ nb, fn.body.length = nb := ⟨_, rfl⟩
  rw [hnb'] at hnb
  have HNB : Hid _ := hnb'
  clear hX h hm hM hf hF hR pa fz hnb'
  go_enter Tryz.func87, Tryz.ntmps87
  go_wp2_with fail
  refine absW (fun W => Pd W pb cb x ⟨[⟨0, 0, 0⟩], [⟨11, 0, results, 0, [], 0, 0⟩], 0, 0⟩ ∧ Kp (P2 pb cb) w W) ?_ ?_
  · exact ⟨HB.out w HP.out, ((((((((((((kp2 pb cb w).pp _).pp _).pp _).pp _).pp _).pp _).pp _).pp _).pp _).pp _).pp _)⟩
  rintro w5 ⟨hP5, hK5⟩
  have HP5 : Hid _ := hP5
  have HK5 : Hid _ := hK5
  clear p0 p2 p3 p4 p5 p6 p7 p8 p51 p52 p53 z0 z2 z3 z4 z5 z6 z7 z8 z51 z52 z53 hP5 hK5
  go_loopw [10] (fun ii w1 => ∃ (i : Nat) (q : PS), i ≤ nb ∧ ii = .int .i64 i ∧ Hid (Pd w1 pb cb x q ∧ PI q ∧ (q.ctl = [] → i = nb) ∧ q.cells.length + costL (fn.body.drop i) ≤ 121 ∧ q.dead ≤ i + 1 ∧ flatL M fn (fn.body.drop i) i q = X) ∧ Hid (Kp (P2 pb cb) w w1)) (fun ii _ => nb + 1 - (intOf ii).toNat)
  case atStart => exact ⟨0, _, by omega, rfl, ⟨HP5.out, HPI.out, fun e => by simp at e, by simp only [List.length_cons, List.length_nil]; omega, by simp, HX.out⟩, HK5.out⟩
  case round =>
    clear HX HP5 HK5
    obtain ⟨i, q, hi, rfl, HQ, HK⟩ := hrel
    obtain ⟨hPq, hIq, hcq, hnq, hdq, hXq⟩ := HQ.out
    have hkeep : ∀ k, P2 pb cb k → k < mb + 1 := fun k hk => by unfold P2 at hk; omega
    have hfc1 := HFC.out.keep HK.out hkeep
    obtain ⟨ba, ta, c0, c1, c2, c3, bat, tat⟩ := hfc1.cells
    rw [HNB.out] at c2
    have hfl : fk < wr.heap.size := lt_of_cell c0
    by_cases hlt2 : i < nb
    · obtain ⟨y, hy⟩ : ∃ y, fn.body[i]? = some y := ⟨_, List.getElem?_eq_getElem (by rw [HNB.out]; exact hlt2)⟩
      obtain ⟨kb, rfl, d0, d1, d2⟩ := bat i y hy
      have hyo := HF.out.body y (List.mem_of_getElem? hy)
      have hcn : q.ctl ≠ [] := fun e => by have := hcq e; omega
      rw [drop_cons hy, costL_cons] at hnq
      rw [drop_cons hy, flatL] at hXq
      have hkl : kb < wr.heap.size := lt_of_cell d0
      have hib : (i : Int) < (nb : Int) := by omega
      have hlen : (fn.body.drop (i + 1)).length = nb - (i + 1) := by simp [HNB.out]
      have hstep := fun q' (hs : stepP M fn (decide ((fn.body.drop (i + 1)).length = 0)) q y = some q') => hIq.step hcn hyo HF.out hs
      obtain ⟨op, X1, Y1⟩ := y
      dsimp only at d0 d1 d2 hnq
      have hop256 : op < 256 := by
        have := hyo.op
        unfold opOk at this
        dsimp only at this
        omega
      have hsc := fun (W : World) (hW : Pd W pb cb x q) => skip_calls hW (by omega) op hop256
      have HXq : Hid _ := hXq
      have HPq : Hid _ := hPq
      have HIq : Hid _ := hIq
      have HYO : Hid _ := hyo
      have HLA : Hid (decide ((fn.body.drop (i + 1)).length = 0) = true → i + 1 = nb) := fun h => by have := of_decide_eq_true h; rw [hlen] at this; omega
      have HLB : Hid (i + 1 = nb → decide ((fn.body.drop (i + 1)).length = 0) = true) := fun h => by rw [hlen]; simp; omega
      have HFC1 : Hid _ := hfc1
      obtain ⟨f, r, hfr⟩ : ∃ f r, q.ctl = f :: r := by
        cases hq : q.ctl with
        | nil => exact absurd hq hcn
        | cons f r => exact ⟨f, r, rfl⟩
      have HFR : Hid _ := hfr
      have hql : q.cells.length < 121 := by omega
      have HQL : Hid _ := hql
      have hqd : q.dead ≤ 1000 := by omega
      have HQD : Hid _ := hqd
      have hpl := hPq.cells.pl
      have hcl := hPq.cells.cl
      clear hXq hPq hIq hyo hlen hfc1 hfr hql hqd HQ hcq hcn bat tat c0 c1 hy hkeep
      cases hsk : skipP q op with
      | some q' =>
        have hst : stepP M fn (decide ((fn.body.drop (i + 1)).length = 0)) q ⟨op, X1, Y1⟩ = some q' := by unfold stepP; rw [hsk]
        have hS := hstep q' hst
        have HXq2 : Hid (flatL M fn (fn.body.drop (i + 1)) (i + 1) q' = X) := by
          have := HXq.out
          rw [hst] at this
          exact this
        rw [hsk] at hsc
        have HS : Hid _ := hS
        clear hstep hsk hst hS HXq
        go_wp2_with (go_at_call 155; refine (hsc _ (HPq.out.new ((Kp.refl _ _).alloc _))).mono ?_; rintro en w2 ⟨rfl, hk2, hp2⟩; unfold encK; dsimp only [Option.isSome])
        go_light
        exact ⟨⟨i + 1, q', by omega, by go_num, ⟨hp2, HS.out.pi, fun e => HLA.out (HS.out.e e), by have := HS.out.n; omega, by have := HS.out.d; omega, HXq2.out⟩, (HK.out.alloc _).trans hk2⟩, by simp [intOf]; omega⟩
      | none =>
        rw [hsk] at hsc
        have HSK : Hid _ := hsk
        clear hsk
        go_wp2_with fail
        refine (hsc _ (HPq.out.new ((Kp.refl _ _).alloc _))).mono ?_
        rintro en w2 ⟨rfl, hk2, hp2⟩
        unfold encK
        dsimp only [Option.isSome]
        have hb : (w2.cell? ⟨wr.heap.size, 0, none⟩ = some (.int .u8 (op : Int)) ∧ w2.cell? ⟨wr.heap.size, 1, none⟩ = some (.int .u32 X1) ∧ w2.cell? ⟨wr.heap.size, 2, none⟩ = some (.int .u64 Y1)) := ⟨by rw [hk2.cell (p := ⟨wr.heap.size, 0, none⟩) (by simp) (by unfold P2; dsimp only; omega), World.cell?_alloc_at _ _ _ _ rfl]; rfl, by rw [hk2.cell (p := ⟨wr.heap.size, 1, none⟩) (by simp) (by unfold P2; dsimp only; omega), World.cell?_alloc_at _ _ _ _ rfl]; rfl, by rw [hk2.cell (p := ⟨wr.heap.size, 2, none⟩) (by simp) (by unfold P2; dsimp only; omega), World.cell?_alloc_at _ _ _ _ rfl]; rfl⟩
        obtain ⟨b0, b1, b2⟩ := hb
        have HK2 : Hid _ := (HK.out.alloc (.cells #[.int .u8 (op : Int), .int .u32 X1, .int .u64 Y1] 129)).trans hk2
        have HP2 : Hid (Pd w2 pb cb x q) := hp2
        have hfc2 := HFC.out.keep HK2.out (fun k hk => by unfold P2 at hk; omega)
        have HFC2 : Hid _ := hfc2
        obtain ⟨ba2, ta2, q0, q1, q2, q3, _, _⟩ := hfc2.cells
        rw [HNB.out] at q2
        clear hsc hk2 hp2 hfc2 d0 d1 d2 c2 c3
        by_cases h2 : op = 2
        · subst h2
          obtain ⟨O, hO⟩ : ∃ O, openP q ⟨2, X1, Y1⟩ = O := ⟨_, rfl⟩
          have hO2 : stepP M fn (decide ((fn.body.drop (i + 1)).length = 0)) q ⟨2, X1, Y1⟩ = O := by
            rw [← hO]
            unfold stepP
            rw [HSK.out]
            dsimp only
            rw [if_pos (by omega)]
          have HO2 : Hid _ := hO2
          have hcc := open_calls HP2.out HIq.out HQL.out ⟨2, X1, Y1⟩ HYO.out (by simp) HFR.out
          rw [hO] at hcc
          clear hO hO2
          go_wp2_with fail
          refine (hcc).mono ?_
          intro en w3 hPO
          obtain ⟨hk3, hPO⟩ := hPO
          have HK3 : Hid _ := HK2.out.trans hk3
          cases O with
          | none =>
            obtain ⟨rfl, hpw⟩ := hPO
            rw [HO2.out] at HXq
            dsimp only at HXq
            clear hk3
            go_wp2
            go_ret2
            rw [← HXq.out]
            exact ⟨HK3.out, rfl, hpw⟩
          | some q' =>
            obtain ⟨rfl, hp3⟩ := hPO
            rw [HO2.out] at HXq
            dsimp only at HXq
            have hS := hstep q' HO2.out
            clear hk3
            go_wp2
            go_light
            exact ⟨⟨i + 1, q', by omega, by go_num, ⟨hp3, hS.pi, fun e => HLA.out (hS.e e), by have := hS.n; omega, by have := hS.d; omega, HXq.out⟩, HK3.out⟩, by simp [intOf]; omega⟩
        · have hb2 : ((op : Int) == 2) = false := by rw [beq_eq_false_iff_ne]; omega
          by_cases h3 : op = 3
          · subst h3
            obtain ⟨O, hO⟩ : ∃ O, openP q ⟨3, X1, Y1⟩ = O := ⟨_, rfl⟩
            have hO2 : stepP M fn (decide ((fn.body.drop (i + 1)).length = 0)) q ⟨3, X1, Y1⟩ = O := by
              rw [← hO]
              unfold stepP
              rw [HSK.out]
              dsimp only
              rw [if_pos (by omega)]
            have HO2 : Hid _ := hO2
            have hcc := open_calls HP2.out HIq.out HQL.out ⟨3, X1, Y1⟩ HYO.out (by simp) HFR.out
            rw [hO] at hcc
            clear hO hO2
            go_wp2_with fail
            refine (hcc).mono ?_
            intro en w3 hPO
            obtain ⟨hk3, hPO⟩ := hPO
            have HK3 : Hid _ := HK2.out.trans hk3
            cases O with
            | none =>
              obtain ⟨rfl, hpw⟩ := hPO
              rw [HO2.out] at HXq
              dsimp only at HXq
              clear hk3
              go_wp2
              go_ret2
              rw [← HXq.out]
              exact ⟨HK3.out, rfl, hpw⟩
            | some q' =>
              obtain ⟨rfl, hp3⟩ := hPO
              rw [HO2.out] at HXq
              dsimp only at HXq
              have hS := hstep q' HO2.out
              clear hk3
              go_wp2
              go_light
              exact ⟨⟨i + 1, q', by omega, by go_num, ⟨hp3, hS.pi, fun e => HLA.out (hS.e e), by have := hS.n; omega, by have := hS.d; omega, HXq.out⟩, HK3.out⟩, by simp [intOf]; omega⟩
          · have hb3 : ((op : Int) == 3) = false := by rw [beq_eq_false_iff_ne]; omega
            by_cases h4 : op = 4
            · subst h4
              obtain ⟨O, hO⟩ : ∃ O, openP q ⟨4, X1, Y1⟩ = O := ⟨_, rfl⟩
              have hO2 : stepP M fn (decide ((fn.body.drop (i + 1)).length = 0)) q ⟨4, X1, Y1⟩ = O := by
                rw [← hO]
                unfold stepP
                rw [HSK.out]
                dsimp only
                rw [if_pos (by omega)]
              have HO2 : Hid _ := hO2
              have hcc := open_calls HP2.out HIq.out HQL.out ⟨4, X1, Y1⟩ HYO.out (by simp) HFR.out
              rw [hO] at hcc
              clear hO hO2
              go_wp2_with fail
              refine (hcc).mono ?_
              intro en w3 hPO
              obtain ⟨hk3, hPO⟩ := hPO
              have HK3 : Hid _ := HK2.out.trans hk3
              cases O with
              | none =>
                obtain ⟨rfl, hpw⟩ := hPO
                rw [HO2.out] at HXq
                dsimp only at HXq
                clear hk3
                go_wp2
                go_ret2
                rw [← HXq.out]
                exact ⟨HK3.out, rfl, hpw⟩
              | some q' =>
                obtain ⟨rfl, hp3⟩ := hPO
                rw [HO2.out] at HXq
                dsimp only at HXq
                have hS := hstep q' HO2.out
                clear hk3
                go_wp2
                go_light
                exact ⟨⟨i + 1, q', by omega, by go_num, ⟨hp3, hS.pi, fun e => HLA.out (hS.e e), by have := hS.n; omega, by have := hS.d; omega, HXq.out⟩, HK3.out⟩, by simp [intOf]; omega⟩
            · have hb4 : ((op : Int) == 4) = false := by rw [beq_eq_false_iff_ne]; omega
              by_cases h5 : op = 5
              · subst h5
                obtain ⟨O, hO⟩ : ∃ O, turnP q = O := ⟨_, rfl⟩
                have hO2 : stepP M fn (decide ((fn.body.drop (i + 1)).length = 0)) q ⟨5, X1, Y1⟩ = O := by
                  rw [← hO]
                  unfold stepP
                  rw [HSK.out]
                  dsimp only
                  rw [if_neg (by omega), if_pos rfl]
                have HO2 : Hid _ := hO2
                have hcc := turn_calls HP2.out HIq.out HQL.out HFR.out HQD.out
                rw [hO] at hcc
                clear hO hO2
                go_wp2_with fail
                refine (hcc).mono ?_
                intro en w3 hPO
                obtain ⟨hk3, hPO⟩ := hPO
                have HK3 : Hid _ := HK2.out.trans hk3
                cases O with
                | none =>
                  obtain ⟨rfl, hpw⟩ := hPO
                  rw [HO2.out] at HXq
                  dsimp only at HXq
                  clear hk3
                  go_wp2
                  go_ret2
                  rw [← HXq.out]
                  exact ⟨HK3.out, rfl, hpw⟩
                | some q' =>
                  obtain ⟨rfl, hp3⟩ := hPO
                  rw [HO2.out] at HXq
                  dsimp only at HXq
                  have hS := hstep q' HO2.out
                  clear hk3
                  go_wp2
                  go_light
                  exact ⟨⟨i + 1, q', by omega, by go_num, ⟨hp3, hS.pi, fun e => HLA.out (hS.e e), by have := hS.n; omega, by have := hS.d; omega, HXq.out⟩, HK3.out⟩, by simp [intOf]; omega⟩
              · have hb5 : ((op : Int) == 5) = false := by rw [beq_eq_false_iff_ne]; omega
                by_cases h11 : op = 11
                · subst h11
                  obtain ⟨O, hO⟩ : ∃ O, shutP q = O := ⟨_, rfl⟩
                  obtain ⟨lb, hlb⟩ : ∃ lb, decide ((fn.body.drop (i + 1)).length = 0) = lb := ⟨_, rfl⟩
                  rw [hlb] at HLA HLB
                  have hO2 : stepP M fn lb q ⟨11, X1, Y1⟩ = shutK O lb := by
                    rw [← hO]
                    exact stepP_11 HSK.out
                  rw [hlb, hO2] at HXq
                  rw [hlb] at hstep
                  have HO2 : Hid _ := hO2
                  have hcc := shut_calls HP2.out HIq.out HQL.out HFR.out HQD.out
                  rw [hO] at hcc
                  clear hO hO2 hlb
                  go_wp2_with fail
                  refine hcc.mono ?_
                  intro en w3 hPO
                  obtain ⟨hk3, hPO⟩ := hPO
                  have HK3 : Hid _ := HK2.out.trans hk3
                  have q2' : w3.cell? ⟨fk, fo + 2, none⟩ = some (.slice ba2 nb nb) := by
                    rw [hk3.cell (p := ⟨fk, fo + 2, none⟩) (lt_of_cell q2) (by have := HFC2.out.le; unfold P2; dsimp only; omega)]; exact q2
                  cases O with
                  | none =>
                    obtain ⟨rfl, hpw⟩ := hPO
                    have HXr : Hid (Except.error i = X) := HXq.out
                    obtain ⟨dn, c51, hd7⟩ := hpw.depth
                    have HPW : Hid _ := hpw
                    clear hk3 HXq hstep b0 b1 b2 q0 q1 q2 q3 hpw
                    by_cases k0 : dn = 0
                    · subst k0
                      by_cases kl : i + 1 = nb
                      · have kb : ((i : Int) != (nb : Int) - 1) = false := by
                          have : (i : Int) = (nb : Int) - 1 := by omega
                          rw [← this]; simp
                        go_wp2
                        go_ret2
                        rw [← HXr.out]
                        exact ⟨HK3.out, rfl, HPW.out⟩
                      · have kb : ((i : Int) != (nb : Int) - 1) = true := by rw [bne_iff_ne]; omega
                        go_wp2
                        go_ret2
                        rw [← HXr.out]
                        exact ⟨HK3.out, rfl, HPW.out⟩
                    · have kb : ((dn : Int) == 0) = false := by rw [beq_eq_false_iff_ne]; omega
                      go_wp2
                      go_ret2
                      rw [← HXr.out]
                      exact ⟨HK3.out, rfl, HPW.out⟩
                  | some q' =>
                    obtain ⟨rfl, hp3⟩ := hPO
                    have c51 := hp3.cells.c51
                    have lC3 := hp3.cells.lC
                    have HP3 : Hid _ := hp3
                    unfold shutK at HXq HO2
                    dsimp only at HXq HO2
                    clear hk3 hp3 q0 q1 q2 q3 b0 b1 b2
                    obtain ⟨dn, hdn⟩ : ∃ dn, q'.ctl.length = dn := ⟨_, rfl⟩
                    rw [hdn] at c51 lC3 HXq HO2
                    clear hdn
                    by_cases k0 : dn = 0
                    · by_cases kl : i + 1 = nb
                      · have hlt := HLB.out kl
                        subst hlt
                        rw [if_neg (by simp)] at HXq HO2
                        have hS := hstep q' HO2.out
                        have HS : Hid _ := hS
                        have kb : ((i : Int) != (nb : Int) - 1) = false := by
                          have : (i : Int) = (nb : Int) - 1 := by omega
                          rw [← this]; simp
                        subst k0
                        clear hS hstep
                        go_wp2
                        go_light
                        exact ⟨⟨i + 1, q', by omega, by go_num, ⟨HP3.out, HS.out.pi, fun e => by first | exact HLA.out (HS.out.e e) | exact HLA.out trivial, by have := HS.out.n; omega, by have := HS.out.d; omega, HXq.out⟩, HK3.out⟩, by simp [intOf]; omega⟩
                      · have hlt : lb = false := by
                          cases lb with
                          | false => rfl
                          | true => exact absurd (HLA.out rfl) kl
                        subst hlt
                        rw [if_pos ⟨k0, rfl⟩] at HXq
                        have HXr : Hid (Except.error i = X) := HXq.out
                        have kb : ((i : Int) != (nb : Int) - 1) = true := by rw [bne_iff_ne]; omega
                        subst k0
                        clear hstep HXq
                        go_wp2
                        go_ret2
                        rw [← HXr.out]
                        exact ⟨HK3.out, rfl, HP3.out.pw⟩
                    · rw [if_neg (by simp [k0])] at HXq HO2
                      have hS := hstep q' HO2.out
                      have HS : Hid _ := hS
                      have kb : ((dn : Int) == 0) = false := by rw [beq_eq_false_iff_ne]; omega
                      clear hS hstep
                      go_wp2
                      go_light
                      exact ⟨⟨i + 1, q', by omega, by go_num, ⟨HP3.out, HS.out.pi, fun e => by first | exact HLA.out (HS.out.e e) | exact HLA.out trivial, by have := HS.out.n; omega, by have := HS.out.d; omega, HXq.out⟩, HK3.out⟩, by simp [intOf]; omega⟩
                · have hb11 : ((op : Int) == 11) = false := by rw [beq_eq_false_iff_ne]; omega
                  by_cases h12 : op = 12
                  · subst h12
                    obtain ⟨O, hO⟩ : ∃ O, brP q ⟨12, X1, Y1⟩ = O := ⟨_, rfl⟩
                    have hO2 : stepP M fn (decide ((fn.body.drop (i + 1)).length = 0)) q ⟨12, X1, Y1⟩ = O := by
                      rw [← hO]
                      unfold stepP
                      rw [HSK.out]
                      dsimp only
                      rw [if_neg (by omega), if_neg (by omega), if_neg (by omega), if_pos (by omega)]
                    have HO2 : Hid _ := hO2
                    have hcc := br_calls HP2.out HIq.out HQL.out ⟨12, X1, Y1⟩ HYO.out (by simp) HFR.out
                    rw [hO] at hcc
                    clear hO hO2
                    go_wp2_with fail
                    refine (hcc).mono ?_
                    intro en w3 hPO
                    obtain ⟨hk3, hPO⟩ := hPO
                    have HK3 : Hid _ := HK2.out.trans hk3
                    cases O with
                    | none =>
                      obtain ⟨rfl, hpw⟩ := hPO
                      rw [HO2.out] at HXq
                      dsimp only at HXq
                      clear hk3
                      go_wp2
                      go_ret2
                      rw [← HXq.out]
                      exact ⟨HK3.out, rfl, hpw⟩
                    | some q' =>
                      obtain ⟨rfl, hp3⟩ := hPO
                      rw [HO2.out] at HXq
                      dsimp only at HXq
                      have hS := hstep q' HO2.out
                      clear hk3
                      go_wp2
                      go_light
                      exact ⟨⟨i + 1, q', by omega, by go_num, ⟨hp3, hS.pi, fun e => HLA.out (hS.e e), by have := hS.n; omega, by have := hS.d; omega, HXq.out⟩, HK3.out⟩, by simp [intOf]; omega⟩
                  · have hb12 : ((op : Int) == 12) = false := by rw [beq_eq_false_iff_ne]; omega
                    by_cases h13 : op = 13
                    · subst h13
                      obtain ⟨O, hO⟩ : ∃ O, brP q ⟨13, X1, Y1⟩ = O := ⟨_, rfl⟩
                      have hO2 : stepP M fn (decide ((fn.body.drop (i + 1)).length = 0)) q ⟨13, X1, Y1⟩ = O := by
                        rw [← hO]
                        unfold stepP
                        rw [HSK.out]
                        dsimp only
                        rw [if_neg (by omega), if_neg (by omega), if_neg (by omega), if_pos (by omega)]
                      have HO2 : Hid _ := hO2
                      have hcc := br_calls HP2.out HIq.out HQL.out ⟨13, X1, Y1⟩ HYO.out (by simp) HFR.out
                      rw [hO] at hcc
                      clear hO hO2
                      go_wp2_with fail
                      refine (hcc).mono ?_
                      intro en w3 hPO
                      obtain ⟨hk3, hPO⟩ := hPO
                      have HK3 : Hid _ := HK2.out.trans hk3
                      cases O with
                      | none =>
                        obtain ⟨rfl, hpw⟩ := hPO
                        rw [HO2.out] at HXq
                        dsimp only at HXq
                        clear hk3
                        go_wp2
                        go_ret2
                        rw [← HXq.out]
                        exact ⟨HK3.out, rfl, hpw⟩
                      | some q' =>
                        obtain ⟨rfl, hp3⟩ := hPO
                        rw [HO2.out] at HXq
                        dsimp only at HXq
                        have hS := hstep q' HO2.out
                        clear hk3
                        go_wp2
                        go_light
                        exact ⟨⟨i + 1, q', by omega, by go_num, ⟨hp3, hS.pi, fun e => HLA.out (hS.e e), by have := hS.n; omega, by have := hS.d; omega, HXq.out⟩, HK3.out⟩, by simp [intOf]; omega⟩
                    · have hb13 : ((op : Int) == 13) = false := by rw [beq_eq_false_iff_ne]; omega
                      by_cases h14 : op = 14
                      · subst h14
                        obtain ⟨O, hO⟩ : ∃ O, tableP q ⟨14, X1, Y1⟩ fn.tabs = O := ⟨_, rfl⟩
                        have hO2 : stepP M fn (decide ((fn.body.drop (i + 1)).length = 0)) q ⟨14, X1, Y1⟩ = O := by
                          rw [← hO]
                          unfold stepP
                          rw [HSK.out]
                          dsimp only
                          rw [if_neg (by omega), if_neg (by omega), if_neg (by omega), if_neg (by omega), if_pos rfl]
                        have HO2 : Hid _ := hO2
                        obtain ⟨gg, hgg, hgR⟩ := HFC2.out.is
                        have hq3 : gg 3 = .slice ta2 fn.tabs.length fn.tabs.length := by
                          have := hgg 3 (by decide)
                          rw [q3] at this
                          exact (Option.some.inj this).symm
                        have hTab : TabAt w2 (mb + 1) (.slice ta2 fn.tabs.length fn.tabs.length) fn.tabs := by rw [← hq3]; exact hgR.2.2
                        have hy14 : tabY ⟨14, X1, Y1⟩ = Y1.toNat := if_pos rfl
                        rw [hy14] at hnq
                        have hcc : ∀ W, Kp (fun _ => False) w2 W → Calls Tryz.prog 160 #[.pointer (some ⟨pb, 0, none⟩), Ins.val ⟨14, X1, Y1⟩, .slice ta2 fn.tabs.length fn.tabs.length] W (PO pb cb x W O) := fun W hW => by
                          rw [← hO]
                          exact ptable_calls (ta := ta2) (n0 := mb + 1) (HP2.out.new hW) HIq.out ⟨14, X1, Y1⟩ HYO.out (.inl (by dsimp only; omega)) rfl HFR.out HQL.out (TabAt.keep hTab hW (fun k hk => hk.elim)) (by omega) HF.out.nt HF.out.tabs
                        have HCC : Hid _ := hcc
                        clear hO hO2 hgg hgR hq3 hTab hcc
                        go_wp2_with fail
                        go_region_with (go_at_call 160; refine (HCC.out _ (Kp.refl _ _).drew).mono ?_; intro en w3 hPO; obtain ⟨hk3, hPO⟩ := hPO; have HK3 : Hid _ := HK2.out.drew.trans hk3; clear hk3; have HPO : Hid _ := hPO; clear hPO; obtain ⟨bb, rfl⟩ : ∃ bb, en = .returned (.bool bb) := by { have h := HPO.out; cases O with | none => exact ⟨_, h.1⟩ | some q' => exact ⟨_, h.1⟩ })
                        all_goals
                          cases O with
                          | none =>
                            obtain ⟨hr, hpw⟩ := HPO.out
                            simp at hr
                            subst hr
                            have HXr : Hid (Except.error i = X) := by
                              have := HXq.out
                              rw [HO2.out] at this
                              exact this
                            clear HPO
                            go_wp2
                            go_ret2
                            rw [← HXr.out]
                            exact ⟨HK3.out, rfl, hpw⟩
                          | some q' =>
                            obtain ⟨hr, hp3⟩ := HPO.out
                            simp at hr
                            subst hr
                            have HXr : Hid (flatL M fn (fn.body.drop (i + 1)) (i + 1) q' = X) := by
                              have := HXq.out
                              rw [HO2.out] at this
                              exact this
                            have hS := hstep q' HO2.out
                            have hn := hS.n
                            rw [hy14] at hn
                            have HS : Hid _ := hS
                            clear HPO
                            go_wp2
                            go_light
                            exact ⟨⟨i + 1, q', by omega, by go_num, ⟨hp3, HS.out.pi, fun e => HLA.out (HS.out.e e), by omega, by have := HS.out.d; omega, HXr.out⟩, HK3.out⟩, by simp [intOf]; omega⟩
                      · have hb14 : ((op : Int) == 14) = false := by rw [beq_eq_false_iff_ne]; omega
                        by_cases h15 : op = 15
                        · subst h15
                          have hO2 : stepP M fn (decide ((fn.body.drop (i + 1)).length = 0)) q ⟨15, X1, Y1⟩ = some ⟨q.cells ++ [⟨15, 0, 0⟩], q.ctl, q.h, 1⟩ := by
                            unfold stepP
                            rw [HSK.out]
                            dsimp only
                            rw [if_neg (by omega), if_neg (by omega), if_neg (by omega), if_neg (by omega), if_neg (by omega), if_pos rfl]
                          have hS := hstep _ hO2
                          have HXr : Hid (flatL M fn (fn.body.drop (i + 1)) (i + 1) ⟨q.cells ++ [⟨15, 0, 0⟩], q.ctl, q.h, 1⟩ = X) := by
                            have := HXq.out
                            rw [hO2] at this
                            exact this
                          have HS : Hid _ := hS
                          obtain ⟨c0, c51, c52, c53, ff, g, fs, gs, lC, n, n0, pl, cl, ne⟩ := HP2.out.cells
                          have f0 := ff 0 (by decide)
                          have f53 := ff 53 (by decide)
                          obtain ⟨nc, hnc⟩ : ∃ nc, q.cells.length = nc := ⟨_, rfl⟩
                          have hql := HQL.out
                          rw [hnc] at c0 hql
                          obtain ⟨⟨v0, y0⟩, ⟨v1, y1⟩, ⟨v2, y2⟩⟩ : (∃ v, w2.cell? ⟨cb, nc * 3, none⟩ = some v) ∧ (∃ v, w2.cell? ⟨cb, nc * 3 + 1, none⟩ = some v) ∧ (∃ v, w2.cell? ⟨cb, nc * 3 + 2, none⟩ = some v) := ⟨gs _ (by omega), gs _ (by omega), gs _ (by omega)⟩
                          have z0 := g (nc * 3) (by omega)
                          have z1 := g (nc * 3 + 1) (by omega)
                          have z2 := g (nc * 3 + 2) (by omega)
                          have hPX := ((HP2.out.push hnc hql ⟨15, 0, 0⟩).setDead 1)
                          have HPX : Hid _ := hPX
                          have ne' := Ne.symm ne
                          clear hPX hS hO2 hstep HXq ff g fs gs lC n n0 c51 c52 hnc
                          go_wp2
                          go_light
                          exact ⟨⟨i + 1, ⟨q.cells ++ [⟨15, 0, 0⟩], q.ctl, q.h, 1⟩, by omega, by go_num, ⟨HPX.out.new ((Kp.refl _ _).alloc _), HS.out.pi, fun e => HLA.out (HS.out.e e), by have := HS.out.n; omega, by have := HS.out.d; omega, HXr.out⟩, (((((HK2.out.pc _).pc _).pc _).pp _).pp _).alloc _⟩, by simp [intOf]; omega⟩
                        · have hb15 : ((op : Int) == 15) = false := by rw [beq_eq_false_iff_ne]; omega
                          obtain ⟨O, hO⟩ : ∃ O, plainP M q ⟨op, X1, Y1⟩ = O := ⟨_, rfl⟩
                          have hO2 : stepP M fn (decide ((fn.body.drop (i + 1)).length = 0)) q ⟨op, X1, Y1⟩ = O := by
                            rw [← hO]
                            unfold stepP
                            rw [HSK.out]
                            dsimp only
                            rw [if_neg (by omega), if_neg (by omega), if_neg (by omega), if_neg (by omega), if_neg (by omega), if_neg (by omega)]
                          have HO2 : Hid _ := hO2
                          have hcc := pplain_calls HO.out (HM.out.keep HK2.out (fun k hk => by unfold P2 at hk; omega)) HP2.out hlt HIq.out HQL.out ⟨op, X1, Y1⟩ HYO.out HFR.out
                          rw [hO] at hcc
                          clear hO hO2
                          go_wp2_with fail
                          refine (hcc).mono ?_
                          intro en w3 hPO
                          obtain ⟨hk3, hPO⟩ := hPO
                          have HK3 : Hid _ := HK2.out.trans hk3
                          cases O with
                          | none =>
                            obtain ⟨rfl, hpw⟩ := hPO
                            rw [HO2.out] at HXq
                            dsimp only at HXq
                            clear hk3
                            go_wp2
                            go_ret2
                            rw [← HXq.out]
                            exact ⟨HK3.out, rfl, hpw⟩
                          | some q' =>
                            obtain ⟨rfl, hp3⟩ := hPO
                            rw [HO2.out] at HXq
                            dsimp only at HXq
                            have hS := hstep q' HO2.out
                            clear hk3
                            go_wp2
                            go_light
                            exact ⟨⟨i + 1, q', by omega, by go_num, ⟨hp3, hS.pi, fun e => HLA.out (hS.e e), by have := hS.n; omega, by have := hS.d; omega, HXq.out⟩, HK3.out⟩, by simp [intOf]; omega⟩
    · have hin : i = nb := by omega
      subst hin
      rw [List.drop_of_length_le (by rw [HNB.out]; exact Nat.le_refl _), flatL] at hXq
      have c51 := hPq.cells.c51
      have lC3 := hPq.cells.lC
      have HPq : Hid _ := hPq
      have HXq : Hid _ := hXq
      obtain ⟨dn, hdn⟩ : ∃ dn, q.ctl.length = dn := ⟨_, rfl⟩
      rw [hdn] at c51 lC3 HXq
      clear hPq hXq hIq hcq hnq HQ bat tat hfc1 hdn
      by_cases k0 : dn = 0
      · rw [if_pos k0] at HXq
        subst k0
        go_wp2
        go_ret2
        rw [← HXq.out]
        exact ⟨HK.out, rfl, HPq.out⟩
      · rw [if_neg k0] at HXq
        have kb : ((dn : Int) != 0) = true := by rw [bne_iff_ne]; omega
        go_wp2
        go_ret2
        rw [← HXq.out]
        exact ⟨HK.out, rfl, HPq.out.pw⟩
end
end Go.Proofs.Qxb6500275aGreatDoor
