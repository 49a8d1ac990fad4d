import Derived.Test.Qxb6500275aGreatDoorVb6
import Derived.Test.Qxb6500275aGreatDoorCtl
set_option maxRecDepth 1000000
set_option linter.unusedVariables false
set_option linter.unusedSimpArgs false
namespace Go.Proofs.Qxb6500275aGreatDoor
open Go Go.RowKit
section
variable {w w1 : World} {vb mb fk fo : Nat} {M : Mod} {fn : Fn} {params : ByteArray} {pc : Nat} {v : VS} {x : Ins} {f : VF} {r : List VF}
theorem fitsW (h : Vd w1 vb v) (hw : VW v f r) (t : Nat) (ht : t < 256) : Calls Tryz.prog 152 #[.pointer (some ⟨vb, 0, none⟩), .int .u8 t] w1 (VC vb w1 (.bool (fitsV v t)) v) := by
  obtain ⟨o, rfl, h1, h2⟩ := hw.is
  exact fits_calls h h1 h2 t ht
/- where the table's loop may end -/
def Brk84 (w : World) (vb mb fk fo : Nat) (M : Mod) (fn : Fn) (params : ByteArray) (pc : Nat) (c : Nat → Value) (s : VO) (Q : Exit → Act → World → Prop) : Prop :=
  ∀ tmps w' v', s = (v', none) → tmps = fr84 (.pointer (some ⟨vb, 0, none⟩)) (.pointer (some ⟨mb, 0, none⟩)) (.pointer (some ⟨fk, fo, none⟩)) (.string params) c (fun i => tmps.getD i undef) → tmps.getD 10 undef = .int .i64 pc → SB w w' vb mb fk fo M fn v' → Q (.exit 1) ⟨tmps, []⟩ w'
/- the table's loop, amid it -/
structure Tb84 (w w1 : World) (vb mb fk fo : Nat) (M : Mod) (fn : Fn) (params : ByteArray) (pc last d0 : Nat) (c : Nat → Value) (S : VO) (v : VS) (m : Nat) (a : Act) : Prop where
  sb : SB w w1 vb mb fk fo M fn v
  is : ∃ (i : Nat) (u : Nat → Value), a = ⟨fr84 (.pointer (some ⟨vb, 0, none⟩)) (.pointer (some ⟨mb, 0, none⟩)) (.pointer (some ⟨fk, fo, none⟩)) (.string params) c u, []⟩ ∧ u 10 = .int .i64 pc ∧ u 17 = .int .i64 last ∧ u 18 = .int .u8 d0 ∧ u 19 = .int .i64 i ∧ i + m = last ∧ Hid (S = tableV v pc fn.tabs (decide (d0 = 64)) (m + 1) i)
theorem Tb84.lay {c : Nat → Value} {S : VO} {last d0 m i : Nat} {tmps : Array Value} (hB : SB w w1 vb mb fk fo M fn v) (ht : tmps = fr84 (.pointer (some ⟨vb, 0, none⟩)) (.pointer (some ⟨mb, 0, none⟩)) (.pointer (some ⟨fk, fo, none⟩)) (.string params) c (fun i => tmps.getD i undef)) (h10 : tmps.getD 10 undef = .int .i64 pc) (h17 : tmps.getD 17 undef = .int .i64 last) (h18 : tmps.getD 18 undef = .int .u8 d0) (h19 : tmps.getD 19 undef = .int .i64 i) (him : i + m = last) (HS : Hid (S = tableV v pc fn.tabs (decide (d0 = 64)) (m + 1) i)) : Tb84 w w1 vb mb fk fo M fn params pc last d0 c S v m ⟨tmps, []⟩ :=
  ⟨hB, i, fun i => tmps.getD i undef, by rw [← ht], h10, h17, h18, h19, him, HS⟩
set_option maxHeartbeats 8000000 in
theorem tb84_round {c : Nat → Value} {S : VO} {last d0 m : Nat} {a : Act} {Q : Exit → Act → World → Prop} (hI : VI v) (hcn : v.ctl ≠ []) (hF : FnOk fn) (hl : last < fn.tabs.length) (hd0 : d0 < 256) (hN : Brk84 w vb mb fk fo M fn params pc c S Q) (hR : Home84 w vb mb fk fo M fn S Q) (h : Tb84 w w1 vb mb fk fo M fn params pc last d0 c S v m a) :
    Code.wp Tryz.prog (((Tryz.f84.body.bind firstLoop).bind firstLoop).getD .skip) (Exit.then (fun a' w' => ∃ m', m' < m ∧ Tb84 w w' vb mb fk fo M fn params pc last d0 c S v m' a') Q) a w1 := by
  obtain ⟨hB, i, u, rfl, hu10, hu17, hu18, hu19, him, HS⟩ := h
  obtain ⟨f, r, hctl, hw⟩ := hI.vw hcn
  obtain ⟨ba, ta, c0, c1, c2, c3, bat, tat⟩ := hB.fn.cells
  obtain ⟨T, hT⟩ : ∃ T, fn.tabs[i]? = some T := ⟨_, List.getElem?_eq_getElem (by omega)⟩
  obtain ⟨kt, rfl, ct⟩ := tat i T hT
  have hTr := hF.tabs T (List.mem_of_getElem? hT)
  unfold u32R at hTr
  obtain ⟨T, rfl⟩ := Int.eq_ofNat_of_zero_le hTr.1
  have hgd : fn.tabs.getD i 0 = (T : Int) := by rw [List.getD_eq_getElem?_getD, hT]; rfl
  rw [tableV, hgd] at HS
  rw [Int.toNat_natCast] at HS
  obtain ⟨b11, g11, b40, g40, lO, lC⟩ := hB.sv.vd.n
  obtain ⟨d, hd⟩ : ∃ d, v.ctl.length = d := ⟨_, rfl⟩
  rw [hd] at b40 lC HS
  have HD : Hid _ := hd
  obtain ⟨nt, hnt⟩ : ∃ nt, fn.tabs.length = nt := ⟨_, rfl⟩
  rw [hnt] at c3 hl
  have hit : (i : Int) < (nt : Int) := by omega
  have hnt2 : nt ≤ 24 := by rw [← hnt]; exact hF.nt
  have HA : Hid _ := hB
  have HI : Hid _ := hI
  have HW : Hid _ := hw
  have HN : Hid (Brk84 w vb mb fk fo M fn params pc c S Q) := hN
  have HR : Hid (Home84 w vb mb fk fo M fn S Q) := hR
  clear hB hI hcn hF hd hw hctl hgd hT bat tat c0 c1 c2 hnt b11 g11 g40 hN hR
  by_cases hX : d ≤ T
  · rw [if_pos (by omega)] at HS
    have i1 : (d : Int) ≤ (T : Int) := by omega
    unfold fr84
    rw [hu10, hu17, hu18, hu19]
    conv => arg 2; whnf
    go_wp2_with fail
    go_quiet (fail)
    go_wp2
    exact HR.out _ _ v pc 25 HS.out rfl rfl (HA.out.new ((Kp.refl _ _).drewM _))
  · rw [if_neg (by omega)] at HS
    have i1 : decide ((d : Int) ≤ (T : Int)) = false := decide_eq_false (by omega)
    have hXd : T < v.ctl.length := by rw [HD.out]; omega
    have hlb := labelV_lt HI.out T hXd
    have hlc := fun (w' : World) (hv : Vd w' vb v) => label_calls hv T hXd
    generalize labelV v T = t at *
    have hfc := fun (w' : World) (hv : Vd w' vb v) => fitsW hv HW.out t hlb
    generalize fitsV v t = fb at *
    clear hXd
    obtain ⟨bt, hbt⟩ : ∃ bt, decide (t = 64) = bt := ⟨_, rfl⟩
    obtain ⟨bd, hbd⟩ : ∃ bd, decide (d0 = 64) = bd := ⟨_, rfl⟩
    have ebt : ((t : Int) == 64) = bt := by
      rw [← hbt]
      by_cases e : t = 64
      · subst e; rfl
      · rw [decide_eq_false e, beq_eq_false_iff_ne]; omega
    have ebd : ((d0 : Int) == 64) = bd := by
      rw [← hbd]
      by_cases e : d0 = 64
      · subst e; rfl
      · rw [decide_eq_false e, beq_eq_false_iff_ne]; omega
    rw [hbt, hbd] at HS
    have HBD : Hid _ := hbd
    clear hbt hbd
    unfold fr84
    rw [hu10, hu17, hu18, hu19]
    conv => arg 2; whnf
    go_wp2_with fail
    go_quiet (fail)
    have hkt : kt < w1.heap.size := lt_of_cell ct
    go_wp2_with fail
    refine (hlc _ (HA.out.new ((Kp.refl _ _).drewM _)).sv.vd).mono ?_
    rintro en w2 ⟨rfl, hv2, hk2⟩
    have HA2 : Hid _ := (HA.out.new ((Kp.refl _ _).drewM _)).step hk2 hv2
    clear hlc hv2 hk2 HA b40 c3 ct
    cases bt <;> cases bd
    · rw [if_neg (by decide)] at HS
      go_wp2_with fail
      refine (hfc _ HA2.out.sv.vd).mono ?_
      rintro en w3 ⟨rfl, hv3, hk3⟩
      have HA3 : Hid _ := HA2.out.step hk3 hv3
      clear hfc hv3 hk3 HA2
      cases fb with
      | false =>
        rw [if_neg (by decide)] at HS
        go_wp2
        exact HR.out _ _ v pc 27 HS.out rfl rfl HA3.out
      | true =>
        rw [if_pos rfl] at HS
        by_cases hlast : m = 0
        · subst hlast
          have hil : i = last := by omega
          subst hil
          rw [tableV] at HS
          go_wp2_with fail
          refine (cutW HA3.out.sv.vd HW.out).mono ?_
          rintro en w4 ⟨rfl, hv4, hk4⟩
          go_wp2
          exact HN.out _ _ _ HS.out (by kernel_rfl) rfl (HA3.out.step hk4 hv4)
        · have hil : ((i : Int) == (last : Int)) = false := by rw [beq_eq_false_iff_ne]; omega
          obtain ⟨m', rfl⟩ : ∃ m', m = m' + 1 := ⟨m - 1, by omega⟩
          go_wp2
          rw [← HBD.out] at HS
          exact ⟨m', by omega, Tb84.lay (i := i + 1) HA3.out (by kernel_rfl) rfl rfl rfl rfl (by omega) HS⟩
    · rw [if_pos (by decide)] at HS
      go_wp2
      exact HR.out _ _ v pc 27 HS.out rfl rfl HA2.out
    · rw [if_pos (by decide)] at HS
      go_wp2
      exact HR.out _ _ v pc 27 HS.out rfl rfl HA2.out
    · rw [if_neg (by decide)] at HS
      go_wp2_with fail
      refine (hfc _ HA2.out.sv.vd).mono ?_
      rintro en w3 ⟨rfl, hv3, hk3⟩
      have HA3 : Hid _ := HA2.out.step hk3 hv3
      clear hfc hv3 hk3 HA2
      cases fb with
      | false =>
        rw [if_neg (by decide)] at HS
        go_wp2
        exact HR.out _ _ v pc 27 HS.out rfl rfl HA3.out
      | true =>
        rw [if_pos rfl] at HS
        by_cases hlast : m = 0
        · subst hlast
          have hil : i = last := by omega
          subst hil
          rw [tableV] at HS
          go_wp2_with fail
          refine (cutW HA3.out.sv.vd HW.out).mono ?_
          rintro en w4 ⟨rfl, hv4, hk4⟩
          go_wp2
          exact HN.out _ _ _ HS.out (by kernel_rfl) rfl (HA3.out.step hk4 hv4)
        · have hil : ((i : Int) == (last : Int)) = false := by rw [beq_eq_false_iff_ne]; omega
          obtain ⟨m', rfl⟩ : ∃ m', m = m' + 1 := ⟨m - 1, by omega⟩
          go_wp2
          rw [← HBD.out] at HS
          exact ⟨m', by omega, Tb84.lay (i := i + 1) HA3.out (by kernel_rfl) rfl rfl rfl rfl (by omega) HS⟩
theorem tb84_loop {c : Nat → Value} {S : VO} {last d0 m : Nat} {a : Act} {Q : Exit → Act → World → Prop} (hI : VI v) (hcn : v.ctl ≠ []) (hF : FnOk fn) (hl : last < fn.tabs.length) (hd0 : d0 < 256) (hN : Brk84 w vb mb fk fo M fn params pc c S Q) (hR : Home84 w vb mb fk fo M fn S Q) (h : Tb84 w w1 vb mb fk fo M fn params pc last d0 c S v m a) :
    Code.wp Tryz.prog (.loop (((Tryz.f84.body.bind firstLoop).bind firstLoop).getD .skip)) Q a w1 :=
  wp_loop_n (fun m a w1 => Tb84 w w1 vb mb fk fo M fn params pc last d0 c S v m a) (fun n a w1 h => tb84_round hI hcn hF hl hd0 hN hR h) m h
end
end Go.Proofs.Qxb6500275aGreatDoor
