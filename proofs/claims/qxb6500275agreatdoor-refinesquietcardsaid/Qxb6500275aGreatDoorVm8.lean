import Derived.Test.Qxb6500275aGreatDoorVm7
set_option maxRecDepth 1000000
set_option linter.unusedVariables false
set_option linter.unusedSimpArgs false
namespace Go.Proofs.Qxb6500275aGreatDoor
open Go Go.RowKit
section
variable {w wr w' : World} {cb mb gf fo : Nat} {m : MT} {fn : Fn} {vb vt lv : Value} {labs : List ByteArray} {loc resF : ByteArray} {er : Int} {a : Nat} {E : Env189} {pc : Nat} {st : ByteArray} {p : Bool} {x : Ins}
theorem last_res (hO : Ok189 E) : ((E.v st p).ctl.getLastD VF.zero).res = firstV E.resF := by
  rw [← hO.bot]
  unfold Env189.v mkV
  cases E.r with
  | nil => rfl
  | cons g gs =>
    obtain ⟨z, hz⟩ : ∃ z, (g :: gs).getLast? = some z := ⟨_, List.getLast?_eq_some_getLast (List.cons_ne_nil g gs)⟩
    simp [hz]
theorem step_ret (hO : Ok189 E) (ho : x.op = 15) : stepV E.m.mod E.fn E.params pc (E.v st p) x = if (popsS p (argsV E.resF) st).2 = true then (E.v ByteArray.empty true, none) else (E.v (popsS p (argsV E.resF) st).1 p, some (pc, 27)) := by
  have hc : carryV (E.v st p) ((E.v st p).ctl.getLastD VF.zero).res = (E.v (popsS p (argsV E.resF) st).1 p, (popsS p (argsV E.resF) st).2) := by
    rw [last_res hO]
    exact carry_text hO.resF
  unfold stepV
  rw [if_neg (by omega), if_neg (by omega), if_neg (by omega), if_neg (by omega), if_neg (by omega), if_neg (by omega), if_neg (by omega), if_neg (by omega), if_neg (by omega), if_pos ho, hc]
  dsimp only
  rw [show cutV (E.v (popsS p (argsV E.resF) st).1 p) = E.v ByteArray.empty true from cut_mk]
set_option maxHeartbeats 8000000 in
theorem c189_ret (ho : x.op = 15) : Case189 E pc st p x := by
  intro wr a c u Q hO hS hx hu1 hu14 hu15 hst hrun hN hNe hH
  obtain ⟨kb, nb, bc, hd⟩ := rd189 hO hS hx
  obtain ⟨c1, c4, f2, d0, d1, d2, hpn, ⟨hnb, hnbe⟩, hA, hX⟩ := hd
  have hlevp : ¬ ((E.lev : Int) ≤ 0) := by have := hO.lev.2; omega
  have HO : Hid _ := hO
  have HN : Hid (Next189 E pc c Q) := hN
  have HNe : Hid (Nerr189 E c Q) := hNe
  have HH : Hid (Home189 E pc Q) := hH
  have HA : Hid _ := hA
  have HX : Hid (E.fn.body[pc]? = some x) := hx
  have HRun : Hid (E.run pc st p) := hrun
  have HI : Hid _ := hX
  have c3 := hS.ck.c3
  clear hO hN hNe hH hA hS hx hnbe hrun hX
  have hS := step_ret (pc := pc) (st := st) (p := p) HO.out ho
  have hr10 := HO.out.rest
  have hres1 := HO.out.resF.1
  obtain ⟨op, X1, Y1⟩ := x
  dsimp only at ho d0 d1 d2
  subst ho
  have c3a : (wr.alloc (.cells #[.int .u8 15, .int .u32 X1, .int .u64 Y1] 129)).cell? ⟨E.cb, 3, none⟩ = some (.string E.resF) := HA.out.ck.c3
  have HP := vpops_m (w := wr.alloc (.cells #[.int .u8 15, .int .u32 X1, .int .u64 Y1] 129)) st p E.resF (by omega) (by omega)
  obtain ⟨ps, hpe⟩ : ∃ ps, popsS p (argsV E.resF) st = ps := ⟨_, rfl⟩
  rw [hpe] at HP hS
  obtain ⟨s1, ok⟩ := ps
  dsimp only at hS
  have HV := vfail_m HA.out.ck 27 pc
  clear hpe
  have hdeep : ¬ ((10 : Int) < (E.rest.length : Int)) := by omega
  unfold Env189.fr fr189
  rw [hu1, hu14, hu15]
  cases ok with
  | true =>
    have HR2 : Hid (E.run (pc + 1) ByteArray.empty true) := Env189.next HRun.out HX.out hS
    clear hS HV
    conv => arg 2; whnf
    go_wp2_with fail
    refine HP.mono ?_
    rintro en w2 ⟨rfl, rfl⟩
    unfold encP2
    go_wp2
    exact HN.out _ _ (pc + 1) (⟨#[]⟩ ++ ⟨#[]⟩) true a (by kernel_rfl) rfl rfl rfl HA.out (by omega) (by rw [ba_nil]; exact hr10) (by rw [ba_nil]; exact HR2.out)
  | false =>
    have HE : Hid (E.X.2 = (pc, 27)) := Env189.stop HRun.out HX.out hS
    clear hS
    conv => arg 2; whnf
    go_wp2_with fail
    refine HP.mono ?_
    rintro en w2 ⟨rfl, rfl⟩
    unfold encP2
    go_wp2_with fail
    refine HV.mono ?_
    rintro en w3 ⟨rfl, hC3, hK3⟩
    have HS3 : Hid _ := HA.out.err hK3 hC3
    clear hC3 hK3
    go_wp2
    exact home_err HH.out rfl rfl HS3.out (by decide) HE.out
end
end Go.Proofs.Qxb6500275aGreatDoor
