import Derived.Test.Qxb6500275aGreatDoorVp1
set_option maxRecDepth 1000000
set_option linter.unusedVariables false
set_option linter.unusedSimpArgs false
namespace Go.Proofs.Qxb6500275aGreatDoor
open Go Go.RowKit
set_option maxHeartbeats 8000000 in
theorem parts_l2 {w0 w1 : World} {mb : Nat} {m : MT} {nf : Nat} {X : Option (Nat × Int)} {tmps : Array Value} {Q : Exit → Act → World → Prop} (hM : ModOk m.mod) (hm : Mw w0 mb m) (hk : Kp (fun _ => False) w0 w1) 
    (ht : tmps = fr188 (.pointer (some ⟨mb, 0, none⟩)) (.int .i64 (nf : Int)) (fun j => tmps.getD j undef)) (h0 : tmps.getD 6 undef = .int .i64 0) (hX : typesV m.mod m.fs.length m.imports.length = X) (hE : On188 w0 mb nf 2 (X = none) Q) (hR : Ho188 w0 X Q) :
    Code.wp Tryz.prog (.loop ((((Tryz.f188.body.map lpsOf).getD [])[1]?).getD .skip)) Q ⟨tmps, []⟩ w1 := by
  have HM : Hid (ModOk m.mod) := hM
  have HW : Hid (Mw w0 mb m) := hm
  have HK0 : Hid (Kp (fun _ => False) w0 w1) := hk
  have HE : Hid (On188 w0 mb nf 2 (X = none) Q) := hE
  have HR : Hid (Ho188 w0 X Q) := hR
  have HX : Hid (typesV m.mod m.fs.length m.imports.length = X) := hX
  clear hM hm hk hE hR hX
  generalize (fun j => tmps.getD j undef) = u at ht
  have h0' : u 6 = .int .i64 0 := by rw [ht] at h0; exact h0
  clear h0
  subst ht
  unfold fr188
  dsimp only
  rw [h0']
  conv => arg 2; arg 1; whnf
  obtain ⟨n, hn⟩ : ∃ n, m.fs.length = n := ⟨_, rfl⟩
  have HN : Hid (m.fs.length = n) := hn
  have k1 : n ≤ 8 := by
    have := HM.out.nf; rw [show m.mod.funcs.length = m.fs.length by unfold MT.mod; simp] at this
    omega
  obtain ⟨ni, hni⟩ : ∃ n, m.imports.length = n := ⟨_, rfl⟩
  have HNI : Hid (m.imports.length = ni) := hni
  have k3 : ni ≤ 4 := hni ▸ HM.out.ni
  obtain ⟨nt, hnt⟩ : ∃ n, m.types.length = n := ⟨_, rfl⟩
  have HNT : Hid (m.types.length = nt) := hnt
  have k2 : nt ≤ 8 := hnt ▸ HM.out.nt
  rw [hn, hni] at HX
  clear hn hnt hni
  go_loopw [6] (fun ii u1 => ∃ (i : Nat), i ≤ n ∧ ii = .int .i64 i ∧ Hid (Kp (fun _ => False) w0 u1) ∧ Hid (typesV m.mod (n - i) (ni + i) = X)) (fun ii _ => n + 1 - (intOf ii).toNat)
  case atStart => exact ⟨0, by omega, rfl, HK0.out, HX.out⟩
  case round =>
    clear HK0 HX
    obtain ⟨i, hi, rfl, HK, HT⟩ := hrel
    have HWu : Hid (Mw _ mb m) := HW.out.keep HK.out (fun _ _ h => h)
    obtain ⟨la, lc, hlv⟩ := HWu.out.slFn
    have cL := HWu.out.c2
    rw [hlv, HN.out] at cL
    obtain ⟨ta, tc, htv⟩ := HWu.out.slTy
    have c0 := HWu.out.c0
    rw [htv, HNT.out] at c0
    obtain ⟨ia, ic, hiv⟩ := HWu.out.slIm
    have c1 := HWu.out.c1
    rw [hiv, HNI.out] at c1
    by_cases hlt : i < n
    · obtain ⟨x, hx⟩ : ∃ x, m.fs[i]? = some x := ⟨_, List.getElem?_eq_getElem (by rw [HN.out]; exact hlt)⟩
      obtain ⟨g, cap, gv, g1, g2, g3, gc⟩ := HWu.out.atFn hx
      rw [hlv] at gv
      simp at gv
      obtain ⟨rfl, rfl⟩ := gv
      have hib : (i : Int) < (n : Int) := by omega
      have ct := gc 0 (.int .i64 x.1.ty) rfl
      rw [Nat.add_zero] at ct
      have hty := (HM.out.funcs x.1 (by unfold MT.mod; exact List.mem_map.2 ⟨x, List.mem_of_getElem? hx, rfl⟩)).ty
      have hso : (m.mod.typeOf ((ni + i : Nat) : Int)).isSome = decide (x.1.ty < (nt : Int)) := by rw [← HNI.out, typeOf_fn hx, typeAt_some hty.1, HNT.out]
      obtain ⟨z, hz⟩ : ∃ z, x.1.ty = z := ⟨_, rfl⟩
      rw [hz] at ct hty hso
      have hT := HT.out
      rw [show n - i = (n - (i + 1)) + 1 by omega, typesV, hso] at hT
      unfold u32R at hty
      have hz0 : decide (z < 0) = false := decide_eq_false (by omega)
      clear HT hso hz hx gc hlv htv hiv
      by_cases hzt : z < (nt : Int)
      · rw [if_pos (by simpa using hzt)] at hT
        have HT2 : Hid _ := hT
        have hzi : decide ((nt : Int) ≤ z) = false := decide_eq_false (by omega)
        clear hT
        go_wp2_with fail
        go_quiet (fail)
        go_wp2_with fail
        go_roundw
        case rel => exact ⟨i + 1, by omega, by go_num, HK.out.drewM _, HT2.out⟩
        case measure => simp [intOf]; omega
      · rw [if_neg (by simpa using hzt)] at hT
        have HT2 : Hid _ := hT
        have hzi : decide ((nt : Int) ≤ z) = true := decide_eq_true (by omega)
        clear hT
        go_wp2_with fail
        go_quiet (fail)
        go_wp2_with fail
        exact HR.out _ _ (ni + i) 14 HT2.out.symm (by show (Value.int .i64 _ : Value) = _; rw [Int.natCast_add]) rfl (HK.out.drewM _)
    · have hin : i = n := by omega
      subst hin
      have hib : decide ((i : Int) < (i : Int)) = false := decide_eq_false (by omega)
      have hT := HT.out
      rw [Nat.sub_self] at hT
      have HT2 : Hid (X = none) := hT.symm
      clear hT HT hlv htv hiv
      go_wp2_with fail
      exact HE.out _ _ (by kernel_rfl) HK.out HT2.out
end Go.Proofs.Qxb6500275aGreatDoor
