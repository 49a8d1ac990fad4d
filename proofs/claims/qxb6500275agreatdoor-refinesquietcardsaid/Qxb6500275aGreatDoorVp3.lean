import Derived.Test.Qxb6500275aGreatDoorVp1
set_option maxRecDepth 1000000
set_option linter.unusedVariables false
set_option linter.unusedSimpArgs false
namespace Go.Proofs.Qxb6500275aGreatDoor
open Go Go.RowKit
set_option maxHeartbeats 8000000 in
theorem parts_l3 {w0 w1 : World} {mb : Nat} {m : MT} {nf : Nat} {X : Option (Nat × Int)} {tmps : Array Value} {Q : Exit → Act → World → Prop} (hM : ModOk m.mod) (hm : Mw w0 mb m) (hk : Kp (fun _ => False) w0 w1) 
    (ht : tmps = fr188 (.pointer (some ⟨mb, 0, none⟩)) (.int .i64 (nf : Int)) (fun j => tmps.getD j undef)) (h0 : tmps.getD 7 undef = .int .i64 0) (hX : globsV m.globals 0 = X) (hE : On188 w0 mb nf 4 (X = none) Q) (hR : Ho188 w0 X Q) :
    Code.wp Tryz.prog (.loop ((((Tryz.f188.body.map lpsOf).getD [])[2]?).getD .skip)) Q ⟨tmps, []⟩ w1 := by
  have HM : Hid (ModOk m.mod) := hM
  have HW : Hid (Mw w0 mb m) := hm
  have HK0 : Hid (Kp (fun _ => False) w0 w1) := hk
  have HE : Hid (On188 w0 mb nf 4 (X = none) Q) := hE
  have HR : Hid (Ho188 w0 X Q) := hR
  have HX : Hid (globsV m.globals 0 = X) := hX
  clear hM hm hk hE hR hX
  generalize (fun j => tmps.getD j undef) = u at ht
  have h0' : u 7 = .int .i64 0 := by rw [ht] at h0; exact h0
  clear h0
  subst ht
  unfold fr188
  dsimp only
  rw [h0']
  conv => arg 2; arg 1; whnf
  obtain ⟨n, hn⟩ : ∃ n, m.globals.length = n := ⟨_, rfl⟩
  have HN : Hid (m.globals.length = n) := hn
  have k1 : n ≤ 8 := by
    have := HM.out.ng; rw [show m.mod.globals.length = m.globals.length from rfl] at this
    omega
  clear hn
  go_loopw [7] (fun ii u1 => ∃ (i : Nat), i ≤ n ∧ ii = .int .i64 i ∧ Hid (Kp (fun _ => False) w0 u1) ∧ Hid (globsV (m.globals.drop i) i = X)) (fun ii _ => n + 1 - (intOf ii).toNat)
  case atStart => exact ⟨0, by omega, rfl, HK0.out, HX.out⟩
  case round =>
    clear HK0 HX
    obtain ⟨i, hi, rfl, HK, HT⟩ := hrel
    have HWu : Hid (Mw _ mb m) := HW.out.keep HK.out (fun _ _ h => h)
    obtain ⟨la, lc, hlv⟩ := HWu.out.slGl
    have cL := HWu.out.c7
    rw [hlv, HN.out] at cL
    by_cases hlt : i < n
    · obtain ⟨x, hx⟩ : ∃ x, m.globals[i]? = some x := ⟨_, List.getElem?_eq_getElem (by rw [HN.out]; exact hlt)⟩
      obtain ⟨g, cap, gv, g1, g2, g3, gc⟩ := HWu.out.atGl hx
      rw [hlv] at gv
      simp at gv
      obtain ⟨rfl, rfl⟩ := gv
      have hib : (i : Int) < (n : Int) := by omega
      have z0 := gc 0 (.int .u8 (x.ty : Int)) rfl
      rw [Nat.add_zero] at z0
      have z2 := gc 2 (.int .u8 (x.init.op : Int)) rfl
      have z3 := gc 3 (.int .u32 x.init.x) rfl
      have z4 := gc 4 (.int .u64 x.init.y) rfl
      have hok := HM.out.globals x (List.mem_of_getElem? hx)
      have hop : x.init.op < 256 := by have := hok.init.op; omega
      have hty := hok.ty
      unfold isVal at hty
      have hT := HT.out
      rw [dropC hx, globsV, ← constT_V] at hT
      have HCT := fun (u : World) => constType_m (w := u) x.init hop
      unfold Ins.val at HCT
      obtain ⟨gty, gmu, ⟨gop, gx, gy⟩⟩ := x
      dsimp only at z0 z2 z3 z4 hop hty hT HCT
      obtain ⟨ct, hct⟩ : ∃ c, constT gop = c := ⟨_, rfl⟩
      rw [hct] at hT HCT
      clear HT hx gc hlv hct hok
      have HK9 : Hid _ := HK.out
      by_cases he : ct = gty
      · rw [if_pos he] at hT
        have HT2 : Hid _ := hT
        subst he
        clear hT
        go_wp2_with fail
        obtain ⟨I, F, ⟨i0, hi0⟩, hF1, hF2⟩ := kpF wr
        have hne9 : Nonempty I := ⟨i0⟩
        have fq0 := cellF hF1 cL
        have fq1 := cellF hF1 z0
        have fq2 := cellF hF1 z2
        have fq3 := cellF hF1 z3
        have fq4 := cellF hF1 z4
        have hcal := fun i => HCT (F i)
        have HF1 : Hid _ := hF1
        have HF2 : Hid _ := hF2
        clear hF1 hF2
        refine wp_region_F (by kernel_rfl) (by kernel_rfl) ⟨i0, hi0⟩ ?_
        clear hi0
        repeat (go_big_quiet_step ((go_at_call 250; exact Calls.F HF2.out (hcal _))))
        refine wpQuiet_nil ?_
        rintro _ ⟨i9, rfl⟩
        have HK6 : Hid _ := HK9.out.trans (HF1.out i9)
        clear hcal HF1 HF2 fq0 fq1 fq2 fq3 fq4
        generalize F i9 = w6 at HK6 ⊢
        clear hne9 i0 i9 F I
        go_wp2_with fail
        go_roundw
        case rel => exact ⟨i + 1, by omega, by go_num, HK6.out, HT2.out⟩
        case measure => simp [intOf]; omega
      · rw [if_neg he] at hT
        have HT2 : Hid _ := hT
        have hq0 : ((ct : Int) == (gty : Int)) = false := by rw [beq_eq_false_iff_ne]; omega
        have hq1 : ((ct : Int) != (gty : Int)) = true := by simp [bne, hq0]
        clear hT he
        go_wp2_with fail
        obtain ⟨I, F, ⟨i0, hi0⟩, hF1, hF2⟩ := kpF wr
        have hne9 : Nonempty I := ⟨i0⟩
        have fq0 := cellF hF1 cL
        have fq1 := cellF hF1 z0
        have fq2 := cellF hF1 z2
        have fq3 := cellF hF1 z3
        have fq4 := cellF hF1 z4
        have hcal := fun i => HCT (F i)
        have HF1 : Hid _ := hF1
        have HF2 : Hid _ := hF2
        clear hF1 hF2
        refine wp_region_F (by kernel_rfl) (by kernel_rfl) ⟨i0, hi0⟩ ?_
        clear hi0
        repeat (go_big_quiet_step ((go_at_call 250; exact Calls.F HF2.out (hcal _))))
        refine wpQuiet_nil ?_
        rintro _ ⟨i9, rfl⟩
        have HK6 : Hid _ := HK9.out.trans (HF1.out i9)
        clear hcal HF1 HF2 fq0 fq1 fq2 fq3 fq4
        generalize F i9 = w6 at HK6 ⊢
        clear hne9 i0 i9 F I
        go_wp2_with fail
        exact HR.out _ _ i 27 HT2.out.symm rfl rfl HK6.out
    · have hin : i = n := by omega
      subst hin
      have hib : decide ((i : Int) < (i : Int)) = false := decide_eq_false (by omega)
      have hT := HT.out
      rw [List.drop_of_length_le (by rw [HN.out]; exact Nat.le_refl _), globsV] at hT
      have HT2 : Hid (X = none) := hT.symm
      clear hT HT hlv
      go_wp2_with fail
      exact HE.out _ _ (by kernel_rfl) HK.out HT2.out
end Go.Proofs.Qxb6500275aGreatDoor
