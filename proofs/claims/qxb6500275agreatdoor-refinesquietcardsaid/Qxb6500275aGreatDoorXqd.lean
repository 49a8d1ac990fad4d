import Derived.Test.Qxb6500275aGreatDoorXq8
import Derived.Test.Qxb6500275aGreatDoorXq9
import Derived.Test.Qxb6500275aGreatDoorDo1
set_option maxRecDepth 100000
set_option linter.unusedVariables false
set_option linter.unusedSimpArgs false
namespace Go.Proofs.Qxb6500275aGreatDoor
open Go Go.RowKit
section
variable {w w2 w3 : World} {N : EN} {A A' : Nat → Prop} {st st' : Ma} {o : Op6} {a : An4}
def DmQ (w : World) (xb : Nat) (A : Nat → Prop) (a : An4) (st' : Ma) (en : Ending) (w' : World) : Prop := en = .returned a.val ∧ ∃ N' A', N'.xb = xb ∧ MdM w' N' A' st' ∧ Gw w w' A A'
theorem dom_fin {xb : Nat} (h0 : ∀ k, A k → k < w.heap.size) {N' : EN} (hx : N'.xb = xb) (hm : MdM w2 N' A' st') (hg : Gw (W17 w o) w2 A A') (hk3 : Kp (fun k => k = w.heap.size + 1 ∨ k = w.heap.size + 2) w2 w3) : DmQ w xb A a st' (.returned a.val) w3 := by
  have s1 := W17_size w o
  have s2 := hg.kp.size
  have hA' : ∀ k, A' k → ¬ (k = w.heap.size + 1 ∨ k = w.heap.size + 2) := fun k hk e => by
    rcases hg.own k hk with e2 | e2
    · have := h0 k e2; omega
    · omega
  refine ⟨rfl, N', A', hx, hm.keep hk3 hA', ⟨?_, fun k hk => ?_⟩⟩
  · exact kp_in (((W17_kp w o).mono (fun _ h => h.elim)).trans hg.kp) hk3 (fun i hi e => by omega)
  · rcases hg.own k hk with e | e
    · exact .inl e
    · exact .inr (by omega)
set_option maxHeartbeats 16000000 in
theorem dom_calls (h : MdM w N A st) (hgd : Good numI st) (o : Op6) (ho : OpOk o) (hD : DoR numI st o a st') : Calls Tryz.prog 27 #[.pointer (some ⟨N.xb, 0, none⟩), o.val] w (DmQ w N.xb A a st') := by
  have hW := W17_kp w o
  have HM : Hid (MdM (W17 w o) N A st) := h.quiet hW
  have HO : Hid (∀ k, A k → k < w.heap.size) := fun k hk => h.lt hk
  obtain ⟨kd, oa, ob, oc, os, ot⟩ := o
  unfold Op6.val
  unfold DoR at hD
  dsimp only at hD ⊢
  have hs17 := W17_size w ⟨kd, oa, ob, oc, os, ot⟩
  by_cases h1 : kd = 1
  · rw [if_pos h1] at hD
    subst h1
    obtain ⟨l, hL, rfl⟩ := hD
    have hcal := load_w HM.out hgd.hm ho.s ho.a hL
    unfold W17 box6 zer4 at hcal
    dsimp only at hcal
    clear h hW hs17
    go_enter Tryz.func27, Tryz.ntmps27
    go_wp2_with fail
    refine hcal.mono ?_
    rintro en w2 ⟨rfl, N2, A2, hx2, hm2, g2⟩
    have HM2 : Hid (MdM w2 N2 A2 st') := hm2
    have HG2 : Hid (Gw (W17 w ⟨1, oa, ob, oc, os, ot⟩) w2 A A2) := g2
    obtain ⟨⟨a0, a1, a2, a3⟩, ⟨b0, b1, b2, b3⟩, ⟨d0, d1, d2, d3⟩, ⟨e0, e1, e2, e3⟩⟩ := (Dv.of HO.out HG2.out.kp).c
    obtain ⟨ln, lm, le⟩ := l
    unfold encLn
    dsimp only
    clear hm2 g2 hL
    clear hcal
    go_wp2_with fail
    refine bodyPost_ret (v := An4.val ⟨le, ln, lm, ⟨#[]⟩⟩) (by simp [results, Tryz.results27, go_sem, An4.val, a0, a1, a2, a3, b0, b1, b2, b3]) rfl ?_
    exact dom_fin (o := ⟨1, oa, ob, oc, os, ot⟩) HO.out hx2 HM2.out HG2.out (((((((((Kp.refl (fun k => k = w.heap.size + 1 ∨ k = w.heap.size + 2) w2).setCell (p := ⟨w.heap.size + 2, 1, none⟩) (.inl (.inr rfl)) _).setCell (p := ⟨w.heap.size + 2, 2, none⟩) (.inl (.inr rfl)) _).setCell (p := ⟨w.heap.size + 2, 0, none⟩) (.inl (.inr rfl)) _).setCell (p := ⟨w.heap.size + 1, 0, none⟩) (.inl (.inl rfl)) _).setCell (p := ⟨w.heap.size + 1, 1, none⟩) (.inl (.inl rfl)) _).setCell (p := ⟨w.heap.size + 1, 2, none⟩) (.inl (.inl rfl)) _).setCell (p := ⟨w.heap.size + 1, 3, none⟩) (.inl (.inl rfl)) _))
  by_cases h2 : kd = 2
  · rw [if_neg h1, if_pos h2] at hD
    subst h2
    obtain ⟨ha, rfl⟩ := hD
    have HA_ : Hid (a = ⟨((tapeS st.H os).1 : Int), 0, 0, ⟨#[]⟩⟩) := ha
    clear ha
    have hcal := tape_w HM.out os ho.s
    unfold W17 box6 zer4 at hcal
    dsimp only at hcal
    clear h hW hs17 h1
    go_enter Tryz.func27, Tryz.ntmps27
    go_wp2_with fail
    refine hcal.mono ?_
    rintro en w2 ⟨rfl, N2, A2, hx2, hm2, g2⟩
    have HM2 : Hid (MdM w2 N2 A2 ⟨st.m, (tapeS st.H os).2⟩) := hm2
    have HG2 : Hid (Gw (W17 w ⟨2, oa, ob, oc, os, ot⟩) w2 A A2) := g2
    obtain ⟨⟨a0, a1, a2, a3⟩, ⟨b0, b1, b2, b3⟩, ⟨d0, d1, d2, d3⟩, ⟨e0, e1, e2, e3⟩⟩ := (Dv.of HO.out HG2.out.kp).c
    obtain ⟨te, hte⟩ : ∃ te, ((tapeS st.H os).1 : Int) = te := ⟨_, rfl⟩
    rw [hte] at HA_ ⊢
    clear hm2 g2 hte
    clear hcal
    go_wp2_with fail
    refine bodyPost_ret (v := An4.val ⟨te, 0, 0, ⟨#[]⟩⟩) (by simp [results, Tryz.results27, go_sem, An4.val, a0, a1, a2, a3, b0, b1, b2, b3]) rfl ?_
    rw [HA_.out]
    exact dom_fin (o := ⟨2, oa, ob, oc, os, ot⟩) HO.out hx2 HM2.out HG2.out (((((((Kp.refl (fun k => k = w.heap.size + 1 ∨ k = w.heap.size + 2) w2).setCell (p := ⟨w.heap.size + 2, 0, none⟩) (.inl (.inr rfl)) _).setCell (p := ⟨w.heap.size + 1, 0, none⟩) (.inl (.inl rfl)) _).setCell (p := ⟨w.heap.size + 1, 1, none⟩) (.inl (.inl rfl)) _).setCell (p := ⟨w.heap.size + 1, 2, none⟩) (.inl (.inl rfl)) _).setCell (p := ⟨w.heap.size + 1, 3, none⟩) (.inl (.inl rfl)) _))
  by_cases h3 : kd = 3
  · rw [if_neg h1, if_neg h2, if_pos h3] at hD
    subst h3
    obtain ⟨i, hL, rfl⟩ := hD
    have hcal := invoke_w HM.out hgd ho.s ho.t ho.a hL
    unfold W17 box6 zer4 at hcal
    dsimp only at hcal
    clear h hW hs17 h1 h2
    go_enter Tryz.func27, Tryz.ntmps27
    go_wp2_with fail
    refine hcal.mono ?_
    rintro en w2 ⟨rfl, N2, A2, hx2, hm2, g2⟩
    have HM2 : Hid (MdM w2 N2 A2 st') := hm2
    have HG2 : Hid (Gw (W17 w ⟨3, oa, ob, oc, os, ot⟩) w2 A A2) := g2
    obtain ⟨⟨a0, a1, a2, a3⟩, ⟨b0, b1, b2, b3⟩, ⟨d0, d1, d2, d3⟩, ⟨e0, e1, e2, e3⟩⟩ := (Dv.of HO.out HG2.out.kp).c
    obtain ⟨is_, i_, ie⟩ := i
    unfold encIa
    dsimp only
    clear hm2 g2 hL
    clear hcal
    go_wp2_with fail
    refine bodyPost_ret (v := An4.val ⟨ie, i_, 0, is_⟩) (by simp [results, Tryz.results27, go_sem, An4.val, a0, a1, a2, a3, b0, b1, b2, b3]) rfl ?_
    exact dom_fin (o := ⟨3, oa, ob, oc, os, ot⟩) HO.out hx2 HM2.out HG2.out (((((((((Kp.refl (fun k => k = w.heap.size + 1 ∨ k = w.heap.size + 2) w2).setCell (p := ⟨w.heap.size + 2, 3, none⟩) (.inl (.inr rfl)) _).setCell (p := ⟨w.heap.size + 2, 1, none⟩) (.inl (.inr rfl)) _).setCell (p := ⟨w.heap.size + 2, 0, none⟩) (.inl (.inr rfl)) _).setCell (p := ⟨w.heap.size + 1, 0, none⟩) (.inl (.inl rfl)) _).setCell (p := ⟨w.heap.size + 1, 1, none⟩) (.inl (.inl rfl)) _).setCell (p := ⟨w.heap.size + 1, 2, none⟩) (.inl (.inl rfl)) _).setCell (p := ⟨w.heap.size + 1, 3, none⟩) (.inl (.inl rfl)) _))
  by_cases h4 : kd = 4
  · rw [if_neg h1, if_neg h2, if_neg h3, if_pos h4] at hD
    subst h4
    obtain ⟨ha, rfl⟩ := hD
    have HA_ : Hid (a = ⟨0, 0, 0, showM st'⟩) := ha
    clear ha
    have hcal := show_w HM.out hgd
    unfold W17 box6 zer4 at hcal
    dsimp only at hcal
    clear h hW hs17 h1 h2 h3
    go_enter Tryz.func27, Tryz.ntmps27
    go_wp2_with fail
    refine hcal.mono ?_
    rintro en w2 ⟨rfl, k2⟩
    have HM2 : Hid (MdM w2 N A st') := HM.out.quiet k2
    have HG2 : Hid (Gw (W17 w ⟨4, oa, ob, oc, os, ot⟩) w2 A A) := ⟨k2.mono (fun _ h => h.elim), fun k hk => .inl hk⟩
    obtain ⟨⟨a0, a1, a2, a3⟩, ⟨b0, b1, b2, b3⟩, ⟨d0, d1, d2, d3⟩, ⟨e0, e1, e2, e3⟩⟩ := (Dv.of HO.out HG2.out.kp).c
    obtain ⟨sh, hsh⟩ : ∃ sh, showM st' = sh := ⟨_, rfl⟩
    rw [hsh] at HA_ ⊢
    clear k2 hsh
    clear hcal
    go_wp2_with fail
    refine bodyPost_ret (v := An4.val ⟨0, 0, 0, sh⟩) (by simp [results, Tryz.results27, go_sem, An4.val, a0, a1, a2, a3, b0, b1, b2, b3]) rfl ?_
    rw [HA_.out]
    exact dom_fin (o := ⟨4, oa, ob, oc, os, ot⟩) HO.out rfl HM2.out HG2.out (((((((Kp.refl (fun k => k = w.heap.size + 1 ∨ k = w.heap.size + 2) w2).setCell (p := ⟨w.heap.size + 2, 3, none⟩) (.inl (.inr rfl)) _).setCell (p := ⟨w.heap.size + 1, 0, none⟩) (.inl (.inl rfl)) _).setCell (p := ⟨w.heap.size + 1, 1, none⟩) (.inl (.inl rfl)) _).setCell (p := ⟨w.heap.size + 1, 2, none⟩) (.inl (.inl rfl)) _).setCell (p := ⟨w.heap.size + 1, 3, none⟩) (.inl (.inl rfl)) _))
  rw [if_neg h1, if_neg h2, if_neg h3, if_neg h4] at hD
  obtain ⟨rfl, rfl⟩ := hD
  have g1 : (kd == 1) = false := by rw [beq_eq_false_iff_ne]; exact h1
  have g2 : (kd == 2) = false := by rw [beq_eq_false_iff_ne]; exact h2
  have g3 : (kd == 3) = false := by rw [beq_eq_false_iff_ne]; exact h3
  have g4 : (kd == 4) = false := by rw [beq_eq_false_iff_ne]; exact h4
  clear h hW h1 h2 h3 h4 hs17
  go_enter Tryz.func27, Tryz.ntmps27
  go_wp2_with fail
  refine bodyPost_ret (v := An4.val ⟨0, 0, 0, ⟨#[]⟩⟩) (by simp [results, Tryz.results27, go_sem, An4.val]) rfl ?_
  exact dom_fin (o := ⟨kd, oa, ob, oc, os, ot⟩) (w2 := W17 w ⟨kd, oa, ob, oc, os, ot⟩) HO.out rfl HM.out ⟨Kp.refl _ _, fun k hk => .inl hk⟩ (Kp.refl _ _)
end
end Go.Proofs.Qxb6500275aGreatDoor
