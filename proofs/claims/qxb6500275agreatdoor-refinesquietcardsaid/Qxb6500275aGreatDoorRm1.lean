import Derived.Test.Qxb6500275aGreatDoorRb1
import Derived.Test.Qxb6500275aGreatDoorMe8
import Derived.Test.Qxb6500275aGreatDoorMe9
set_option maxRecDepth 100000
set_option linter.unusedVariables false
set_option linter.unusedSimpArgs false
namespace Go.Proofs.Qxb6500275aGreatDoor
open Go Go.RowKit
/- THE MODEL'S STORE IN MEMORY: the real's plain data -/
def rowB (l : List Nat) : List Value := l.map fun (x : Nat) => .int .u8 (x : Int)
def rowT (l : List Int) : List Value := l.map fun x => .int .i64 x
def rowG (l : List Int) : List Value := l.map fun x => .int .u64 x
structure Ms (w : World) (sb : Nat) (vm vt vg : Value) (S : Sm) : Prop where
  bk : ∃ F, Blk w sb 5 F ∧ F 0 = .bool S.has ∧ F 1 = vm ∧ F 2 = .int .i64 ((S.cap / 64 : Nat) : Int) ∧ F 3 = vt ∧ F 4 = vg
  m : OR w 5 1 vm S.bs.length (rowB S.bs)
  t : OR w 3 1 vt S.tab.length (rowT S.tab)
  g : OR w 91 1 vg S.gl.length (rowG S.gl)
  am : ∀ k, vm.ownBlock = some k → k ≠ sb ∧ vt.ownBlock ≠ some k ∧ vg.ownBlock ≠ some k
  at_ : ∀ k, vt.ownBlock = some k → k ≠ sb ∧ vg.ownBlock ≠ some k
  ag : ∀ k, vg.ownBlock = some k → k ≠ sb
/- its blocks -/
def Mt (sb : Nat) (vm vt vg : Value) (k : Nat) : Prop := k = sb ∨ vm.ownBlock = some k ∨ vt.ownBlock = some k ∨ vg.ownBlock = some k
section
variable {w w' : World} {sb : Nat} {vm vt vg : Value} {S : Sm} {P : Nat → Prop}
theorem Ms.keep (h : Ms w sb vm vt vg S) (hk : Kp P w w') (hp : ∀ k, Mt sb vm vt vg k → ¬ P k) : Ms w' sb vm vt vg S := by
  obtain ⟨F, b, rest⟩ := h.bk
  exact ⟨⟨F, b.keep hk (hp sb (.inl rfl)), rest⟩, h.m.keep hk (fun k e => hp k (.inr (.inl e))), h.t.keep hk (fun k e => hp k (.inr (.inr (.inl e)))), h.g.keep hk (fun k e => hp k (.inr (.inr (.inr e)))), h.am, h.at_, h.ag⟩
theorem Ms.c (h : Ms w sb vm vt vg S) : w.cell? ⟨sb, 0, none⟩ = some (.bool S.has) ∧ w.cell? ⟨sb, 1, none⟩ = some vm ∧ w.cell? ⟨sb, 2, none⟩ = some (.int .i64 ((S.cap / 64 : Nat) : Int)) ∧ w.cell? ⟨sb, 3, none⟩ = some vt ∧ w.cell? ⟨sb, 4, none⟩ = some vg := by
  obtain ⟨F, b, f0, f1, f2, f3, f4⟩ := h.bk
  exact ⟨by rw [b.cell (by decide), f0], by rw [b.cell (by decide), f1], by rw [b.cell (by decide), f2], by rw [b.cell (by decide), f3], by rw [b.cell (by decide), f4]⟩
theorem mpages_m (h : Ms w sb vm vt vg S) (hS : SmOk S) : Calls Tryz.prog 269 #[.pointer (some ⟨sb, 0, none⟩)] w (Qm w (.int .i64 ((S.bs.length / 64 : Nat) : Int))) := by
  obtain ⟨_, c1, _⟩ := h.c
  obtain ⟨a, cap, rfl⟩ := h.m.slice
  have hm := hS.m
  generalize S.bs.length = n at *
  go_enter Tryz.func269, Tryz.ntmps269
  go_wp2
  have hw : wrap64 ((n : Int) / 64) = (n : Int) / 64 := by unfold wrap64; omega
  refine bodyPost_ret (v := .int .i64 ((n / 64 : Nat) : Int)) (by simp [results, Tryz.results269, go_sem, hw]) rfl ?_
  exact ⟨rfl, rfl⟩
theorem mtabLen_m (h : Ms w sb vm vt vg S) : Calls Tryz.prog 194 #[.pointer (some ⟨sb, 0, none⟩)] w (Qm w (.int .i64 S.tab.length)) := by
  obtain ⟨_, _, _, c3, _⟩ := h.c
  obtain ⟨a, cap, rfl⟩ := h.t.slice
  generalize S.tab.length = n at *
  go_enter Tryz.func194, Tryz.ntmps194
  go_wp2
  refine bodyPost_ret (v := .int .i64 n) (by simp [results, Tryz.results194, go_sem]) rfl ?_
  exact ⟨rfl, rfl⟩
theorem mfits_m (h : Ms w sb vm vt vg S) (hS : SmOk S) (at_ n : Nat) (ha : at_ < 4294967296) (hn : n < 1000000) : Calls Tryz.prog 195 #[.pointer (some ⟨sb, 0, none⟩), .int .u32 at_, .int .i64 n] w (Qm w (.bool (decide (at_ + n ≤ S.bs.length)))) := by
  obtain ⟨_, c1, _⟩ := h.c
  obtain ⟨a, cap, rfl⟩ := h.m.slice
  have hm := hS.m
  generalize S.bs.length = m at *
  have hn0 : (0 : Int) ≤ (n : Int) := by omega
  go_enter Tryz.func195, Tryz.ntmps195
  go_wp2
  have hd : decide ((at_ : Int) + (n : Int) ≤ (m : Int)) = decide (at_ + n ≤ m) := decide_eq_decide.2 (by omega)
  refine bodyPost_ret (v := .bool (decide (at_ + n ≤ m))) (by simp [results, Tryz.results195, go_sem, hd]) rfl ?_
  exact ⟨rfl, rfl⟩
theorem rowT_get {l : List Int} {i : Nat} {t : Int} (h : l[i]? = some t) : (rowT l)[i]? = some (.int .i64 t) := by unfold rowT; rw [List.getElem?_map, h]; rfl
theorem rowG_get {l : List Int} {i : Nat} {t : Int} (h : l[i]? = some t) : (rowG l)[i]? = some (.int .u64 t) := by unfold rowG; rw [List.getElem?_map, h]; rfl
theorem rowB_get {l : List Nat} {i t : Nat} (h : l[i]? = some t) : (rowB l)[i]? = some (.int .u8 (t : Int)) := by unfold rowB; rw [List.getElem?_map, h]; rfl
set_option maxHeartbeats 2000000 in
theorem melem_m (h : Ms w sb vm vt vg S) (hS : SmOk S) (i : Nat) (hi : i < 4294967296) : Calls Tryz.prog 274 #[.pointer (some ⟨sb, 0, none⟩), .int .u32 i] w (Qm w (.tuple #[.int .i64 (elemS S i).1, .int .i64 (elemS S i).2])) := by
  obtain ⟨_, _, _, c3, _⟩ := h.c
  obtain ⟨X, hX⟩ : ∃ X, elemS S i = X := ⟨_, rfl⟩
  rw [hX]
  unfold elemS at hX
  have hl := hS.t.1
  cases hq : S.tab[i]? with
  | none =>
    rw [hq] at hX
    obtain ⟨a, cap, rfl⟩ := h.t.slice
    have h1 : S.tab.length ≤ i := List.getElem?_eq_none_iff.1 hq
    have HX : Hid _ := hX
    clear hX hq h
    generalize S.tab.length = n at *
    have h2 : (n : Int) ≤ (i : Int) := by omega
    go_enter Tryz.func274, Tryz.ntmps274
    go_wp2
    refine bodyPost_ret (v := .tuple #[.int .i64 0, .int .i64 43]) (by simp [results, Tryz.results274, go_sem]) rfl ?_
    exact ⟨by rw [← HX.out]; rfl, rfl⟩
  | some t =>
    rw [hq] at hX
    dsimp only at hX
    have h1 := (List.getElem?_eq_some_iff.1 hq).1
    obtain ⟨g, cap, rfl, g1, g2, g3, g4, g5⟩ := h.t.ptr (by omega)
    have ct := g4 i _ (rowT_get hq)
    have HX : Hid (_ = X) := hX
    clear hX hq h g4 g5
    generalize S.tab.length = n at *
    have h2 : (i : Int) < (n : Int) := by omega
    by_cases h0 : t < 0
    · go_enter Tryz.func274, Tryz.ntmps274
      go_wp2
      refine bodyPost_ret (v := .tuple #[.int .i64 0, .int .i64 43]) (by simp [results, Tryz.results274, go_sem]) rfl ?_
      exact ⟨by rw [← HX.out, if_pos h0]; rfl, rfl⟩
    · go_enter Tryz.func274, Tryz.ntmps274
      go_wp2
      refine bodyPost_ret (v := .tuple #[.int .i64 t, .int .i64 0]) (by simp [results, Tryz.results274, go_sem]) rfl ?_
      exact ⟨by rw [← HX.out, if_neg (by omega)]; rfl, rfl⟩
set_option maxHeartbeats 2000000 in
theorem mglobal_m (h : Ms w sb vm vt vg S) (hS : SmOk S) (i : Nat) {v : Int} (hv : S.gl[i]? = some v) : Calls Tryz.prog 280 #[.pointer (some ⟨sb, 0, none⟩), .int .i64 i] w (Qm w (.tuple #[.int .u64 v, .int .i64 0])) := by
  obtain ⟨_, _, _, _, c4⟩ := h.c
  have hl := hS.g.1
  have h1 := (List.getElem?_eq_some_iff.1 hv).1
  obtain ⟨g, cap, rfl, g1, g2, g3, g4, g5⟩ := h.g.ptr (by omega)
  have ct := g4 i _ (rowG_get hv)
  clear hv h g4 g5
  generalize S.gl.length = n at *
  have h2 : (i : Int) < (n : Int) := by omega
  have h3 : ¬ (n : Int) ≤ (i : Int) := by omega
  have h4 : decide ((n : Int) ≤ (i : Int)) = false := decide_eq_false h3
  go_enter Tryz.func280, Tryz.ntmps280
  go_wp2
  refine bodyPost_ret (v := .tuple #[.int .u64 v, .int .i64 0]) (by simp [results, Tryz.results280, go_sem]) rfl ?_
  exact ⟨rfl, rfl⟩
theorem rowT_set (l : List Int) (i : Nat) (t : Int) : rowT (l.set i t) = (rowT l).set i (.int .i64 t) := by unfold rowT; rw [List.map_set]
theorem rowG_set (l : List Int) (i : Nat) (t : Int) : rowG (l.set i t) = (rowG l).set i (.int .u64 t) := by unfold rowG; rw [List.map_set]
theorem rowB_set (l : List Nat) (i t : Nat) : rowB (l.set i t) = (rowB l).set i (.int .u8 (t : Int)) := by unfold rowB; rw [List.map_set]
theorem Ms.setT (h : Ms w sb vm vt vg S) {g i : Nat} (hg : vt.ownBlock = some g) (hi : i < S.tab.length) (t : Int) : Ms (w.setCell ⟨g, i, none⟩ (.int .i64 t)) sb vm vt vg { S with tab := S.tab.set i t } := by
  obtain ⟨F, b, rest⟩ := h.bk
  have hne := h.at_ g hg
  refine ⟨⟨F, b.other (Ne.symm hne.1) _, rest⟩, h.m.other (fun k e => ?_) _, ?_, h.g.other (fun k e => ?_) _, h.am, h.at_, h.ag⟩
  · rintro rfl; exact (h.am k e).2.1 hg
  · dsimp only
    rw [List.length_set, rowT_set]
    exact h.t.set hg (by omega) _
  · rintro rfl; exact hne.2 e
theorem Ms.setG (h : Ms w sb vm vt vg S) {g i : Nat} (hg : vg.ownBlock = some g) (hi : i < S.gl.length) (t : Int) : Ms (w.setCell ⟨g, i, none⟩ (.int .u64 t)) sb vm vt vg { S with gl := S.gl.set i t } := by
  obtain ⟨F, b, rest⟩ := h.bk
  refine ⟨⟨F, b.other (Ne.symm (h.ag g hg)) _, rest⟩, h.m.other (fun k e => ?_) _, h.t.other (fun k e => ?_) _, ?_, h.am, h.at_, h.ag⟩
  · rintro rfl; exact (h.am k e).2.2 hg
  · rintro rfl; exact (h.at_ k e).2 hg
  · dsimp only
    rw [List.length_set, rowG_set]
    exact h.g.set hg (by omega) _
theorem Ms.setB (h : Ms w sb vm vt vg S) {g i : Nat} (hg : vm.ownBlock = some g) (hi : i < S.bs.length) (t : Nat) : Ms (w.setCell ⟨g, i, none⟩ (.int .u8 (t : Int))) sb vm vt vg { S with bs := S.bs.set i t } := by
  obtain ⟨F, b, rest⟩ := h.bk
  have hne := h.am g hg
  refine ⟨⟨F, b.other (Ne.symm hne.1) _, rest⟩, ?_, h.t.other (fun k e => ?_) _, h.g.other (fun k e => ?_) _, h.am, h.at_, h.ag⟩
  · dsimp only
    rw [List.length_set, rowB_set]
    exact h.m.set hg (by omega) _
  · rintro rfl; exact hne.2.1 e
  · rintro rfl; exact hne.2.2 e
theorem kp_set1 (w : World) {g i : Nat} (u : Value) {P : Nat → Prop} (hp : P g) : Kp P w (w.setCell ⟨g, i, none⟩ u) := (Kp.refl P w).setCell (p := ⟨g, i, none⟩) (.inl hp) u
/- an errno and the store behind it, in the same blocks -/
def Sr (sb : Nat) (vm vt vg : Value) (w : World) (r : Nat × Sm) (en : Ending) (w' : World) : Prop := en = .returned (.int .i64 (r.1 : Int)) ∧ Kp (Mt sb vm vt vg) w w' ∧ Ms w' sb vm vt vg r.2
set_option maxHeartbeats 2000000 in
theorem msetElem_m (h : Ms w sb vm vt vg S) (hS : SmOk S) (i : Nat) (hi : i < 4294967296) (f : Int) : Calls Tryz.prog 196 #[.pointer (some ⟨sb, 0, none⟩), .int .u32 i, .int .i64 f] w (Sr sb vm vt vg w (setElemS S i f)) := by
  obtain ⟨_, _, _, c3, _⟩ := h.c
  obtain ⟨X, hX⟩ : ∃ X, setElemS S i f = X := ⟨_, rfl⟩
  rw [hX]
  unfold setElemS at hX
  by_cases h0 : f < 0
  · rw [if_pos h0] at hX
    have HX : Hid _ := hX
    have HM : Hid (Ms w sb vm vt vg S) := h
    clear hX h c3
    go_enter Tryz.func196, Tryz.ntmps196
    go_wp2
    refine bodyPost_ret (v := .int .i64 36) (by simp [results, Tryz.results196, go_sem]) rfl ?_
    rw [← HX.out]
    exact ⟨rfl, Kp.refl _ _, HM.out⟩
  · rw [if_neg h0] at hX
    have hl := hS.t.1
    by_cases h1 : S.tab.length ≤ i
    · rw [if_pos h1] at hX
      have HX : Hid _ := hX
      have HM : Hid (Ms w sb vm vt vg S) := h
      obtain ⟨a, cap, hv⟩ := h.t.slice
      rw [hv] at c3
      clear hX h hv
      generalize S.tab.length = n at c3 h1 hl
      have h2 : (n : Int) ≤ (i : Int) := by omega
      go_enter Tryz.func196, Tryz.ntmps196
      go_wp2
      refine bodyPost_ret (v := .int .i64 31) (by simp [results, Tryz.results196, go_sem]) rfl ?_
      rw [← HX.out]
      exact ⟨rfl, Kp.refl _ _, HM.out⟩
    · rw [if_neg h1] at hX
      have HX : Hid _ := hX
      obtain ⟨g, cap, hv, g1, g2, g3, g4, g5⟩ := h.t.ptr (by omega)
      have hob : vt.ownBlock = some g := by rw [hv]; rfl
      have HM : Hid (Ms (w.setCell ⟨g, i, none⟩ (.int .i64 f)) sb vm vt vg { S with tab := S.tab.set i f }) := h.setT hob (by omega) f
      have HK : Hid (Kp (Mt sb vm vt vg) w (w.setCell ⟨g, i, none⟩ (.int .i64 f))) := kp_set1 w _ (.inr (.inr (.inl hob)))
      obtain ⟨t0, ht0⟩ : ∃ t0, S.tab[i]? = some t0 := ⟨_, List.getElem?_eq_getElem (by omega)⟩
      have ct := g4 i _ (rowT_get ht0)
      have fz := g5 i
      rw [hv] at c3
      clear hX h hv hob ht0 g4 g5
      generalize S.tab.length = n at c3 h1 hl g2
      have h2 : (i : Int) < (n : Int) := by omega
      go_enter Tryz.func196, Tryz.ntmps196
      go_wp2
      refine bodyPost_ret (v := .int .i64 0) (by simp [results, Tryz.results196, go_sem]) rfl ?_
      rw [← HX.out]
      exact ⟨rfl, HK.out, HM.out⟩
set_option maxHeartbeats 2000000 in
theorem msetGlobal_m (h : Ms w sb vm vt vg S) (hS : SmOk S) (i : Nat) (h1 : i < S.gl.length) (v : Int) : Calls Tryz.prog 193 #[.pointer (some ⟨sb, 0, none⟩), .int .i64 i, .int .u64 v] w (Sr sb vm vt vg w (0, { S with gl := S.gl.set i v })) := by
  obtain ⟨_, _, _, _, c4⟩ := h.c
  have hl := hS.g.1
  obtain ⟨g, cap, hv, g1, g2, g3, g4, g5⟩ := h.g.ptr (by omega)
  have hob : vg.ownBlock = some g := by rw [hv]; rfl
  have HM : Hid (Ms (w.setCell ⟨g, i, none⟩ (.int .u64 v)) sb vm vt vg { S with gl := S.gl.set i v }) := h.setG hob h1 v
  have HK : Hid (Kp (Mt sb vm vt vg) w (w.setCell ⟨g, i, none⟩ (.int .u64 v))) := kp_set1 w _ (.inr (.inr (.inr hob)))
  obtain ⟨t0, ht0⟩ : ∃ t0, S.gl[i]? = some t0 := ⟨_, List.getElem?_eq_getElem h1⟩
  have ct := g4 i _ (rowG_get ht0)
  have fz := g5 i
  rw [hv] at c4
  clear h hv hob ht0 g4 g5
  generalize S.gl.length = n at c4 h1 hl g2
  have h2 : (i : Int) < (n : Int) := by omega
  have h3 : ¬ (n : Int) ≤ (i : Int) := by omega
  have h4 : decide ((n : Int) ≤ (i : Int)) = false := decide_eq_false h3
  go_enter Tryz.func193, Tryz.ntmps193
  go_wp2
  refine bodyPost_ret (v := .int .i64 0) (by simp [results, Tryz.results193, go_sem]) rfl ?_
  exact ⟨rfl, HK.out, HM.out⟩
end
end Go.Proofs.Qxb6500275aGreatDoor
