import Derived.Test.Qxb6500275aGreatDoorXq0
import Derived.Test.Qxb6500275aGreatDoorXme
import Derived.Test.Qxb6500275aGreatDoorXqp
import Derived.Test.Qxb6500275aGreatDoorSw1
import Derived.Test.Qxb6500275aGreatDoorKv1
import Derived.Test.Qxb6500275aGreatDoorRm7
import Derived.Test.Qxb6500275aGreatDoorRm8
import Derived.Test.Qxb6500275aGreatDoorRh5
import Derived.Test.Qxb6500275aGreatDoorBd2
set_option maxRecDepth 100000
set_option linter.unusedVariables false
set_option linter.unusedSimpArgs false
namespace Go.Proofs.Qxb6500275aGreatDoor
open Go Go.RowKit
/- THE MODEL'S MACHINE, WHOLE; A: its blocks -/
def MdM (w : World) (N : EN) (A : Nat → Prop) (st : Ma) : Prop :=
  (st.m = none ∧ (∃ n S, Erm w N (.pointer none) n S st.H) ∧ A = N.bas) ∨
  (∃ x n, st.m = some x ∧ Em w N n x.S st.H ∧ (N.fs = [] ∧ N.vf = .slice none 0 0) ∧ N.m.mod = x.C.M ∧ (AllF x.C ∧ GlOk x.C.M x.S ∧ ExU x.C.M) ∧ A = N.all)
section
variable {w u : World} {N : EN} {A P : Nat → Prop} {st : Ma}
theorem MdM.lt (h : MdM w N A st) {k : Nat} (hk : A k) : k < w.heap.size := by
  rcases h with ⟨_, ⟨n, S, h⟩, rfl⟩ | ⟨x, n, _, h, _, _, _, rfl⟩
  · exact h.lt hk
  · obtain ⟨i, hi⟩ := hk
    exact h.lt hi
theorem MdM.keep (h : MdM w N A st) (hk : Kp P w u) (hp : ∀ k, A k → ¬ P k) : MdM u N A st := by
  rcases h with ⟨h1, ⟨n, S, h⟩, rfl⟩ | ⟨x, n, h1, h, h2, h3, h4, rfl⟩
  · exact .inl ⟨h1, ⟨n, S, h.keep hk hp⟩, rfl⟩
  · exact .inr ⟨x, n, h1, h.keep hk hp, h2, h3, h4, rfl⟩
theorem MdM.quiet (h : MdM w N A st) (hk : Kp (fun _ => False) w u) : MdM u N A st := h.keep hk (fun _ _ h => h)
theorem MdM.er (h : MdM w N A st) : ∃ c n S, Erm w N c n S st.H := by
  rcases h with ⟨h1, ⟨n, S, h⟩, rfl⟩ | ⟨x, n, h1, h, h2, h3, h4, rfl⟩
  · exact ⟨_, n, S, h⟩
  · exact ⟨_, n, _, h.er h2.2⟩
theorem MdM.xb (h : MdM w N A st) : A N.xb := by
  rcases h with ⟨_, _, rfl⟩ | ⟨x, n, _, _, _, _, _, rfl⟩
  · exact ⟨0, by decide, rfl⟩
  · exact ⟨0, rfl⟩
theorem MdM.bas (h : MdM w N A st) {k : Nat} (hk : N.bas k) : A k := by
  rcases h with ⟨_, _, rfl⟩ | ⟨x, n, _, _, _, _, _, rfl⟩
  · exact hk
  · obtain ⟨i, _, hi⟩ := hk
    exact ⟨i, hi⟩
/- a machine is made -/
set_option maxHeartbeats 2000000 in
theorem new_w (w : World) : Calls Tryz.prog 26 #[] w (fun en w' => ∃ N A, en = .returned (.pointer (some ⟨N.xb, 0, none⟩)) ∧ MdM w' N A ma0 ∧ Kp (fun _ => False) w w' ∧ ∀ k, A k → w.heap.size ≤ k) := by
  go_enter Tryz.func26, Tryz.ntmps26
  go_wp2_with fail
  refine (mnew_m w).mono ?_
  rintro en w1 ⟨sb, rfl, hs, k1, l1⟩
  go_wp2_with fail
  refine (hnew_m w1).mono ?_
  rintro en w2 ⟨hb, rfl, hh, k2, l2⟩
  have HS : Hid _ := hs.keep k2 (fun _ _ h => h)
  have HH : Hid _ := hh
  have HK : Hid (Kp (fun _ => False) w w2) := k1.trans k2
  have hsb : sb < w1.heap.size := by
    obtain ⟨F, b, _⟩ := hs.bk
    exact b.lt (by decide)
  have hhb : hb < w2.heap.size := hh.lt
  have HL : Hid (w.heap.size ≤ sb ∧ sb < hb ∧ hb < w2.heap.size ∧ w.heap.size ≤ w2.heap.size) := ⟨l1, by omega, hhb, (k1.trans k2).size⟩
  clear hs hh k1 k2 l1 l2 hsb hhb
  go_wp2_with fail
  refine bodyPost_ret (v := .pointer (some ⟨w2.heap.size, 0, none⟩)) (by simp [results, Tryz.results26, go_sem]) rfl ?_
  obtain ⟨l1, l2, l3, l4⟩ := HL.out
  have hbk := blk_al w2 #[.pointer none, .pointer (some ⟨sb, 0, none⟩), .pointer (some ⟨hb, 0, none⟩), .slice none 0 0, .int .i64 0] 145
  have hq : Kp (fun _ => False) w2 (w2.alloc (.cells #[.pointer none, .pointer (some ⟨sb, 0, none⟩), .pointer (some ⟨hb, 0, none⟩), .slice none 0 0, .int .i64 0] 145)) := (Kp.refl _ _).alloc _
  have n1 : ∀ k, Mt sb (.slice none 0 0) (.slice none 0 0) (.slice none 0 0) k → k = sb := fun k hk => by
    rcases hk with e | e | e | e
    · exact e
    · exact (nil_own3 e).elim
    · exact (nil_own3 e).elim
    · exact (nil_own3 e).elim
  have n2 : ∀ k, Mhv hb (.slice none 0 0) (.slice none 0 0) k → k = hb := fun k hk => by
    rcases hk with e | e | e
    · exact e
    · exact (nil_own3 e).elim
    · exact (nil_own3 e).elim
  refine ⟨⟨w2.heap.size, sb, hb, 0, .slice none 0 0, .slice none 0 0, .slice none 0 0, .slice none 0 0, .slice none 0 0, .slice none 0 0, mt0, []⟩, _, rfl, .inl ⟨rfl, ⟨0, Sm.none, ⟨⟨_, hbk, rfl, rfl, rfl, rfl, rfl⟩, HS.out.keep hq (fun _ _ h => h), HH.out.keep hq (fun _ _ h => h), fun i j k g1 g2 hij hi hj => ?_⟩⟩, rfl⟩, HK.out.trans hq, fun k hk => ?_⟩
  · match i, j, g1, g2, hij, hi, hj with
    | 0, 0, _, _, hij, _, _ => exact hij rfl
    | 1, 1, _, _, hij, _, _ => exact hij rfl
    | 2, 2, _, _, hij, _, _ => exact hij rfl
    | 0, 1, _, _, _, hi, hj => have e1 : k = w2.heap.size := hi; have e2 := n1 k hj; omega
    | 0, 2, _, _, _, hi, hj => have e1 : k = w2.heap.size := hi; have e2 := n2 k hj; omega
    | 1, 0, _, _, _, hi, hj => have e1 : k = w2.heap.size := hj; have e2 := n1 k hi; omega
    | 2, 0, _, _, _, hi, hj => have e1 : k = w2.heap.size := hj; have e2 := n2 k hi; omega
    | 1, 2, _, _, _, hi, hj => have e1 := n1 k hi; have e2 := n2 k hj; omega
    | 2, 1, _, _, _, hi, hj => have e1 := n2 k hi; have e2 := n1 k hj; omega
    | m + 3, _, g1, _, _, _, _ => omega
    | _, m + 3, _, g2, _, _, _ => omega
  · obtain ⟨i, g1, hi⟩ := hk
    match i, g1, hi with
    | 0, _, hi => have e1 : k = w2.heap.size := hi; omega
    | 1, _, hi => have e1 := n1 k hi; omega
    | 2, _, hi => have e1 := n2 k hi; omega
    | m + 3, g1, _ => omega
set_option maxHeartbeats 2000000 in
theorem tape_w (h : MdM w N A st) (s : ByteArray) (hs : s.size ≤ 9223372036854775807) : Calls Tryz.prog 78 #[.pointer (some ⟨N.xb, 0, none⟩), .string s] w (fun en w' => en = .returned (.int .i64 ((tapeS st.H s).1 : Int)) ∧ ∃ N' A', N'.xb = N.xb ∧ MdM w' N' A' ⟨st.m, (tapeS st.H s).2⟩ ∧ Gw w w' A A') := by
  obtain ⟨c, n, S, he⟩ := h.er
  have c2 := he.c.2.2.1
  have HT := htape_m he.h s hs
  have HM : Hid _ := h
  clear h he
  go_enter Tryz.func78, Tryz.ntmps78
  go_wp2_with fail
  refine HT.mono ?_
  rintro en w1 ⟨rfl, vk, vt, hh, hg⟩
  have HH : Hid _ := hh
  have HG : Hid _ := hg
  clear hh hg
  go_wp2
  go_ret
  refine ⟨rfl, ?_⟩
  rcases HM.out with ⟨h1, ⟨n, S, h⟩, rfl⟩ | ⟨x, n, h1, h, h2, h3, h4, rfl⟩
  · obtain ⟨g1, g2⟩ := h.host HH.out HG.out
    exact ⟨{ N with vk := vk, vp := vt }, _, rfl, .inl ⟨h1, ⟨n, S, g1⟩, rfl⟩, g2⟩
  · obtain ⟨g1, g2⟩ := h.host HH.out HG.out
    exact ⟨{ N with vk := vk, vp := vt }, _, rfl, .inr ⟨x, n, h1, g1, h2, h3, h4, rfl⟩, g2⟩
set_option maxHeartbeats 4000000 in
theorem show_w {num : NumF} (h : MdM w N A st) (hg : Good num st) : Calls Tryz.prog 28 #[.pointer (some ⟨N.xb, 0, none⟩)] w (fun en w' => en = .returned (.string (showM st)) ∧ Kp (fun _ => False) w w') := by
  have hsz2 := showH_size hg.hm
  rcases h with ⟨h1, ⟨n, S, h⟩, rfl⟩ | ⟨x, n, h1, h, h2, h3, h4, rfl⟩
  · have hcal := hshow_m h.h hg.hm
    obtain ⟨c0, c1, c2, _⟩ := h.c
    unfold showM headM
    rw [h1]
    dsimp only
    clear h h1 hg
    generalize showH st.H = sh at hcal hsz2 ⊢
    have e1 : (⟨#[45]⟩ : ByteArray).size = 1 := rfl
    have hs2 : ¬ 9223372036854775807 < 1 + 1 + sh.size := by omega
    have hs3 : ¬ 9223372036854775807 < 2 + sh.size := by omega
    go_enter Tryz.func28, Tryz.ntmps28
    go_wp2_with fail
    refine hcal.mono ?_
    rintro en w2 ⟨rfl, k2⟩
    go_wp2_with fail
    refine bodyPost_ret (v := .string ((⟨#[45]⟩ ++ ⟨#[32]⟩) ++ sh)) (by simp [results, Tryz.results28, go_sem]) rfl ?_
    exact ⟨rfl, k2⟩
  · obtain ⟨hgc, henv⟩ := hg.md x h1
    have hsz1 := showS_size henv.sm
    have hcal := mshow_m h.st henv.sm (fun z hz => by
      have := henv.tab z hz
      have := hgc.ok.mod.ni
      have := hgc.ok.mod.nf
      omega)
    have HE : Hid _ := h
    have HG : Hid _ := hg.hm
    obtain ⟨c0, c1, c2, _⟩ := h.c
    unfold showM headM
    rw [h1]
    dsimp only
    clear h h1 hg hgc henv h2 h3 h4
    generalize showS x.S = ss at hcal hsz1 ⊢
    generalize hsh : showH st.H = sh at hsz2 ⊢
    have hs1 : ¬ 9223372036854775807 < ss.size + 1 := by omega
    have hs2 : ¬ 9223372036854775807 < ss.size + 1 + sh.size := by omega
    have HSH : Hid _ := hsh
    clear hsh
    go_enter Tryz.func28, Tryz.ntmps28
    go_wp2_with fail
    refine hcal.mono ?_
    rintro en w2 ⟨rfl, k2⟩
    have c2' : w2.cell? ⟨N.xb, 2, none⟩ = some (.pointer (some ⟨N.hb, 0, none⟩)) := by rw [k2.cell (p := ⟨N.xb, 2, none⟩) (lt_of_cell c2) (fun h => h)]; exact c2
    have hcal2 := hshow_m (HE.out.quiet k2).h HG.out
    rw [HSH.out] at hcal2
    go_wp2_with fail
    refine hcal2.mono ?_
    rintro en w3 ⟨rfl, k3⟩
    go_wp2_with fail
    refine bodyPost_ret (v := .string ((ss ++ ⟨#[32]⟩) ++ sh)) (by simp [results, Tryz.results28, go_sem]) rfl ?_
    exact ⟨rfl, k2.trans k3⟩
end
end Go.Proofs.Qxb6500275aGreatDoor
