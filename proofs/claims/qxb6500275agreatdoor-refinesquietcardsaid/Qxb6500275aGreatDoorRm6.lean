import Derived.Test.Qxb6500275aGreatDoorRm5
import Derived.Test.Qxb6500275aGreatDoorMe9
import Derived.Test.Qxb6500275aGreatDoorMe7
set_option maxRecDepth 100000
set_option linter.unusedVariables false
set_option linter.unusedSimpArgs false
namespace Go.Proofs.Qxb6500275aGreatDoor
open Go Go.RowKit
theorem made_one (z : Value) (n : Nat) : (madeCells #[z] n).toList = List.replicate n z := by
  unfold madeCells
  apply List.ext_getElem
  · simp
  · intro i h1 h2
    simp [Nat.mod_one]
section
variable {w w' : World} {sb : Nat} {vm vt vg : Value} {S : Sm} {P : Nat → Prop}
theorem Ms.fld0 (h : Ms w sb vm vt vg S) (b : Bool) : Ms (w.setCell ⟨sb, 0, none⟩ (.bool b)) sb vm vt vg { S with has := b } := by
  obtain ⟨F, bk, f0, f1, f2, f3, f4⟩ := h.bk
  exact ⟨⟨_, bk.set (i := 0) (by decide) (.bool b), by simp [upd, f1, f2, f3, f4]⟩, h.m.other (fun k e => (h.am k e).1) _, h.t.other (fun k e => (h.at_ k e).1) _, h.g.other (fun k e => h.ag k e) _, h.am, h.at_, h.ag⟩
theorem Ms.fldC (h : Ms w sb vm vt vg S) (c : Nat) : Ms (w.setCell ⟨sb, 2, none⟩ (.int .i64 (c : Int))) sb vm vt vg { S with cap := c * 64 } := by
  obtain ⟨F, bk, f0, f1, f2, f3, f4⟩ := h.bk
  have : c * 64 / 64 = c := by omega
  exact ⟨⟨_, bk.set (i := 2) (by decide) (.int .i64 (c : Int)), by simp [upd, f0, f1, this, f3, f4]⟩, h.m.other (fun k e => (h.am k e).1) _, h.t.other (fun k e => (h.at_ k e).1) _, h.g.other (fun k e => h.ag k e) _, h.am, h.at_, h.ag⟩
theorem Ms.fldM (h : Ms w sb vm vt vg S) {v' : Value} {bs' : List Nat} (hO : OR w 5 1 v' bs'.length (rowB bs')) (hne : ∀ k, v'.ownBlock = some k → k ≠ sb ∧ vt.ownBlock ≠ some k ∧ vg.ownBlock ≠ some k) : Ms (w.setCell ⟨sb, 1, none⟩ v') sb v' vt vg { S with bs := bs' } := by
  obtain ⟨F, bk, f0, f1, f2, f3, f4⟩ := h.bk
  exact ⟨⟨_, bk.set (i := 1) (by decide) v', by simp [upd, f0, f2, f3, f4]⟩, hO.other (fun k e => (hne k e).1) _, h.t.other (fun k e => (h.at_ k e).1) _, h.g.other (fun k e => h.ag k e) _, hne, h.at_, h.ag⟩
theorem Ms.fldT (h : Ms w sb vm vt vg S) {v' : Value} {l' : List Int} (hO : OR w 3 1 v' l'.length (rowT l')) (hne : ∀ k, v'.ownBlock = some k → k ≠ sb ∧ vm.ownBlock ≠ some k ∧ vg.ownBlock ≠ some k) : Ms (w.setCell ⟨sb, 3, none⟩ v') sb vm v' vg { S with tab := l' } := by
  obtain ⟨F, bk, f0, f1, f2, f3, f4⟩ := h.bk
  exact ⟨⟨_, bk.set (i := 3) (by decide) v', by simp [upd, f0, f1, f2, f4]⟩, h.m.other (fun k e => (h.am k e).1) _, hO.other (fun k e => (hne k e).1) _, h.g.other (fun k e => h.ag k e) _, fun k e => ⟨(h.am k e).1, fun e2 => (hne k e2).2.1 e, (h.am k e).2.2⟩, fun k e => ⟨(hne k e).1, (hne k e).2.2⟩, h.ag⟩
theorem Ms.fldG (h : Ms w sb vm vt vg S) {v' : Value} {l' : List Int} (hO : OR w 91 1 v' l'.length (rowG l')) (hne : ∀ k, v'.ownBlock = some k → k ≠ sb ∧ vm.ownBlock ≠ some k ∧ vt.ownBlock ≠ some k) : Ms (w.setCell ⟨sb, 4, none⟩ v') sb vm vt v' { S with gl := l' } := by
  obtain ⟨F, bk, f0, f1, f2, f3, f4⟩ := h.bk
  exact ⟨⟨_, bk.set (i := 4) (by decide) v', by simp [upd, f0, f1, f2, f3]⟩, h.m.other (fun k e => (h.am k e).1) _, h.t.other (fun k e => (h.at_ k e).1) _, hO.other (fun k e => (hne k e).1) _, fun k e => ⟨(h.am k e).1, (h.am k e).2.1, fun e2 => (hne k e2).2.1 e⟩, fun k e => ⟨(h.at_ k e).1, fun e2 => (hne k e2).2.2 e⟩, fun k e => (hne k e).1⟩
end
/- amid a method: the store now, and its blocks since the start -/
def Mq (w u : World) (T : Nat → Prop) (sb : Nat) (vm vt vg : Value) (S : Sm) : Prop := Ms u sb vm vt vg S ∧ Gw w u T (Mt sb vm vt vg)
section
variable {w u u' : World} {T : Nat → Prop} {sb : Nat} {vm vt vg : Value} {S : Sm} {P : Nat → Prop}
theorem mt_set (u : World) (sb i : Nat) (vm vt vg v : Value) : Kp (Mt sb vm vt vg) u (u.setCell ⟨sb, i, none⟩ v) := kp_set1 u v (.inl rfl)
theorem Mq.f0 (h : Mq w u T sb vm vt vg S) (b : Bool) : Mq w (u.setCell ⟨sb, 0, none⟩ (.bool b)) T sb vm vt vg { S with has := b } := ⟨h.1.fld0 b, h.2.trans (Gw.same (mt_set _ _ _ _ _ _ _))⟩
theorem Mq.fC (h : Mq w u T sb vm vt vg S) (c : Nat) : Mq w (u.setCell ⟨sb, 2, none⟩ (.int .i64 (c : Int))) T sb vm vt vg { S with cap := c * 64 } := ⟨h.1.fldC c, h.2.trans (Gw.same (mt_set _ _ _ _ _ _ _))⟩
theorem nil_own {k : Nat} (h : (Value.slice none 0 0).ownBlock = some k) : False := by simp [Value.ownBlock] at h
theorem Mq.fMn (h : Mq w u T sb vm vt vg S) : Mq w (u.setCell ⟨sb, 1, none⟩ (.slice none 0 0)) T sb (.slice none 0 0) vt vg { S with bs := [] } := by
  refine ⟨h.1.fldM (OR.nil _ _ _) (fun k e => (nil_own e).elim), h.2.trans ⟨mt_set _ _ _ _ _ _ _, fun k hk => ?_⟩⟩
  rcases hk with hk | hk | hk | hk
  · exact .inl (.inl hk)
  · exact (nil_own hk).elim
  · exact .inl (.inr (.inr (.inl hk)))
  · exact .inl (.inr (.inr (.inr hk)))
theorem Mq.fTn (h : Mq w u T sb vm vt vg S) : Mq w (u.setCell ⟨sb, 3, none⟩ (.slice none 0 0)) T sb vm (.slice none 0 0) vg { S with tab := [] } := by
  refine ⟨h.1.fldT (OR.nil _ _ _) (fun k e => (nil_own e).elim), h.2.trans ⟨mt_set _ _ _ _ _ _ _, fun k hk => ?_⟩⟩
  rcases hk with hk | hk | hk | hk
  · exact .inl (.inl hk)
  · exact .inl (.inr (.inl hk))
  · exact (nil_own hk).elim
  · exact .inl (.inr (.inr (.inr hk)))
theorem made_own {u : World} {n k : Nat} (h : (Value.slice (some ⟨u.heap.size, 0, none⟩) n n).ownBlock = some k) : k = u.heap.size := by simp [Value.ownBlock] at h; exact h.symm
theorem Mq.fMm (h : Mq w u T sb vm vt vg S) (n : Nat) (hn : n ≤ 1000) : Mq w ((u.alloc (.cells (madeCells Z104 (n * 1)) 5)).setCell ⟨sb, 1, none⟩ (.slice (some ⟨u.heap.size, 0, none⟩) n n)) T sb (.slice (some ⟨u.heap.size, 0, none⟩) n n) vt vg { S with bs := List.replicate n 0 } := by
  have hk : Kp (fun _ => False) u (u.alloc (.cells (madeCells Z104 (n * 1)) 5)) := (Kp.refl _ _).alloc _
  have h1 := h.1.keep hk (fun _ _ h => h)
  have hO := OR.made u 5 1 n (madeCells Z104 (n * 1)) (by simp only [maxLen]; omega) (size_madeCells _ _)
  rw [show Z104 = #[.int .u8 0] from rfl, made_one] at hO
  have hsb := h.1.lt
  refine ⟨h1.fldM ?_ (fun k e => ?_), h.2.trans ⟨(hk.mono (fun _ h => h.elim)).trans (mt_set _ _ _ vm vt vg _), fun k hk => ?_⟩⟩
  · rw [List.length_replicate]
    have : rowB (List.replicate n 0) = List.replicate (n * 1) (.int .u8 0) := by unfold rowB; rw [List.map_replicate, Nat.mul_one]; rfl
    rw [this]
    exact hO
  · have := made_own e
    subst this
    exact ⟨by omega, fun e => by have := h.1.t.lt e; omega, fun e => by have := h.1.g.lt e; omega⟩
  · rcases hk with hk | hk | hk | hk
    · exact .inl (.inl hk)
    · exact .inr (by have := made_own hk; omega)
    · exact .inl (.inr (.inr (.inl hk)))
    · exact .inl (.inr (.inr (.inr hk)))
theorem Mq.fGm (h : Mq w u T sb vm vt vg S) (n : Nat) (hn : n ≤ 1000) : Mq w ((u.alloc (.cells (madeCells #[.int .u64 0] (n * 1)) 91)).setCell ⟨sb, 4, none⟩ (.slice (some ⟨u.heap.size, 0, none⟩) n n)) T sb vm vt (.slice (some ⟨u.heap.size, 0, none⟩) n n) { S with gl := List.replicate n 0 } := by
  have hk : Kp (fun _ => False) u (u.alloc (.cells (madeCells #[.int .u64 0] (n * 1)) 91)) := (Kp.refl _ _).alloc _
  have h1 := h.1.keep hk (fun _ _ h => h)
  have hO := OR.made u 91 1 n (madeCells #[.int .u64 0] (n * 1)) (by simp only [maxLen]; omega) (size_madeCells _ _)
  rw [made_one] at hO
  have hsb := h.1.lt
  refine ⟨h1.fldG ?_ (fun k e => ?_), h.2.trans ⟨(hk.mono (fun _ h => h.elim)).trans (mt_set _ _ _ vm vt vg _), fun k hk => ?_⟩⟩
  · rw [List.length_replicate]
    have : rowG (List.replicate n 0) = List.replicate (n * 1) (.int .u64 0) := by unfold rowG; rw [List.map_replicate, Nat.mul_one]
    rw [this]
    exact hO
  · have := made_own e
    subst this
    exact ⟨by omega, fun e => by have := h.1.m.lt e; omega, fun e => by have := h.1.t.lt e; omega⟩
  · rcases hk with hk | hk | hk | hk
    · exact .inl (.inl hk)
    · exact .inl (.inr (.inl hk))
    · exact .inl (.inr (.inr (.inl hk)))
    · exact .inr (by have := made_own hk; omega)
theorem Mq.pT (h : Mq w u T sb vm vt vg S) (hn : S.tab.length ≤ 1000) (x : Int) :
    ∃ vt' w', (Builtin.append_ #[203, 203] 203 #[vt, .slice (some ⟨u.heap.size, 0, none⟩) 1 1]).run Tryz.prog (u.alloc (.cells #[.int .i64 x] 3)) = .ok vt' w' ∧ (w'.cell? ⟨sb, 3, none⟩ = some vt ∧ w'.frozen? ⟨sb, 3, none⟩ = false) ∧
      Mq w (w'.setCell ⟨sb, 3, none⟩ vt') T sb vm vt' vg { S with tab := S.tab ++ [x] } := by
  obtain ⟨vt', w', r1, r2, r3, r4⟩ := h.1.pushT hn x
  exact ⟨vt', w', r1, r2, r3, h.2.trans r4⟩
/- the loop of Reset and what is behind it -/
def Rz (w : World) (T : Nat → Prop) (sb : Nat) (S : Sm) (en : Ending) (w' : World) : Prop := en = .returned (.int .i64 0) ∧ ∃ vm vt vg, Ms w' sb vm vt vg S ∧ Gw w w' T (Mt sb vm vt vg)
end
end Go.Proofs.Qxb6500275aGreatDoor
