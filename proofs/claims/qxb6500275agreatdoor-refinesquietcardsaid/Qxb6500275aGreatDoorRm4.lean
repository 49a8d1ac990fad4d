import Derived.Test.Qxb6500275aGreatDoorRm1
import Derived.Test.Qxb6500275aGreatDoorMe6
import Derived.Test.Qxb6500275aGreatDoorEn1
set_option maxRecDepth 100000
set_option linter.unusedVariables false
set_option linter.unusedSimpArgs false
namespace Go.Proofs.Qxb6500275aGreatDoor
open Go Go.RowKit
/- blocks T become blocks T' -/
structure Gw (w w' : World) (T T' : Nat → Prop) : Prop where
  kp : Kp T w w'
  own : ∀ k, T' k → T k ∨ w.heap.size ≤ k
section
variable {w w' w'' : World} {T T' T'' : Nat → Prop}
theorem Gw.refl (w : World) (T : Nat → Prop) : Gw w w T T := ⟨Kp.refl _ _, fun _ h => .inl h⟩
theorem Gw.trans (h1 : Gw w w' T T') (h2 : Gw w' w'' T' T'') : Gw w w'' T T'' := by
  have s1 := h1.kp.size
  have s2 := h2.kp.size
  refine ⟨⟨h2.kp.os.trans h1.kp.os, h2.kp.tape.trans h1.kp.tape, h2.kp.output.trans h1.kp.output, Nat.le_trans s1 s2, fun k hk hp => ?_⟩, fun k hk => ?_⟩
  · rw [h2.kp.block k (by omega) (fun e => by
      rcases h1.own k e with h | h
      · exact hp h
      · omega), h1.kp.block k hk hp]
  · rcases h2.own k hk with h | h
    · exact h1.own k h
    · exact .inr (by omega)
theorem Gw.same (h : Kp T w w') : Gw w w' T T := ⟨h, fun _ h => .inl h⟩
theorem Gw.quiet (h : Gw w w' T T') (h2 : Kp (fun _ => False) w' w'') : Gw w w'' T T' := h.trans (Gw.same (h2.mono (fun _ h => h.elim)))
end
section
variable {w w' : World} {e : TypeId} {n : Nat} {v : Value} {xs : List Value}
/- one element of one cell more -/
theorem OR.push (h : OR w e 1 v n xs) {t : TypeId} {i : TypeInfo} {z : Value} (ht : Tryz.prog.underlying t = some (.slice e)) (hi : Tryz.prog.info? e = some i) (hz : i.zero = some z)
    (hsize : i.size = 1) (hby : i.bytes ≤ 1000) (hzs : z.cells.size = 1) (hn : n ≤ 100000) (u : Value) (hu : u.oneCell' = true) :
    ∃ v' w', (Builtin.append_ #[t, t] t #[v, .slice (some ⟨w.heap.size, 0, none⟩) 1 1]).run Tryz.prog (w.alloc (.cells #[u] e)) = .ok v' w' ∧ OR w' e 1 v' (n + 1) (xs ++ [u]) ∧ Kp (fun k => v.ownBlock = some k) w w' ∧ OwnO w v v' := by
  have hk : Kp (fun _ => False) w (w.alloc (.cells #[u] e)) := (Kp.refl _ _).alloc _
  obtain ⟨v', w', r1, r2, r3, r4⟩ := (h.keep hk (fun _ _ h => h)).app (ty := t) ht hi hz hsize rfl hzs (by decide) hby hn ⟨w.heap.size, 0, none⟩ 1 [u] rfl (fun j y hy => by
    have : j = 0 := by
      have := (List.getElem?_eq_some_iff.1 hy).1
      simp at this
      exact this
    subst this
    simp at hy
    subst hy
    rw [add_non]
    exact (blk_al w #[u] e).cell (i := 0) (by simp)) (fun y hy => by simp at hy; subst hy; exact hu)
  refine ⟨v', w', r1, r2, (hk.mono (fun _ h => h.elim)).trans r3, fun k hk2 => ?_⟩
  rcases r4 k hk2 with h | h
  · exact .inl h
  · exact .inr (Nat.le_trans hk.size h)
end
theorem u203 : Tryz.prog.underlying 203 = some (.slice 3) := by kernel_rfl
theorem i3i : ∃ i : TypeInfo, Tryz.prog.info? 3 = some i ∧ i.zero = some (.int .i64 0) ∧ i.size = 1 ∧ i.bytes = 8 := by
  have h0 : (Tryz.prog.info? 3).map (fun i => (i.zero, i.size, i.bytes)) = some (some (.int .i64 0), 1, 8) := by kernel_rfl
  cases h : Tryz.prog.info? 3 with
  | none => rw [h] at h0; simp at h0
  | some i =>
    rw [h] at h0
    simp at h0
    exact ⟨i, rfl, h0.1, h0.2.1, h0.2.2⟩
section
variable {w w' : World} {sb : Nat} {vm vt vg : Value} {S : Sm} {P : Nat → Prop}
theorem Ms.lt (h : Ms w sb vm vt vg S) : sb < w.heap.size := by
  obtain ⟨F, b, _⟩ := h.bk
  exact b.lt (by decide)
theorem Ms.fz (h : Ms w sb vm vt vg S) (i : Nat) (hi : i < 5) : w.frozen? ⟨sb, i, none⟩ = false := by
  obtain ⟨F, b, _⟩ := h.bk
  exact b.fz hi
/- a byte more -/
theorem Ms.pushB (h : Ms w sb vm vt vg S) (hn : S.bs.length ≤ 1000) (x : Nat) :
    ∃ vm' w', (Builtin.append_ #[104, 104] 104 #[vm, .slice (some ⟨w.heap.size, 0, none⟩) 1 1]).run Tryz.prog (w.alloc (.cells #[.int .u8 (x : Int)] 5)) = .ok vm' w' ∧ (w'.cell? ⟨sb, 1, none⟩ = some vm ∧ w'.frozen? ⟨sb, 1, none⟩ = false) ∧
      Ms (w'.setCell ⟨sb, 1, none⟩ vm') sb vm' vt vg { S with bs := S.bs ++ [x] } ∧ Gw w (w'.setCell ⟨sb, 1, none⟩ vm') (Mt sb vm vt vg) (Mt sb vm' vt vg) := by
  obtain ⟨i, i1, i2, i3, i4⟩ := i5
  obtain ⟨vm', w', r1, r2, r3, r4⟩ := h.m.push u5 i1 i2 i3 (by omega) rfl (by omega) (.int .u8 (x : Int)) rfl
  have hsb := h.lt
  obtain ⟨F, b, f0, f1, f2, f3, f4⟩ := h.bk
  have hns : vm.ownBlock ≠ some sb := fun e => (h.am sb e).1 rfl
  have b' := b.keep r3 hns
  have hlt' : ∀ k, vm.ownBlock = some k ∨ vt.ownBlock = some k ∨ vg.ownBlock = some k → k < w.heap.size := fun k hk => by
    rcases hk with hk | hk | hk
    · exact h.m.lt hk
    · exact h.t.lt hk
    · exact h.g.lt hk
  have hne : ∀ k, vm'.ownBlock = some k → k ≠ sb ∧ vt.ownBlock ≠ some k ∧ vg.ownBlock ≠ some k := fun k hk => by
    rcases r4 k hk with hh | hh
    · exact h.am k hh
    · exact ⟨by omega, fun e => by have := hlt' k (.inr (.inl e)); omega, fun e => by have := hlt' k (.inr (.inr e)); omega⟩
  refine ⟨vm', w', r1, ⟨by rw [b'.cell (by decide), f1], b'.fz (by decide)⟩, ⟨⟨_, b'.set (i := 1) (by decide) vm', ?_⟩, ?_, ?_, ?_, hne, h.at_, h.ag⟩, ⟨?_, ?_⟩⟩
  · simp [upd, f0, f2, f3, f4]
  · dsimp only
    rw [List.length_append]
    show OR _ _ _ _ (S.bs.length + 1) (rowB (S.bs ++ [x]))
    have : rowB (S.bs ++ [x]) = rowB S.bs ++ [.int .u8 (x : Int)] := by unfold rowB; rw [List.map_append]; rfl
    rw [this]
    exact r2.other (fun k hk => (hne k hk).1) _
  · exact (h.t.keep r3 (fun k hk e => (h.am k e).2.1 hk)).other (fun k hk => (h.at_ k hk).1) _
  · exact (h.g.keep r3 (fun k hk e => (h.am k e).2.2 hk)).other (fun k hk => h.ag k hk) _
  · exact (r3.mono (fun k hk => (.inr (.inl hk) : Mt sb vm vt vg k))).setCell (p := ⟨sb, 1, none⟩) (.inl (.inl rfl)) _
  · intro k hk
    rcases hk with hk | hk | hk | hk
    · exact .inl (.inl hk)
    · rcases r4 k hk with hh | hh
      · exact .inl (.inr (.inl hh))
      · exact .inr hh
    · exact .inl (.inr (.inr (.inl hk)))
    · exact .inl (.inr (.inr (.inr hk)))
/- a table's cell more -/
theorem Ms.pushT (h : Ms w sb vm vt vg S) (hn : S.tab.length ≤ 1000) (x : Int) :
    ∃ vt' w', (Builtin.append_ #[203, 203] 203 #[vt, .slice (some ⟨w.heap.size, 0, none⟩) 1 1]).run Tryz.prog (w.alloc (.cells #[.int .i64 x] 3)) = .ok vt' w' ∧ (w'.cell? ⟨sb, 3, none⟩ = some vt ∧ w'.frozen? ⟨sb, 3, none⟩ = false) ∧
      Ms (w'.setCell ⟨sb, 3, none⟩ vt') sb vm vt' vg { S with tab := S.tab ++ [x] } ∧ Gw w (w'.setCell ⟨sb, 3, none⟩ vt') (Mt sb vm vt vg) (Mt sb vm vt' vg) := by
  obtain ⟨i, i1, i2, i3, i4⟩ := i3i
  obtain ⟨vt', w', r1, r2, r3, r4⟩ := h.t.push u203 i1 i2 i3 (by omega) rfl (by omega) (.int .i64 x) rfl
  have hsb := h.lt
  obtain ⟨F, b, f0, f1, f2, f3, f4⟩ := h.bk
  have hns : vt.ownBlock ≠ some sb := fun e => (h.at_ sb e).1 rfl
  have b' := b.keep r3 hns
  have hne : ∀ k, vt'.ownBlock = some k → k ≠ sb ∧ vm.ownBlock ≠ some k ∧ vg.ownBlock ≠ some k := fun k hk => by
    rcases r4 k hk with hh | hh
    · exact ⟨(h.at_ k hh).1, fun e => (h.am k e).2.1 hh, (h.at_ k hh).2⟩
    · exact ⟨by omega, fun e => by have := h.m.lt e; omega, fun e => by have := h.g.lt e; omega⟩
  refine ⟨vt', w', r1, ⟨by rw [b'.cell (by decide), f3], b'.fz (by decide)⟩, ⟨⟨_, b'.set (i := 3) (by decide) vt', ?_⟩, ?_, ?_, ?_, fun k hk => ⟨(h.am k hk).1, fun e => (hne k e).2.1 hk, (h.am k hk).2.2⟩, fun k hk => ⟨(hne k hk).1, (hne k hk).2.2⟩, h.ag⟩, ⟨?_, ?_⟩⟩
  · simp [upd, f0, f1, f2, f4]
  · exact (h.m.keep r3 (fun k hk e => (h.am k hk).2.1 e)).other (fun k hk => (h.am k hk).1) _
  · dsimp only
    rw [List.length_append]
    show OR _ _ _ _ (S.tab.length + 1) (rowT (S.tab ++ [x]))
    have : rowT (S.tab ++ [x]) = rowT S.tab ++ [.int .i64 x] := by unfold rowT; rw [List.map_append]; rfl
    rw [this]
    exact r2.other (fun k hk => (hne k hk).1) _
  · exact (h.g.keep r3 (fun k hk e => (h.at_ k e).2 hk)).other (fun k hk => h.ag k hk) _
  · exact (r3.mono (fun k hk => (.inr (.inr (.inl hk)) : Mt sb vm vt vg k))).setCell (p := ⟨sb, 3, none⟩) (.inl (.inl rfl)) _
  · intro k hk
    rcases hk with hk | hk | hk | hk
    · exact .inl (.inl hk)
    · exact .inl (.inr (.inl hk))
    · rcases r4 k hk with hh | hh
      · exact .inl (.inr (.inr (.inl hh)))
      · exact .inr hh
    · exact .inl (.inr (.inr (.inr hk)))
end
end Go.Proofs.Qxb6500275aGreatDoor
