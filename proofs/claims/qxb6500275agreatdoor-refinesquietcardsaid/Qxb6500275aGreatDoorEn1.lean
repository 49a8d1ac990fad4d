import Derived.Test.Qxb6500275aGreatDoorHo0
import Derived.Test.Qxb6500275aGreatDoorSec0
import Derived.Laws.AppendOwn
set_option maxRecDepth 100000
set_option linter.unusedVariables false
set_option linter.unusedSimpArgs false
namespace Go.Proofs.Qxb6500275aGreatDoor
open Go Go.RowKit
theorem blk_al (w : World) (C : Array Value) (t : TypeId) : Blk (w.alloc (.cells C t)) w.heap.size C.size (fun i => C[i]!) := by
  intro i hi
  rw [World.cell?_alloc_at _ _ _ _ rfl, World.frozen?_alloc_at _ _ _ _ rfl]
  exact ⟨by simp [hi], rfl⟩
/- A BUFFER OF BYTES: nil, or a block of its own -/
def Bf (w : World) (v : Value) (l : List Nat) : Prop :=
  (v = .slice none 0 0 ∧ l = []) ∨ ∃ b cap D, v = .slice (some ⟨b, 0, none⟩) l.length cap ∧ b < w.heap.size ∧ l.length ≤ cap ∧ Blk w b cap D ∧ ∀ (i x : Nat), l[i]? = some x → D i = .int .u8 x
/- where a grown buffer lies -/
def Own2 (w : World) (v v' : Value) : Prop := ∀ k, v'.ownBlock = some k → v.ownBlock = some k ∨ w.heap.size ≤ k
section
variable {w w' u U : World} {v v' v'' : Value} {l xs : List Nat}
theorem Bf.lt (h : Bf w v l) {k : Nat} (hk : v.ownBlock = some k) : k < w.heap.size := by
  rcases h with ⟨rfl, _⟩ | ⟨b, cap, D, rfl, h1, _⟩
  · simp [Value.ownBlock] at hk
  · simp [Value.ownBlock] at hk; omega
theorem Bf.slice (h : Bf w v l) : ∃ a c, v = .slice a l.length c := by
  rcases h with ⟨rfl, rfl⟩ | ⟨b, cap, D, rfl, _⟩
  · exact ⟨none, 0, rfl⟩
  · exact ⟨_, cap, rfl⟩
theorem Bf.keep {P : Nat → Prop} (h : Bf w v l) (hk : Kp P w w') (hp : ∀ k, v.ownBlock = some k → ¬ P k) : Bf w' v l := by
  rcases h with h | ⟨b, cap, D, rfl, h1, h2, h3, h4⟩
  · exact .inl h
  · exact .inr ⟨b, cap, D, rfl, Nat.lt_of_lt_of_le h1 hk.size, h2, h3.keep hk (hp b rfl), h4⟩
theorem Bf.app (h : Bf w v l) (a : Addr) (c : Nat) (hx : ∀ (j x : Nat), xs[j]? = some x → w.cell? (a.add j) = some (.int .u8 x)) (hsm : l.length + xs.length ≤ 100000) :
    ∃ v' w', (Builtin.append_ #[104, 104] 104 #[v, .slice (some a) xs.length c]).run Tryz.prog w = .ok v' w' ∧ Bf w' v' (l ++ xs) ∧ Kp (fun k => v.ownBlock = some k) w w' ∧ Own2 w v v' := by
  have hget : ∀ j u, (xs.map (fun x : Nat => Value.int .u8 x))[j]? = some u → w.cell? (a.add j) = some u := fun j u hu => by
    rw [List.getElem?_map] at hu
    cases hj : xs[j]? with
    | none => rw [hj] at hu; simp at hu
    | some x => rw [hj] at hu; simp at hu; rw [← hu]; exact hx j x hj
  have hone : ∀ u ∈ xs.map (fun x : Nat => Value.int .u8 x), u.oneCell' = true := fun u hu => by
    obtain ⟨x, _, rfl⟩ := List.mem_map.1 hu; rfl
  rcases h with ⟨rfl, rfl⟩ | ⟨b, cap, D, rfl, h1, h2, h3, h4⟩
  · obtain ⟨i, g2, g3, g4, g5⟩ := i5
    obtain ⟨v', w', r1, r2, r3, r4⟩ := run_append_own (P := Tryz.prog) w w.heap.size 104 104 5 i (.int .u8 0) 1 1 u5 g2 g3 g4 g5 rfl (by decide) (.slice none 0 0) 0 [] ⟨rfl, .inl ⟨rfl, rfl⟩⟩ a xs.length c (xs.map (fun x : Nat => Value.int .u8 x)) (by simp) hget hone (by simp only [maxLen]; simp at hsm; omega) (by simp at hsm; omega) (Nat.le_refl _)
    refine ⟨v', w', r1, ?_, kp_grown r3 (fun k hk => hk), ?_⟩
    · obtain ⟨e1, e2⟩ := r2
      rcases e2 with ⟨e2, e3⟩ | ⟨g, cap, cur, e2, e3, e4, e5, e6, e7, e8⟩
      · refine .inl ⟨e2, ?_⟩
        rw [List.nil_append]
        exact List.length_eq_zero_iff.1 (by omega)
      · refine .inr ⟨g, cap, fun i => cur[i]!, by rw [e2]; simp, (Array.getElem?_eq_some_iff.1 e4).1, by simp; omega, fun k hk => ?_, fun i x hi => ?_⟩
        · have hkc : k < cur.size := by omega
          refine ⟨?_, by simp [World.frozen?, e4]⟩
          rw [cell_of_row w' g k cur 5 (0, 0) e4]
          dsimp only
          rw [getElem!_pos cur k hkc]
          exact Array.getElem?_eq_getElem hkc
        · rw [List.nil_append] at hi e8
          have hil := (List.getElem?_eq_some_iff.1 hi).1
          have : (cur.toList.take ((0 + xs.length) * 1))[i]? = some (.int .u8 x) := by rw [e8, List.getElem?_map, hi]; rfl
          rw [List.getElem?_take, if_pos (by omega)] at this
          have hu2 : cur[i]? = some (.int .u8 x) := by simpa using this
          have := Array.getElem?_eq_some_iff.1 hu2
          show cur[i]! = _
          rw [getElem!_pos cur i this.1]; exact this.2
    · intro k hk
      obtain ⟨e1, e2⟩ := r2
      rcases e2 with ⟨e2, e3⟩ | ⟨g, cap, cur, e2, e3, e4, _⟩
      · rw [e2] at hk; simp [Value.ownBlock] at hk
      · rw [e2] at hk; simp [Value.ownBlock] at hk; exact .inr (by omega)
  · obtain ⟨b', cap', w', r1, r2⟩ := app_u8 w 104 h3 h2 a c (xs.map (fun x : Nat => Value.int .u8 x)) hget hone (by simp; omega)
    rw [List.length_map] at r1
    refine ⟨_, w', r1, ?_, r2.kp.mono (fun k e => by rw [e]; rfl), fun k hk => ?_⟩
    · obtain ⟨D', d1, d2, d3⟩ := r2.blk
      have hc := r2.capl
      rw [List.length_map] at hc
      refine .inr ⟨b', cap', D', by rw [List.length_append], ?_, by rw [List.length_append]; exact hc, d1, fun i x hi => ?_⟩
      · rcases r2.at_ with e | e
        · rw [e]; exact Nat.lt_of_lt_of_le h1 r2.kp.size
        · rcases Nat.eq_zero_or_pos cap' with e0 | e0
          · rw [(r2.room (by rw [List.length_map]; omega)).1]; exact Nat.lt_of_lt_of_le h1 r2.kp.size
          · exact d1.lt e0
      · by_cases hil : i < l.length
        · rw [List.getElem?_append_left hil] at hi
          rw [d2 i hil]; exact h4 i x hi
        · rw [List.getElem?_append_right (by omega)] at hi
          have := d3 (i - l.length) (.int .u8 x) (by rw [List.getElem?_map, hi]; rfl)
          rwa [show l.length + (i - l.length) = i by omega] at this
    · simp [Value.ownBlock] at hk
      rcases r2.at_ with e | e
      · exact .inl (by simp [Value.ownBlock]; omega)
      · exact .inr (by omega)
theorem Own2.refl (w : World) (v : Value) : Own2 w v v := fun k h => .inl h
theorem Own2.trans (h1 : Own2 w v v') (hs : w.heap.size ≤ w'.heap.size) (h2 : Own2 w' v' v'') : Own2 w v v'' := fun k hk => by
  rcases h2 k hk with h | h
  · exact h1 k h
  · exact .inr (by omega)
end
/- A WRITER: a cell that holds a buffer -/
structure Wr (w : World) (wb : Nat) (v : Value) (l : List Nat) : Prop where
  c : w.cell? ⟨wb, 0, none⟩ = some v
  z : w.frozen? ⟨wb, 0, none⟩ = false
  f : Bf w v l
  n : v.ownBlock ≠ some wb
/- what a writer's method may touch -/
structure We (w w' : World) (wb : Nat) (v v' : Value) : Prop where
  kp : Kp (fun k => k = wb ∨ v.ownBlock = some k) w w'
  ow : Own2 w v v'
/- how a writer's method ends -/
def Wq (w : World) (wb : Nat) (v : Value) (l : List Nat) (en : Ending) (w' : World) : Prop := en = .returned (.tuple #[]) ∧ ∃ v', Wr w' wb v' l ∧ We w w' wb v v'
section
variable {w w' u : World} {wb : Nat} {v v' v'' : Value} {l xs : List Nat}
theorem We.refl (w : World) (wb : Nat) (v : Value) : We w w wb v v := ⟨Kp.refl _ _, Own2.refl w v⟩
theorem We.trans (h1 : We w w' wb v v') (h2 : We w' u wb v' v'') : We w u wb v v'' := by
  have s1 := h1.kp.size
  have s2 := h2.kp.size
  refine ⟨⟨h2.kp.os.trans h1.kp.os, h2.kp.tape.trans h1.kp.tape, h2.kp.output.trans h1.kp.output, Nat.le_trans s1 s2, fun k hk hp => ?_⟩, h1.ow.trans s1 h2.ow⟩
  rw [h2.kp.block k (by omega) (fun e => by
    rcases e with e | e
    · exact hp (.inl e)
    · rcases h1.ow k e with h | h
      · exact hp (.inr h)
      · omega), h1.kp.block k hk hp]
theorem We.quiet (h1 : We w w' wb v v') (h2 : Kp (fun _ => False) w' u) : We w u wb v v' :=
  h1.trans ⟨h2.mono (fun _ h => h.elim), Own2.refl _ _⟩
theorem We.before (h2 : Kp (fun _ => False) w u) (h1 : We u w' wb v v') : We w w' wb v v' :=
  (We.refl w wb v).quiet h2 |>.trans h1
theorem Wr.lt (h : Wr w wb v l) : wb < w.heap.size := lt_of_cell h.c
theorem Wr.keep {P : Nat → Prop} (h : Wr w wb v l) (hk : Kp P w w') (hp : ¬ P wb) (hv : ∀ k, v.ownBlock = some k → ¬ P k) : Wr w' wb v l :=
  ⟨by rw [hk.cell h.lt hp]; exact h.c, by rw [hk.frozen h.lt hp]; exact h.z, h.f.keep hk hv, h.n⟩
theorem Wr.quiet (h : Wr w wb v l) (hk : Kp (fun _ => False) w w') : Wr w' wb v l := h.keep hk (fun h => h) (fun _ _ h => h)
end
/- bytes -/
set_option maxHeartbeats 2000000 in
theorem bytes_calls {w : World} {wb : Nat} {v : Value} {l xs : List Nat} (h : Wr w wb v l) (a : Addr) (n c : Nat) (hn : xs.length = n) (hx : ∀ (j x : Nat), xs[j]? = some x → w.cell? (a.add j) = some (.int .u8 x)) (hsm : l.length + xs.length ≤ 100000) :
    Calls Tryz.prog 66 #[.pointer (some ⟨wb, 0, none⟩), .slice (some a) n c] w (Wq w wb v (l ++ xs)) := by
  subst hn
  obtain ⟨v', w', h1, h2, h3, h4⟩ := h.f.app a c hx hsm
  have c0 := h.c
  have hlt := h.lt
  have z0 : w'.frozen? ⟨wb, 0, none⟩ = false := by rw [h3.frozen hlt h.n]; exact h.z
  have c1 : (w'.cell? ⟨wb, 0, none⟩) = some v := by rw [h3.cell hlt h.n]; exact h.c
  have hw' := h3.size
  have HE : Hid (Wq w wb v (l ++ xs) (.returned (.tuple #[])) (w'.setCell ⟨wb, 0, none⟩ v')) := by
    have hn' : v'.ownBlock ≠ some wb := fun e => by
      rcases h4 wb e with h5 | h5
      · exact h.n h5
      · omega
    have hk : Kp (fun k => k = wb) w' (w'.setCell ⟨wb, 0, none⟩ v') := (Kp.refl (fun k => k = wb) w').setCell (p := ⟨wb, 0, none⟩) (.inl rfl) _
    have hB : Blk w' wb 1 (fun _ => v) := fun i hi => by
      have : i = 0 := by omega
      subst this
      exact ⟨c1, z0⟩
    have hB2 := hB.set (i := 0) (by decide) v'
    refine ⟨rfl, v', ⟨by have := hB2.cell (i := 0) (by decide); rwa [upd_same] at this, hB2.fz (i := 0) (by decide), h2.keep hk (fun k hk e => hn' (e ▸ hk)), hn'⟩, ⟨?_, h4⟩⟩
    exact (h3.mono (fun k e => .inr e)).trans (hk.mono (fun k e => .inl e))
  obtain ⟨a', c', hv'⟩ := h2.slice
  obtain ⟨n', hn'⟩ : ∃ n, (l ++ xs).length = n := ⟨_, rfl⟩
  rw [hn'] at hv'
  subst hv'
  clear h2 h3 h4 hx hw' hn'
  go_enter Tryz.func66, Tryz.ntmps66
  go_wp2_with (at_builtin; refine wpList_app rfl _ _ 104 rfl h1 ?_)
  refine bodyPost_ret (v := .tuple #[]) (by simp [results, Tryz.results66, go_sem]) rfl ?_
  exact HE.out
end Go.Proofs.Qxb6500275aGreatDoor
