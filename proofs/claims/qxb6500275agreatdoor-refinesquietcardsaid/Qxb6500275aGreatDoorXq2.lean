import Derived.Test.Qxb6500275aGreatDoorXq1
set_option maxRecDepth 100000
set_option linter.unusedVariables false
set_option linter.unusedSimpArgs false
namespace Go.Proofs.Qxb6500275aGreatDoor
open Go Go.RowKit
section
variable {u : World} {N : EN} {n : Nat} {S : Sm} {H : Hm} {va : Option Addr} {vn vc : Nat} {vs : List MV}
/- the root is laid -/
theorem Em.pushRoot (h : Em u N n S H) (hf : N.fs = []) (hv : N.vf = .slice none 0 0) (hO : OR u 229 2 (.slice va vn vc) vs.length (valC vs)) (hd : ∀ k, (Value.slice va vn vc).ownBlock = some k → ¬ N.all k) :
    ∃ v' w', (Builtin.append_ #[143, 143] 143 #[.slice none 0 0, .slice (some ⟨u.heap.size, 0, none⟩) 1 1]).run Tryz.prog (u.alloc (.cells #[.int .i64 (-1), .int .i64 0, .slice none 0 0, .slice va vn vc, .slice none 0 0] 301)) = .ok v' w' ∧ (∃ a n c, v' = .slice a n c) ∧
      (w'.cell? ⟨N.xb, 3, none⟩ = some (.slice none 0 0) ∧ w'.frozen? ⟨N.xb, 3, none⟩ = false) ∧
      Em (w'.setCell ⟨N.xb, 3, none⟩ v') { N with vf := v', fs := [(rootM vs, ⟨.slice none 0 0, .slice va vn vc, .slice none 0 0⟩)] } n S H ∧
      Gw u (w'.setCell ⟨N.xb, 3, none⟩ v') (fun k => N.all k ∨ (Value.slice va vn vc).ownBlock = some k) ({ N with vf := v', fs := [(rootM vs, ⟨.slice none 0 0, .slice va vn vc, .slice none 0 0⟩)] } : EN).all := by
  have hF : FrM u (rootM vs, ⟨.slice none 0 0, .slice va vn vc, .slice none 0 0⟩) := ⟨OR.nil _ _ _, hO, OR.nil _ _ _, fun k e => (nil_own2 e).elim, fun k e e2 => nil_own2 e2⟩
  obtain ⟨v', w', r1, r2, r3, r4⟩ := (fstk_nil u).pushG (by simp) hF (fun k _ e => fsB_nil e)
  rw [List.nil_append] at r2
  have r3' : Kp (fun _ => False) u w' := r3.mono (fun k e => nil_own2 e)
  have hxlt : N.xb < u.heap.size := h.lt (i := 0) rfl
  have hx3 := h.c.2.2.2.1
  rw [hv] at hx3
  have hset : Kp (fun k => k = N.xb) w' (w'.setCell ⟨N.xb, 3, none⟩ v') := kp_set1 w' v' rfl
  have hx : ∀ i k, i ≠ 0 → N.own i k → k ≠ N.xb := fun i k hi hk e => h.ap i 0 k hi hk e
  have hown : ∀ k, FsB v' [(rootM vs, (⟨.slice none 0 0, .slice va vn vc, .slice none 0 0⟩ : FT3))] k → u.heap.size ≤ k ∨ (Value.slice va vn vc).ownBlock = some k := fun k hk => by
    rcases hk with e | ⟨y, hy, e⟩
    · rcases r4 k e with h5 | h5
      · exact (nil_own2 h5).elim
      · exact .inl h5
    · simp at hy
      subst hy
      rcases e with e | e | e
      · exact (nil_own2 e).elim
      · exact .inr e
      · exact (nil_own2 e).elim
  have h1 : ∀ i, i ≠ 4 → ∀ k, ({ N with vf := v', fs := [(rootM vs, ⟨.slice none 0 0, .slice va vn vc, .slice none 0 0⟩)] } : EN).own i k → N.own i k := fun i hi k hk => by
    match i, hi, hk with
    | 0, _, hk => exact hk
    | 1, _, hk => exact hk
    | 2, _, hk => exact hk
    | 3, _, hk => exact hk
    | 4, hi, _ => exact absurd rfl hi
    | n + 5, _, hk => exact hk.elim
  have hfx : ∀ k, FsB v' [(rootM vs, (⟨.slice none 0 0, .slice va vn vc, .slice none 0 0⟩ : FT3))] k → k ≠ N.xb := fun k hk e => by
    rcases hown k hk with h5 | h5
    · omega
    · exact hd k h5 ⟨0, e⟩
  obtain ⟨F, bk, f0, f1, f2, f3, f4⟩ := h.xk
  refine ⟨v', w', r1, ?_, ⟨?_, ?_⟩, ⟨⟨_, (bk.keep r3' (fun h => h)).set (i := 3) (by decide) v', by simp [upd, f0, f1, f2, f4]⟩, (h.st.keep r3' (fun _ _ h => h)).keep hset (fun k e => hx 1 k (by decide) e), (h.h.keep r3' (fun _ _ h => h)).keep hset (fun k e => hx 2 k (by decide) e), (h.mw.keep r3' (fun _ _ h => h)).keep hset (fun k e => hx 3 k (by decide) e), r2.keep hset hfx, ap_upd2 4 h.ap h1 (fun k hk => ?_)⟩, ⟨?_, fun k hk => ?_⟩⟩
  · obtain ⟨a, c, e⟩ := r2.row.slice
    exact ⟨a, _, c, e⟩
  · rw [r3'.cell (p := ⟨N.xb, 3, none⟩) hxlt (fun h => h)]; exact hx3
  · rw [r3'.frozen (p := ⟨N.xb, 3, none⟩) hxlt (fun h => h)]; exact h.fz 3 (by decide)
  · rcases hown k hk with h5 | h5
    · exact .inr (fun i hi => by have := h.lt hi; omega)
    · exact .inr (fun i hi => hd k h5 ⟨i, hi⟩)
  · exact (r3'.mono (fun _ h => h.elim)).trans (hset.mono (fun k e => .inl ⟨0, e⟩))
  · obtain ⟨i, hi⟩ := hk
    by_cases e : i = 4
    · subst e
      rcases hown k hi with h5 | h5
      · exact .inr h5
      · exact .inl (.inr h5)
    · exact .inl (.inl ⟨i, h1 i e k hi⟩)
/- the frames are dropped -/
theorem Em.dropAll (h : Em u N n S H) : Em (u.setCell ⟨N.xb, 3, none⟩ (.slice none 0 0)) { N with vf := .slice none 0 0, fs := [] } n S H ∧ Gw u (u.setCell ⟨N.xb, 3, none⟩ (.slice none 0 0)) N.all ({ N with vf := .slice none 0 0, fs := [] } : EN).all :=
  h.reslice (fstk_nil u) ⟨Kp.refl _ _, fun k hk => (fsB_nil hk).elim⟩
/- the lowest frame's operands -/
theorem Fstk.low {vf : Value} {x : MF × FT3} {q : List (MF × FT3)} (h : Fstk u vf (x :: q)) : ∃ g cap, vf = .slice (some ⟨g, 0, none⟩) (q.length + 1) cap ∧ q.length + 1 ≤ cap ∧ cap ≤ 9223372036854775807 ∧ u.cell? ⟨g, 3, none⟩ = some x.2.o ∧ FrM u x := by
  obtain ⟨g, cap, hv, h1, h2, h3, h4, h5⟩ := h.row.ptr (by simp)
  rw [List.length_cons] at hv h2
  exact ⟨g, cap, hv, h2, h3, h4 3 _ rfl, (h.fr x (by simp)).1⟩
theorem Ee.trans {w v : World} {N0 N1 : EN} {q q' : MQ} (h : Ee w u N0 N q) (h2 : Ee u v N N1 q') : Ee w v N0 N1 q' :=
  ⟨h2.em, h2.fr, h2.xb.trans h.xb, h2.sb.trans h.sb, h2.hb.trans h.hb, h2.mb.trans h.mb, h2.m.trans h.m, h.gw.trans h2.gw⟩
theorem root_FB (hl : vs.length ≤ 10) (hv : ∀ v, v ∈ vs → VOk v) : FB (rootM vs) := by
  refine ⟨by simp [rootM], by simp [rootM], by simpa [rootM] using hl, by simp [rootM], fun v hv2 => ?_, by simp [rootM, MF.floor], fun l hl => by simp [rootM] at hl, by simp [rootM]⟩
  rcases hv2 with e | e
  · simp [rootM] at e
  · have := hv v e
    have ht := this.ty
    unfold isVal at ht
    exact ⟨by omega, this.b⟩
end
end Go.Proofs.Qxb6500275aGreatDoor
