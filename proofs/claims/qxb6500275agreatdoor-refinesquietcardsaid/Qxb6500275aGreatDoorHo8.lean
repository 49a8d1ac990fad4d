import Derived.Test.Qxb6500275aGreatDoorHo7
set_option maxRecDepth 100000
set_option linter.unusedVariables false
set_option linter.unusedSimpArgs false
namespace Go.Proofs.Qxb6500275aGreatDoor
open Go Go.RowKit
theorem Fc.mono {w : World} {hb : Nat} {T T' : Nat → Prop} {k : Nat} {v : Value} (h : Fc w hb T k v) (ht : ∀ k, T k → T' k) : Fc w hb T' k v := by
  rcases h with ⟨h1, fb, h2, h3, h4⟩ | h | h | h
  · exact .inl ⟨h1, fb, h2, ht _ h3, h4⟩
  · exact .inr (.inl h)
  · exact .inr (.inr (.inl h))
  · exact .inr (.inr (.inr h))
theorem Fs.mono {w : World} {T T' : Nat → Prop} {v : Value} (h : Fs w T v) (ht : ∀ k, T k → T' k) : Fs w T' v := by
  rcases h with h | ⟨fb, h2, h3, h4⟩ | h
  · exact .inl h
  · exact .inr (.inl ⟨fb, h2, ht _ h3, h4⟩)
  · exact .inr (.inr h)
/- the tape functions' blocks grow by fresh ones -/
structure Tx (w w' : World) (T T' : Nat → Prop) : Prop where
  old : ∀ k, T k → T' k
  new : ∀ k, T' k → T k ∨ (w.heap.size ≤ k ∧ k < w'.heap.size)
theorem Tx.refl (w w' : World) (T : Nat → Prop) : Tx w w' T T := ⟨fun _ h => h, fun _ h => .inl h⟩
section
variable {w w' : World} {hb bb tb : Nat} {T : Nat → Prop} {H : Hm}
theorem Hw.lt (h : Hw w hb bb tb T H) : hb < w.heap.size ∧ bb < w.heap.size ∧ tb < w.heap.size := by
  obtain ⟨⟨F, G, C, head, b1, b2, b3, hl⟩, d1, d2, d3, t⟩ := h
  exact ⟨b1.lt (by decide), b2.lt (by decide), b3.lt (by decide)⟩
/- one function more -/
theorem Hw.bind {W w2 : World} {k : Nat} {v : Value} {n : Nat} (h : Hw w hb bb tb T H) (hn : H.bd.length = n) (h4 : n < 4) (hk : Kp (fun _ => False) w W) (hf : Fc W hb (fun b => w.heap.size ≤ b ∧ b < W.heap.size) k v) (h1 : v.oneCell' = true) :
    ∃ w', (Builtin.append_ #[166, 166] 166 #[.slice (some ⟨bb, 0, none⟩) n 4, .slice (some ⟨W.heap.size, 0, none⟩) 1 1]).run Tryz.prog (W.alloc (.cells #[v] 184)) = .ok (.slice (some ⟨bb, 0, none⟩) (n + 1) 4) w' ∧ w'.cell? ⟨hb, 0, none⟩ = some (.slice (some ⟨bb, 0, none⟩) n 4) ∧ w'.frozen? ⟨hb, 0, none⟩ = false ∧
      Kp (fun k => k = hb ∨ k = bb) w (w'.setCell ⟨hb, 0, none⟩ (.slice (some ⟨bb, 0, none⟩) (n + 1) 4)) ∧ ∃ T', Tx w (w'.setCell ⟨hb, 0, none⟩ (.slice (some ⟨bb, 0, none⟩) (n + 1) 4)) T T' ∧ Hw (w'.setCell ⟨hb, 0, none⟩ (.slice (some ⟨bb, 0, none⟩) (n + 1) 4)) hb bb tb T' { H with bd := H.bd ++ [k] } := by
  have hlt := h.lt
  have hW : Hw W hb bb tb T H := h.keep hk (fun h => h) (fun h => h) (fun h => h) (fun _ _ h => h)
  obtain ⟨⟨F, G, C, head, b1, b2, b3, hl⟩, d1, d2, d3, t⟩ := hW
  have ka : Kp (fun _ => False) W (W.alloc (.cells #[v] 184)) := (Kp.refl _ _).alloc _
  obtain ⟨i, i1, i2, i3, i4⟩ := i184
  have b2a := b2.keep ka (fun h => h)
  have hr := run_append_room_cells (P := Tryz.prog) (W.alloc (.cells #[v] 184)) 166 166 184 i u166 i1 bb 0 n 4 ⟨W.heap.size, 0, none⟩ 1 1 [v] (by rw [i3]; rfl) (fun j u hu => by
    cases j with
    | zero =>
      simp at hu
      subst hu
      rw [add_non, World.cell?_alloc_at _ _ _ _ rfl]; rfl
    | succ j => simp at hu) (fun u hu => by simp at hu; subst hu; exact h1) (by omega) (fun j hj => by simp at hj; rw [i3, Nat.mul_one, Nat.zero_add, b2a.cell (by omega)]; rfl) (fun j hj => by simp at hj; rw [i3, Nat.mul_one, Nat.zero_add]; exact b2a.fz (by omega))
  rw [i3, Nat.mul_one, Nat.zero_add] at hr
  obtain ⟨D', e1, e2, e3, e4⟩ := blk_lay [v] n _ G b2a (by simp; omega)
  have k2 : Kp (fun k => k = bb) W ((W.alloc (.cells #[v] 184)).setCells bb n [v]) := (ka.mono (fun _ h => h.elim)).trans (kpS _ _ _ _)
  generalize (W.alloc (.cells #[v] 184)).setCells bb n [v] = w' at hr e1 k2
  have k3 : Kp (fun k => k = hb ∨ k = bb) w (w'.setCell ⟨hb, 0, none⟩ (.slice (some ⟨bb, 0, none⟩) (n + 1) 4)) := ((hk.mono (fun _ h => h.elim)).trans (k2.mono (fun _ h => .inr h))).setCell (p := ⟨hb, 0, none⟩) (.inl (.inl rfl)) _
  have kW : Kp (fun k => k = hb ∨ k = bb) W (w'.setCell ⟨hb, 0, none⟩ (.slice (some ⟨bb, 0, none⟩) (n + 1) 4)) := (k2.mono (fun _ h => .inr h)).setCell (p := ⟨hb, 0, none⟩) (.inl (.inl rfl)) _
  have hs := hk.size
  have hs2 := kW.size
  have b1' := b1.keep k2 d1
  refine ⟨w', hr, by rw [b1'.cell (by decide), hl.f0, hn], b1'.fz (by decide), k3, fun k => T k ∨ (w.heap.size ≤ k ∧ k < W.heap.size), ⟨fun _ h => .inl h, fun k h => by
    rcases h with h | h
    · exact .inl h
    · exact .inr ⟨h.1, by omega⟩⟩, ?_⟩
  have hTS : ∀ k, T k → ¬ (k = hb ∨ k = bb) := fun k hT h => by
    rcases h with rfl | rfl
    · exact t.1 hT
    · exact t.2.1 hT
  refine ⟨⟨_, D', C, head, b1'.set (i := 0) (by decide) _, e1.other (Ne.symm d1) _, (b3.keep k2 (Ne.symm d3)).other (Ne.symm d2) _, ⟨?_, fun i v hi => ?_, ?_, ?_, ?_, ?_, hl.hd, hl.tr, fun i k' hi => ?_, fun i hi h4' => ?_⟩⟩, d1, d2, d3, ?_⟩
  · rw [upd_same]; simp [hn]
  · rw [upd_ne _ _ (by omega)]; exact hl.tp i v hi
  · rw [upd_ne _ _ (by omega)]; exact hl.f7
  · rw [upd_ne _ _ (by omega)]; exact hl.f8
  · rw [upd_ne _ _ (by omega)]; exact hl.f9
  · rw [upd_ne _ _ (by omega)]; exact hl.f10
  · by_cases e : i < n
    · rw [e2 i e]
      dsimp only at hi
      rw [List.getElem?_append_left (by omega)] at hi
      exact ((hl.bd i k' hi).keep kW hTS).mono (fun _ h => .inl h)
    · have hil := (List.getElem?_eq_some_iff.1 hi).1
      simp at hil
      have hin : i = n := by omega
      subst hin
      dsimp only at hi
      rw [List.getElem?_append_right (by omega), hn, Nat.sub_self] at hi
      simp at hi
      subst hi
      rw [show D' i = v from e3 0 v rfl]
      refine (hf.keep kW (fun k hk' h => ?_)).mono (fun _ h => .inr h)
      rcases h with rfl | rfl <;> omega
  · simp [hn] at hi
    have hD : D' i = G i := e4 i (by simp; omega)
    rw [hD]
    exact ((hl.st i (by omega) h4').keep kW hTS).mono (fun _ h => .inl h)
  · refine ⟨fun h => ?_, fun h => ?_, fun h => ?_⟩
    · rcases h with h | h
      · exact t.1 h
      · omega
    · rcases h with h | h
      · exact t.2.1 h
      · omega
    · rcases h with h | h
      · exact t.2.2 h
      · omega
end
end Go.Proofs.Qxb6500275aGreatDoor
