import Derived.Test.Qxb6500275aGreatDoorHo4
import Derived.Laws.EntriesVeiled
set_option maxRecDepth 100000
set_option linter.unusedVariables false
set_option linter.unusedSimpArgs false
namespace Go.Proofs.Qxb6500275aGreatDoor
open Go Go.RowKit
section
variable {w w' : World} {hb bb tb : Nat} {T : Nat → Prop} {H : Hm}
/- a host function's value, whatever its tape function holds -/
def Fk (w : World) (T : Nat → Prop) (k : Nat) (v : Value) : Prop :=
  (k = 1 ∧ ∃ fb, v = .iface 189 (.pointer (some ⟨fb, 0, none⟩)) ∧ T fb ∧ ∃ D, Blk w fb 1 D) ∨ (k = 2 ∧ v = .iface 248 (.agg #[])) ∨ (k = 3 ∧ v = .iface 250 (.func (.func 266) #[] #[])) ∨ (k = 4 ∧ v = .iface 251 (.int .i64 49))
theorem Fc.loose {k : Nat} {v : Value} (h : Fc w hb T k v) : Fk w T k v := by
  rcases h with ⟨h1, fb, h2, h3, h4⟩ | h | h | h
  · exact .inl ⟨h1, fb, h2, h3, _, h4⟩
  · exact .inr (.inl h)
  · exact .inr (.inr (.inl h))
  · exact .inr (.inr (.inr h))
/- a tape function is cut off -/
theorem Fk.cut {k fb : Nat} {v : Value} (h : Fk w T k v) : Fk (w.setCell ⟨fb, 0, none⟩ .nilFunc) T k v := by
  rcases h with ⟨h1, f, h2, h3, D, h4⟩ | h | h | h
  · refine .inl ⟨h1, f, h2, h3, ?_⟩
    by_cases e : f = fb
    · subst e; exact ⟨_, h4.set (by decide) _⟩
    · exact ⟨_, h4.other e _⟩
  · exact .inr (.inl h)
  · exact .inr (.inr (.inl h))
  · exact .inr (.inr (.inr h))
theorem Fs.cut {fb : Nat} {v : Value} (h : Fs w T v) : Fs (w.setCell ⟨fb, 0, none⟩ .nilFunc) T v := by
  rcases h with h | ⟨f, h2, h3, h4⟩ | h
  · exact .inl h
  · refine .inr (.inl ⟨f, h2, h3, ?_⟩)
    by_cases e : f = fb
    · subst e
      have := h4.set (i := 0) (by decide) .nilFunc
      refine fun i hi => ⟨?_, this.fz hi⟩
      rw [this.cell hi]
      unfold upd
      split <;> rfl
    · exact h4.other e _
  · exact .inr (.inr h)
structure HLc (w : World) (F G C : Nat → Value) (hb bb tb : Nat) (T : Nat → Prop) (H : Hm) (head j : Nat) : Prop where
  f0 : F 0 = .slice (some ⟨bb, 0, none⟩) H.bd.length 4
  tp : ∀ (i v : Nat), H.tp[i]? = some v → F (1 + (head + i)) = .int .u64 v
  f7 : F 7 = .int .i64 head
  f8 : F 8 = .int .i64 H.tp.length
  f9 : F 9 = .slice (some ⟨tb, 0, none⟩) H.tr.length 864
  f10 : F 10 = .int .i64 H.rows
  hd : head + H.tp.length ≤ 6
  tr : ∀ (i v : Nat), H.tr[i]? = some v → C i = .int .u8 v
  bd : ∀ (i k : Nat), j ≤ i → H.bd[i]? = some k → Fk w T k (G i)
  st : ∀ i, i < j ∨ H.bd.length ≤ i → i < 4 → Fs w T (G i)
structure Hc (w : World) (hb bb tb : Nat) (T : Nat → Prop) (H : Hm) (j : Nat) : Prop where
  is : ∃ F G C head, Blk w hb 11 F ∧ Blk w bb 4 G ∧ Blk w tb 864 C ∧ HLc w F G C hb bb tb T H head j
  d1 : hb ≠ bb
  d2 : hb ≠ tb
  d3 : bb ≠ tb
  t : ¬ T hb ∧ ¬ T bb ∧ ¬ T tb
theorem Hc.start (h : Hw w hb bb tb T H) : Hc w hb bb tb T H 0 := by
  obtain ⟨⟨F, G, C, head, b1, b2, b3, hl⟩, d1, d2, d3, t⟩ := h
  exact ⟨⟨F, G, C, head, b1, b2, b3, ⟨hl.f0, hl.tp, hl.f7, hl.f8, hl.f9, hl.f10, hl.hd, hl.tr, fun i k _ hi => (hl.bd i k hi).loose, fun i hi h4 => hl.st i (by omega) h4⟩⟩, d1, d2, d3, t⟩
/- a function that is no tape function, passed -/
theorem Hc.pass {j k : Nat} (h : Hc w hb bb tb T H j) (hk : H.bd[j]? = some k) (h1 : k ≠ 1) : Hc w hb bb tb T H (j + 1) := by
  obtain ⟨⟨F, G, C, head, b1, b2, b3, hl⟩, d1, d2, d3, t⟩ := h
  refine ⟨⟨F, G, C, head, b1, b2, b3, ⟨hl.f0, hl.tp, hl.f7, hl.f8, hl.f9, hl.f10, hl.hd, hl.tr, fun i k hj hi => hl.bd i k (by omega) hi, fun i hi h4 => ?_⟩⟩, d1, d2, d3, t⟩
  by_cases e : i = j
  · subst e
    rcases hl.bd i k (Nat.le_refl _) hk with h | h | h | h
    · exact absurd h.1 h1
    · exact .inr (.inr (.inl h.2))
    · exact .inr (.inr (.inr (.inl h.2)))
    · exact .inr (.inr (.inr (.inr h.2)))
  · exact hl.st i (by omega) h4
/- a tape function, cut off -/
theorem Hc.cut {j : Nat} (h : Hc w hb bb tb T H j) (hk : H.bd[j]? = some 1) (h4 : j < 4) : ∃ fb, w.cell? ⟨bb, j, none⟩ = some (.iface 189 (.pointer (some ⟨fb, 0, none⟩))) ∧ T fb ∧ (∃ v, w.cell? ⟨fb, 0, none⟩ = some v) ∧ w.frozen? ⟨fb, 0, none⟩ = false ∧ Hc (w.setCell ⟨fb, 0, none⟩ .nilFunc) hb bb tb T H (j + 1) := by
  obtain ⟨⟨F, G, C, head, b1, b2, b3, hl⟩, d1, d2, d3, t⟩ := h
  rcases hl.bd j 1 (Nat.le_refl _) hk with ⟨_, fb, e1, ht, D, hD⟩ | h | h | h
  · have n1 : hb ≠ fb := fun e => t.1 (e ▸ ht)
    have n2 : bb ≠ fb := fun e => t.2.1 (e ▸ ht)
    have n3 : tb ≠ fb := fun e => t.2.2 (e ▸ ht)
    refine ⟨fb, by rw [b2.cell h4, e1], ht, ⟨_, hD.cell (by decide)⟩, hD.fz (by decide), ⟨F, G, C, head, b1.other n1 _, b2.other n2 _, b3.other n3 _, ⟨hl.f0, hl.tp, hl.f7, hl.f8, hl.f9, hl.f10, hl.hd, hl.tr, fun i k hj hi => (hl.bd i k (by omega) hi).cut, fun i hi h4 => ?_⟩⟩, d1, d2, d3, t⟩
    by_cases e : i = j
    · subst e
      rw [e1]
      have := hD.set (i := 0) (by decide) .nilFunc
      refine .inr (.inl ⟨fb, rfl, ht, fun k hk => ⟨?_, this.fz hk⟩⟩)
      have hk0 : k = 0 := by omega
      subst hk0
      rw [this.cell hk, upd_same]
    · exact (hl.st i (by omega) h4).cut
  · omega
  · omega
  · omega
theorem Hc.done (h : Hc w hb bb tb T H H.bd.length) : Hw (w.setCell ⟨hb, 0, none⟩ (.slice (some ⟨bb, 0, none⟩) 0 4)) hb bb tb T { H with bd := [] } := by
  obtain ⟨⟨F, G, C, head, b1, b2, b3, hl⟩, d1, d2, d3, t⟩ := h
  have k : Kp (fun k => k = hb) w (w.setCell ⟨hb, 0, none⟩ (.slice (some ⟨bb, 0, none⟩) 0 4)) := (Kp.refl (fun k => k = hb) w).setCell (p := ⟨hb, 0, none⟩) (.inl rfl) _
  refine ⟨⟨_, G, C, head, b1.set (i := 0) (by omega) _, b2.other (Ne.symm d1) _, b3.other (Ne.symm d2) _, ⟨upd_same _ _ _, fun i v hi => ?_, ?_, ?_, ?_, ?_, hl.hd, hl.tr, fun i k hi => by simp at hi, fun i _ h4 => (hl.st i (by omega) h4).keep k (fun k hk e => t.1 (e ▸ hk))⟩⟩, d1, d2, d3, t⟩
  · rw [upd_ne _ _ (by omega)]; exact hl.tp i v hi
  · rw [upd_ne _ _ (by omega)]; exact hl.f7
  · rw [upd_ne _ _ (by omega)]; exact hl.f8
  · rw [upd_ne _ _ (by omega)]; exact hl.f9
  · rw [upd_ne _ _ (by omega)]; exact hl.f10
theorem Hc.c {j : Nat} (h : Hc w hb bb tb T H j) : w.cell? ⟨hb, 0, none⟩ = some (.slice (some ⟨bb, 0, none⟩) H.bd.length 4) ∧ w.frozen? ⟨hb, 0, none⟩ = false ∧ ∀ k, H.bd[j]? = some k → j < 4 → ∃ v, w.cell? ⟨bb, j, none⟩ = some v ∧ Fk w T k v := by
  obtain ⟨⟨F, G, C, head, b1, b2, b3, hl⟩, d1, d2, d3, t⟩ := h
  exact ⟨by rw [b1.cell (by decide), hl.f0], b1.fz (by decide), fun k hk h4 => ⟨_, b2.cell h4, hl.bd j k (Nat.le_refl _) hk⟩⟩
theorem kind_one (v : Value) (W : World) : Calls Tryz.prog 95 #[.iface 189 v] W (Qm W (.int .i64 1)) := by
  have a189 := ta_189_189
  go_enter Tryz.func95, Tryz.ntmps95
  go_wp2
  refine bodyPost_ret (v := .int .i64 1) (by simp [results, Tryz.results95, go_sem]) rfl ?_
  exact ⟨rfl, rfl⟩
theorem kind_any {k : Nat} {v : Value} (h : Fk w T k v) (W : World) : Calls Tryz.prog 95 #[v] W (Qm W (.int .i64 k)) := by
  rcases h with ⟨rfl, fb, rfl, _⟩ | ⟨rfl, rfl⟩ | ⟨rfl, rfl⟩ | ⟨rfl, rfl⟩
  · exact kind_one _ W
  · exact kind_live (T := T) (hb := 0) (k := 2) (.inr (.inl ⟨rfl, rfl⟩))
  · exact kind_live (T := T) (hb := 0) (k := 3) (.inr (.inr (.inl ⟨rfl, rfl⟩)))
  · exact kind_live (T := T) (hb := 0) (k := 4) (.inr (.inr (.inr ⟨rfl, rfl⟩)))
def clearS (H : Hm) : Hm := { H with bd := [], tr := [], rows := 0 }
/- what Clear may touch -/
def Sc (hb : Nat) (T : Nat → Prop) (k : Nat) : Prop := k = hb ∨ T k
set_option maxHeartbeats 2000000 in
theorem clear_calls (h : Hw w hb bb tb T H) (hb4 : H.bd.length ≤ 4) : Calls Tryz.prog 40 #[.pointer (some ⟨hb, 0, none⟩)] w (fun en w' => en = .returned (.tuple #[]) ∧ Kp (Sc hb T) w w' ∧ Hw w' hb bb tb T (clearS H)) := by
  have HC : Hid _ := Hc.start h
  obtain ⟨c0, _, _⟩ := HC.out.c
  obtain ⟨n, hn⟩ : ∃ n, H.bd.length = n := ⟨_, rfl⟩
  have HN : Hid _ := hn
  rw [hn] at hb4 c0
  clear h hn
  have ta := ta_189
  go_enter Tryz.func40, Tryz.ntmps40
  go_wp2
  clear c0
  go_loopw [3, 9] (fun _ jj w1 => ∃ (j : Nat) (u : World), u = w1 ∧ j ≤ n ∧ jj = .int .i64 j ∧ Hid (Hc u hb bb tb T H j) ∧ Hid (Kp (Sc hb T) w u)) (fun _ jj _ => n + 1 - (intOf jj).toNat)
  case atStart => exact ⟨0, _, rfl, by omega, rfl, HC.out, Kp.refl _ _⟩
  case round =>
    clear HC
    obtain ⟨j, w1, e, hj, rfl, HC, HK⟩ := hrel
    subst e
    obtain ⟨c0, g0, cj⟩ := HC.out.c
    rw [HN.out] at c0
    by_cases hlt : j < n
    · obtain ⟨k, hk⟩ : ∃ k, H.bd[j]? = some k := ⟨_, List.getElem?_eq_getElem (by rw [HN.out]; exact hlt)⟩
      obtain ⟨v, cv, hv⟩ := cj k hk (by omega)
      have hkc := fun W => kind_any hv W
      have hlt' : (j : Int) < (n : Int) := by omega
      by_cases h1 : k = 1
      · subst h1
        obtain ⟨fb, cf, ht, ⟨v0, cfb⟩, gfb, hN⟩ := HC.out.cut hk (by omega)
        rw [cf] at cv
        simp at cv
        subst cv
        have HNx : Hid _ := hN
        have HT : Hid _ := ht
        clear cj hN hv ht
        go_wp2_with fail
        refine (hkc _).mono ?_
        rintro en w6 ⟨rfl, rfl⟩
        go_wp2_with fail
        go_roundw
        case rel => exact ⟨j + 1, _, rfl, by omega, rfl, HNx.out, HK.out.setCell (p := ⟨fb, 0, none⟩) (.inl (.inr HT.out)) _⟩
        case measure => simp [intOf]; omega
      · have HNx : Hid _ := HC.out.pass hk h1
        have h1' : ¬ (k : Int) = 1 := by omega
        clear cj hv
        go_wp2_with fail
        refine (hkc _).mono ?_
        rintro en w6 ⟨rfl, rfl⟩
        go_wp2_with fail
        go_roundw
        case rel => exact ⟨j + 1, _, rfl, by omega, rfl, HNx.out, HK.out⟩
        case measure => simp [intOf]; omega
    · have hjn : j = n := by omega
      subst hjn
      have hD : Hw (w1.setCell ⟨hb, 0, none⟩ (.slice (some ⟨bb, 0, none⟩) 0 4)) hb bb tb T { H with bd := [] } := by
        have := HC.out
        rw [← HN.out] at this
        exact this.done
      have hF := fresh_calls hD
      clear cj hD
      go_wp2_with fail
      refine hF.mono ?_
      rintro en w6 ⟨rfl, hk6, hw6⟩
      go_wp2_with fail
      go_end0
      go_light
      exact ⟨rfl, (HK.out.setCell (p := ⟨hb, 0, none⟩) (.inl (.inl rfl)) _).trans (hk6.mono (fun k hk => .inl hk)), hw6⟩
end
end Go.Proofs.Qxb6500275aGreatDoor
