import Derived.Test.Qxb6500275aGreatDoorBm1
import Derived.Test.Qxb6500275aGreatDoorWr1
import Derived.Test.Qxb6500275aGreatDoorBlk
set_option maxRecDepth 100000
set_option linter.unusedVariables false
set_option linter.unusedSimpArgs false
namespace Go.Proofs.Qxb6500275aGreatDoor
open Go Go.RowKit
/- THE MODEL'S CURSOR IN MEMORY: er, a: the first error and its place (0: none) -/
structure Rc (w : World) (b : Nat) (s : ByteArray) (p e : Nat) (er : Int) (a : Nat) : Prop where
  c0 : w.cell? ⟨b, 0, none⟩ = some (.string s)
  c1 : w.cell? ⟨b, 1, none⟩ = some (.int .i64 p)
  c2 : w.cell? ⟨b, 2, none⟩ = some (.int .i64 e)
  c3 : w.cell? ⟨b, 3, none⟩ = some (.int .i64 er)
  c4 : w.cell? ⟨b, 4, none⟩ = some (.int .i64 a)
  f : (w.frozen? ⟨b, 1, none⟩ = false ∧ w.frozen? ⟨b, 2, none⟩ = false) ∧ w.frozen? ⟨b, 3, none⟩ = false ∧ w.frozen? ⟨b, 4, none⟩ = false
  le : p ≤ e
  es : e ≤ s.size
  sz : s.size ≤ 1024
  al : a ≤ 1024
/- the step of a reader that sticks: v, q: what it read, and where it stands -/
structure Cu {α : Type} (o : R α) (er : Int) (a : Nat) (v : α) (q : Nat) (er' : Int) (a' : Nat) : Prop where
  good : er = 0 → (o = .ok (v, q) ∧ er' = 0) ∨ (o = .error (er', a') ∧ er' ≠ 0)
  bad : er ≠ 0 → er' = er ∧ a' = a
/- what stands behind it: X is what all comes to; Y what it comes to if there is no error as yet -/
structure Ch {β : Type} (X : Except (Int × Nat) β) (er : Int) (a : Nat) (Y : Except (Int × Nat) β) : Prop where
  good : er = 0 → X = Y
  bad : er ≠ 0 → X = .error (er, a)
def bindQ {α β : Type} (o : Except (Int × Nat) α) (k : α → Except (Int × Nat) β) : Except (Int × Nat) β :=
  match o with
  | .error f => .error f
  | .ok x => k x
theorem Ch.step {α β : Type} {X : Except (Int × Nat) β} {o : R α} {k : α × Nat → Except (Int × Nat) β} {er er' : Int} {a a' q : Nat} {v : α} (h : Ch X er a (bindQ o k)) (hc : Cu o er a v q er' a') : Ch X er' a' (k (v, q)) := by
  by_cases h0 : er = 0
  · have hX := h.1 h0
    rcases hc.1 h0 with ⟨ho, h1⟩ | ⟨ho, h1⟩
    · rw [ho] at hX
      exact ⟨fun _ => hX, fun h => absurd h1 h⟩
    · rw [ho] at hX
      exact ⟨fun h => absurd h h1, fun _ => hX⟩
  · obtain ⟨h1, h2⟩ := hc.2 h0
    subst h1 h2
    exact ⟨fun h => absurd h h0, fun _ => h.2 h0⟩
/- an error is noted, if there is none as yet -/
structure Flq (er : Int) (a : Nat) (c : Int) (a0 : Nat) (er' : Int) (a' : Nat) : Prop where
  good : er = 0 → er' = c ∧ a' = a0
  bad : er ≠ 0 → er' = er ∧ a' = a
theorem Ch.eq {β : Type} {X Y Z : Except (Int × Nat) β} {er : Int} {a : Nat} (h : Ch X er a Y) (e : Y = Z) : Ch X er a Z := by rw [← e]; exact h
/- how a reader's method ends -/
def Cm {α : Type} (enc : α → Value) (B : α → Prop) (o : R α) (b : Nat) (s : ByteArray) (e : Nat) (er : Int) (a : Nat) (w : World) (en : Ending) (w' : World) : Prop :=
  ∃ v q er' a', en = .returned (enc v) ∧ Rc w' b s q e er' a' ∧ Kp (· = b) w w' ∧ B v ∧ Hid (Cu o er a v q er' a')
section
variable {w w' : World} {b : Nat} {s : ByteArray} {p e : Nat} {er : Int} {a : Nat}
theorem Rc.keep {P : Nat → Prop} (h : Rc w b s p e er a) (hk : Kp P w w') (hb : ¬ P b) : Rc w' b s p e er a := by
  have hlt : b < w.heap.size := lt_of_cell h.c0
  have ec : ∀ o, w'.cell? ⟨b, o, none⟩ = w.cell? ⟨b, o, none⟩ := fun o => hk.cell (p := ⟨b, o, none⟩) hlt hb
  have ef : ∀ o, w'.frozen? ⟨b, o, none⟩ = w.frozen? ⟨b, o, none⟩ := fun o => hk.frozen (p := ⟨b, o, none⟩) hlt hb
  exact ⟨(ec 0).trans h.c0, (ec 1).trans h.c1, (ec 2).trans h.c2, (ec 3).trans h.c3, (ec 4).trans h.c4, ⟨⟨(ef 1).trans h.f.1.1, (ef 2).trans h.f.1.2⟩, (ef 3).trans h.f.2.1, (ef 4).trans h.f.2.2⟩, h.le, h.es, h.sz, h.al⟩
theorem Rc.drew (h : Rc w b s p e er a) : Rc w.drew b s p e er a := ⟨h.c0, h.c1, h.c2, h.c3, h.c4, h.f, h.le, h.es, h.sz, h.al⟩
theorem Rc.setP (h : Rc w b s p e er a) (q : Nat) (hq : q ≤ e) : Rc (w.setCell ⟨b, 1, none⟩ (.int .i64 q)) b s q e er a := by
  obtain ⟨⟨f1, f2⟩, f3, f4⟩ := h.f
  refine ⟨?_, ?_, ?_, ?_, ?_, ⟨⟨?_, ?_⟩, ?_, ?_⟩, hq, h.es, h.sz, h.al⟩
  · simp [h.c0, go_sem]
  · simp [h.c1, go_sem]
  · simp [h.c2, go_sem]
  · simp [h.c3, go_sem]
  · simp [h.c4, go_sem]
  · simp [f1, go_sem]
  · simp [f2, go_sem]
  · simp [f3, go_sem]
  · simp [f4, go_sem]
theorem Rc.setE (h : Rc w b s p e er a) (q : Nat) (hq : p ≤ q) (hs : q ≤ s.size) : Rc (w.setCell ⟨b, 2, none⟩ (.int .i64 q)) b s p q er a := by
  obtain ⟨⟨f1, f2⟩, f3, f4⟩ := h.f
  refine ⟨?_, ?_, ?_, ?_, ?_, ⟨⟨?_, ?_⟩, ?_, ?_⟩, hq, hs, h.sz, h.al⟩
  · simp [h.c0, go_sem]
  · simp [h.c1, go_sem]
  · simp [h.c2, go_sem]
  · simp [h.c3, go_sem]
  · simp [h.c4, go_sem]
  · simp [f1, go_sem]
  · simp [f2, go_sem]
  · simp [f3, go_sem]
  · simp [f4, go_sem]
theorem Rc.setF (h : Rc w b s p e er a) (c : Int) (a' : Nat) (ha : a' ≤ 1024) : Rc ((w.setCell ⟨b, 3, none⟩ (.int .i64 c)).setCell ⟨b, 4, none⟩ (.int .i64 a')) b s p e c a' := by
  obtain ⟨⟨f1, f2⟩, f3, f4⟩ := h.f
  refine ⟨?_, ?_, ?_, ?_, ?_, ⟨⟨?_, ?_⟩, ?_, ?_⟩, h.le, h.es, h.sz, ha⟩
  · simp [h.c0, go_sem]
  · simp [h.c1, go_sem]
  · simp [h.c2, go_sem]
  · simp [h.c3, go_sem]
  · simp [h.c4, go_sem]
  · simp [f1, go_sem]
  · simp [f2, go_sem]
  · simp [f3, go_sem]
  · simp [f4, go_sem]
set_option maxHeartbeats 1000000 in
theorem fail_m (h : Rc w b s p e er a) (c : Int) (a0 : Nat) (ha : a0 ≤ 1024) : Calls Tryz.prog 239 #[.pointer (some ⟨b, 0, none⟩), .int .i64 c, .int .i64 a0] w
    (fun en w' => ∃ er' a', en = .returned (.tuple #[]) ∧ Rc w' b s p e er' a' ∧ Kp (· = b) w w' ∧ Hid (Flq er a c a0 er' a')) := by
  obtain ⟨c0, c1, c2, c3, c4, ⟨⟨f1, f2⟩, f3, f4⟩, le, es, sz, al⟩ := id h
  have HR : Hid _ := h.setF c a0 ha
  have HR0 : Hid _ := h
  have hk0 : Kp (· = b) w ((w.setCell ⟨b, 3, none⟩ (.int .i64 c)).setCell ⟨b, 4, none⟩ (.int .i64 a0)) := ((Kp.refl (· = b) w).setCell (p := ⟨b, 3, none⟩) (.inl rfl) _).setCell (p := ⟨b, 4, none⟩) (.inl rfl) _
  have HK : Hid _ := hk0
  clear h hk0
  by_cases he : er = 0
  · subst he
    go_enter Tryz.func239, Tryz.ntmps239
    go_wp2
    refine bodyPost_end (v := .tuple #[]) (results_none rfl _ _ _) rfl ?_
    exact ⟨c, a0, rfl, HR.out, HK.out, ⟨fun _ => ⟨rfl, rfl⟩, fun h => absurd rfl h⟩⟩
  · have heb : (er == 0) = false := by rw [beq_eq_false_iff_ne]; exact he
    go_enter Tryz.func239, Tryz.ntmps239
    go_wp2
    refine bodyPost_end (v := .tuple #[]) (results_none rfl _ _ _) rfl ?_
    exact ⟨er, a, rfl, HR0.out, Kp.refl _ _, ⟨fun h => absurd h he, fun _ => ⟨rfl, rfl⟩⟩⟩
theorem w64n {n : Nat} (h : n ≤ 9223372036854775807) : wrap64 (n : Int) = (n : Int) := by unfold wrap64; omega
def encN8 (n : Nat) : Value := .int .i64 n
set_option maxHeartbeats 1000000 in
theorem byte_m (h : Rc w b s p e er a) : Calls Tryz.prog 183 #[.pointer (some ⟨b, 0, none⟩)] w (Cm encN8 (· < 256) (nextS s p e) b s e er a w) := by
  obtain ⟨c0, c1, c2, c3, c4, ⟨⟨f1, f2⟩, f3, f4⟩, le, es, sz, al⟩ := id h
  by_cases he : er = 0
  · subst he
    by_cases hp : p < e
    · have hlt : p < s.size := by omega
      have HR : Hid _ := (h.setP (p + 1) (by omega)).drew.drew
      have hk := (((Kp.refl (· = b) w).setCell (p := ⟨b, 1, none⟩) (.inl rfl) (.int .i64 ((p + 1 : Nat) : Int))).drew.drew)
      have HK : Hid _ := hk
      clear hk h
      go_enter Tryz.func183, Tryz.ntmps183
      go_wp2
      go_region
      go_wp2
      go_region
      go_wp2
      go_ret
      refine ⟨bAt s p, p + 1, 0, a, by rw [← bAt_get s p hlt]; exact congrArg (fun x => Ending.returned (.int .i64 x)) (w64n (by have := s[p].toNat_lt; omega)), HR.out, HK.out, bAt_lt _ _, ⟨fun _ => .inl ⟨by unfold nextS; rw [if_pos hp], rfl⟩, fun h => absurd rfl h⟩⟩
    · have HF := fun u (hu : Kp (fun _ => False) w u) => fail_m (h.keep hu (fun h => h)) 3 p (by omega)
      clear h
      go_enter Tryz.func183, Tryz.ntmps183
      go_wp2
      go_region
      go_wp2_with fail
      refine (HF _ (Kp.refl _ _).drew).mono ?_
      rintro en u2 ⟨er', a', rfl, hR, hK, hC⟩
      go_wp2
      go_ret
      obtain ⟨h1, h2⟩ := hC.out.1 rfl
      rw [h1, h2] at hR
      refine ⟨0, p, 3, p, rfl, hR, ((Kp.refl (· = b) w).drew).trans hK, by decide, ⟨fun _ => .inr ⟨by unfold nextS; rw [if_neg hp, show e = p by omega], by decide⟩, fun h => absurd rfl h⟩⟩
  · have heb : (er == 0) = false := by rw [beq_eq_false_iff_ne]; exact he
    have HR : Hid _ := h
    clear h
    go_enter Tryz.func183, Tryz.ntmps183
    go_wp2
    go_ret
    exact ⟨0, p, er, a, rfl, HR.out, Kp.refl _ _, by decide, ⟨fun h => absurd h he, fun _ => ⟨rfl, rfl⟩⟩⟩
end
end Go.Proofs.Qxb6500275aGreatDoor
