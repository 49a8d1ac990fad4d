import Derived.Test.Qxb6500275aGreatDoorBs6
import Derived.LoopN
set_option maxRecDepth 100000
set_option linter.unusedVariables false
set_option linter.unusedSimpArgs false
namespace Go.Proofs.Qxb6500275aGreatDoor
open Go Go.RowKit
/- the locals, as the model reads them -/
def locQ (s : ByteArray) (e : Nat) : Nat → List Nat → Nat → R (List Nat)
  | 0, acc, q => .ok (acc, q)
  | g + 1, acc, q => bindQ (countS s q e (6 - (acc.length : Int))) fun k => bindQ (valtypeS s k.2 e) fun t => locQ s e g (acc ++ List.replicate k.1.toNat t.1) t.2
theorem locQ_eq (s : ByteArray) (e : Nat) : ∀ (g : Nat) (acc : List Nat) (q : Nat), locQ s e g acc q = localsL s e g acc q
  | 0, acc, q => rfl
  | g + 1, acc, q => by
    unfold locQ localsL bindQ
    cases countS s q e (6 - (acc.length : Int)) with
    | error f => rfl
    | ok k =>
      dsimp only
      cases valtypeS s k.2 e with
      | error f => rfl
      | ok t => exact locQ_eq s e g _ _
theorem localsS_b (s : ByteArray) (p e : Nat) : localsS s p e = bindQ (countS s p e 6) fun g => bindQ (locQ s e g.1.toNat [] g.2) fun y => .ok (bytesOf y.1, y.2) := by
  unfold localsS bindQ
  cases countS s p e 6 with
  | error f => rfl
  | ok g =>
    dsimp only
    rw [locQ_eq]
    cases localsL s e g.1.toNat [] g.2 <;> rfl
theorem bytesOf_app (l : List Nat) (t : Nat) : bytesOf (l ++ [t]) = bytesOf l ++ ⟨#[UInt8.ofNat t]⟩ := by
  apply ByteArray.ext
  rw [ByteArray.data_append]
  unfold bytesOf
  simp
theorem bytesOf_sizeQ (l : List Nat) : (bytesOf l).size = l.length := by unfold bytesOf; show Array.size _ = _; simp
theorem fnRow_b (s : ByteArray) (e : Nat) (ty : Int) (q : Nat) : fnRow s e ty q = bindQ (u32S s q e) fun z => if z.1 > (e : Int) - z.2 then .error (3, q) else bindQ (localsS s z.2 (z.2 + z.1.toNat)) fun b => bindQ (bodyQ s (z.2 + z.1.toNat) (z.2 + z.1.toNat - b.2 + 1) b.2 [] [] []) fun c => if c.2 = z.2 + z.1.toNat then .ok (⟨ty, b.1, c.1.1, c.1.2⟩, c.2) else .error (6, z.2) := by
  unfold fnRow enterS
  simp only [bindR_Q]
  cases u32S s q e with
  | error f => rfl
  | ok z =>
    show bindQ (if z.1 > (e : Int) - z.2 then _ else _) _ = (if z.1 > (e : Int) - z.2 then _ else _)
    by_cases h : z.1 > (e : Int) - z.2
    · rw [if_pos h, if_pos h]
      rfl
    · rw [if_neg h, if_neg h]
      show bindQ (localsS s z.2 (z.2 + z.1.toNat)) _ = bindQ (localsS s z.2 (z.2 + z.1.toNat)) _
      cases localsS s z.2 (z.2 + z.1.toNat) with
      | error f => rfl
      | ok y =>
        show bindQ (bodyS s y.2 (z.2 + z.1.toNat)) _ = bindQ (mapE swapB (bodyL s (z.2 + z.1.toNat) (z.2 + z.1.toNat - y.2 + 1) y.2 [] [] [])) _
        unfold bodyS
        cases bodyL s (z.2 + z.1.toNat) (z.2 + z.1.toNat - y.2 + 1) y.2 [] [] [] <;> rfl
theorem fnsL_b {s : ByteArray} {e : Nat} {ty : List Int} {i : Nat} {t : Int} (h : ty[i]? = some t) (q : Nat) (l : List Fn) : fnsL s e (ty.drop i) q l = bindQ (fnRow s e t q) fun x => fnsL s e (ty.drop (i + 1)) x.2 (l ++ [x.1]) := by
  have hi := List.getElem?_eq_some_iff.1 h
  rw [List.drop_eq_getElem_cons hi.1, hi.2, fnsL, bindR_Q]
theorem sec10_b {s : ByteArray} {p e : Nat} {M : Mod} {ty : List Int} (h0 : M.funcs = []) : scQ (sec10 s p e M ty) = bindQ (countS s p e 8) fun n => if n.1 = (ty.length : Int) then bindQ (fnsL s e (ty.drop 0) n.2 []) fun x => .ok ({ M with funcs := x.1 }, x.2) else .error (12, p) := by
  unfold scQ sec10
  simp only [bindR_Q, List.drop_zero]
  cases countS s p e 8 with
  | error f => rfl
  | ok n =>
    show bindQ (if n.1 = (ty.length : Int) then _ else _) _ = (if n.1 = (ty.length : Int) then _ else _)
    by_cases h : n.1 = (ty.length : Int)
    · rw [if_pos h, if_pos h]
      cases fnsL s e ty n.2 [] with
      | error f => rfl
      | ok y =>
        show (Except.ok ({ M with funcs := pick y.1 M.funcs }, y.2) : R Mod) = _
        rw [h0, pickQ_nil]
        rfl
    · rw [if_neg h, if_neg h]
      rfl
theorem Fb.new (w : World) (t : Int) : Fb (w.alloc (.cells #[.int .i64 t, .string ⟨#[]⟩, .slice none 0 0, .slice none 0 0] 124)) w.heap.size ⟨t, ⟨#[]⟩, [], []⟩ (.slice none 0 0) (.slice none 0 0) := by
  have hb := blk_al w #[.int .i64 t, .string ⟨#[]⟩, .slice none 0 0, .slice none 0 0] 124
  exact ⟨hb.cell (i := 0) (by simp), hb.cell (i := 1) (by simp), hb.cell (i := 2) (by simp), hb.cell (i := 3) (by simp), fun j => World.frozen?_alloc_at _ _ _ _ rfl, OR.nil _ _ _, OR.nil _ _ _, by simp [Value.ownBlock], by simp [Value.ownBlock], fun k h => by simp [Value.ownBlock] at h⟩
/- another text of locals -/
theorem Fb.setL {w : World} {fb : Nat} {f : Fn} {vb vt : Value} (h : Fb w fb f vb vt) (t : ByteArray) : Fb (w.setCell ⟨fb, 1, none⟩ (.string t)) fb { f with locals := t } vb vt := by
  refine ⟨?_, ?_, ?_, ?_, fun j => ?_, h.bo.other (fun k e e2 => h.d1 (by rw [← e2]; exact e)) _, h.ta.other (fun k e e2 => h.d2 (by rw [← e2]; exact e)) _, h.d1, h.d2, h.d3⟩
  · simp [h.c0, go_sem]
  · simp [h.c1, go_sem]
  · simp [h.c2, go_sem]
  · simp [h.c3, go_sem]
  · rw [World.frozen?_setCell]
    exact h.fz j
/- amid a function: the module m1 and the function at work -/
structure Cdq (w w1 : World) (b mb fb : Nat) (m m1 : MT) (f : Fn) (vb vt : Value) : Prop where
  ms : Ms1 w w1 b mb m m1
  fb_ : Fb w1 fb f vb vt
  ne : ∀ k, FbB fb vb vt k → k ≠ b ∧ ¬ MwB mb m1 k
  fr : ∀ k, FbB fb vb vt k → w.heap.size ≤ k
section
variable {w w1 w2 : World} {b mb fb : Nat} {m m1 : MT} {f f2 : Fn} {vb vt vb2 vt2 : Value}
theorem Cdq.cur (h : Cdq w w1 b mb fb m m1 f vb vt) (hk : Kp (· = b) w1 w2) : Cdq w w2 b mb fb m m1 f vb vt := ⟨h.ms.cur hk, h.fb_.keep hk (fun k hk2 e => (h.ne k hk2).1 e), h.ne, h.fr⟩
theorem Cdq.new (h : Cdq w w1 b mb fb m m1 f vb vt) (hk : Kp (fun _ => False) w1 w2) : Cdq w w2 b mb fb m m1 f vb vt := h.cur (hk.mono (fun _ h => h.elim))
theorem Cdq.setL (h : Cdq w w1 b mb fb m m1 f vb vt) (t : ByteArray) : Cdq w (w1.setCell ⟨fb, 1, none⟩ (.string t)) b mb fb m m1 { f with locals := t } vb vt := by
  have hk : Kp (FbB fb vb vt) w1 (w1.setCell ⟨fb, 1, none⟩ (.string t)) := (Kp.refl _ _).setCell (p := ⟨fb, 1, none⟩) (.inl (.inl rfl)) _
  exact ⟨⟨h.ms.mw.keep hk (fun k hk2 e => (h.ne k e).2 hk2), h.ms.ow, h.ms.ne, h.ms.kp.later hk (fun j hj => .inr (h.fr j hj)), h.ms.lt⟩, h.fb_.setL t, h.ne, h.fr⟩
theorem Cdq.body (h : Cdq w w1 b mb fb m m1 f vb vt) (hF : Fb w2 fb f2 vb2 vt2) (hk : Kp (fun k => k = b ∨ FbB fb vb vt k) w1 w2) (h1 : OwnO w1 vb vb2) (h2 : OwnO w1 vt vt2) (hb : b < w1.heap.size) : Cdq w w2 b mb fb m m1 f2 vb2 vt2 := by
  have hsz := h.ms.kp.size
  have hown : ∀ k, FbB fb vb2 vt2 k → FbB fb vb vt k ∨ w1.heap.size ≤ k := fun k hk2 => by
    rcases hk2 with e | e | e
    · exact .inl (.inl e)
    · rcases h1 k e with h5 | h5
      · exact .inl (.inr (.inl h5))
      · exact .inr h5
    · rcases h2 k e with h5 | h5
      · exact .inl (.inr (.inr h5))
      · exact .inr h5
  refine ⟨⟨h.ms.mw.keep hk (fun k hk2 e => ?_), h.ms.ow, h.ms.ne, h.ms.kp.later hk (fun j hj => ?_), h.ms.lt⟩, hF, fun k hk2 => ?_, fun k hk2 => ?_⟩
  · rcases e with e | e
    · exact h.ms.ne (by rw [← e]; exact hk2)
    · exact (h.ne k e).2 hk2
  · rcases hj with e | e
    · exact .inl (.inl e)
    · exact .inr (h.fr j e)
  · rcases hown k hk2 with h5 | h5
    · exact h.ne k h5
    · refine ⟨by omega, fun h6 => ?_⟩
      have := h.ms.mw.lt h6
      omega
  · rcases hown k hk2 with h5 | h5
    · exact h.fr k h5
    · omega
/- the function joins the module -/
theorem Cdq.push (h : Cdq w w1 b mb fb m m1 f vb vt) (hn : m1.fs.length ≤ 1000) {ba ta : Option Addr} {bn bc tn tc : Nat} (hvb : vb = .slice ba bn bc) (hvt : vt = .slice ta tn tc) : ∃ v' w2, (Builtin.append_ #[79, 79] 79 #[m1.vf, .slice (some ⟨w1.heap.size, 0, none⟩) 1 1]).run Tryz.prog (w1.alloc (.cells #[.int .i64 f.ty, .string f.locals, vb, vt] 124)) = .ok v' w2 ∧ (∃ a n c, v' = .slice a n c) ∧
    (w2.cell? ⟨mb, 2, none⟩ = some m1.vf ∧ w2.frozen? ⟨mb, 2, none⟩ = false) ∧ Ms1 w (w2.setCell ⟨mb, 2, none⟩ v') b mb m { m1 with fs := m1.fs ++ [(f, vb, vt)], vf := v' } ∧ Kp (MwB mb m1) w1 (w2.setCell ⟨mb, 2, none⟩ v') := by
  obtain ⟨v', w2, r1, r2, r3, r5, r6, r7⟩ := h.ms.mw.pushFn hn (f, vb, vt) ⟨by show vb.oneCell' = true; rw [hvb]; rfl, by show vt.oneCell' = true; rw [hvt]; rfl⟩ ⟨fun r hr => by
      unfold fnRows at hr
      simp at hr
      rcases hr with rfl | rfl
      · exact h.fb_.bo
      · exact h.fb_.ta, by
      unfold fnRows
      refine List.pairwise_cons.2 ⟨fun r hr => ?_, List.pairwise_singleton _ _⟩
      have hr2 := List.mem_singleton.1 hr
      subst hr2
      exact fun k h1 h2 => h.fb_.d3 k h1 h2⟩ (fun c hc k h1 h2 => by
      unfold fnRows at hc
      simp at hc
      rcases hc with rfl | rfl
      · exact (h.ne k (.inr (.inl h1))).2 h2
      · exact (h.ne k (.inr (.inr h1))).2 h2)
  have hcase : ∀ k, MwB mb { m1 with fs := m1.fs ++ [(f, vb, vt)], vf := v' } k → MwB mb m1 k ∨ w1.heap.size ≤ k ∨ FbB fb vb vt k := fun k hk => by
    rcases r7 k hk with h5 | h5 | ⟨c, hc, h5⟩
    · exact .inl h5
    · exact .inr (.inl h5)
    · unfold fnRows at hc
      simp at hc
      rcases hc with rfl | rfl
      · exact .inr (.inr (.inr (.inl h5)))
      · exact .inr (.inr (.inr (.inr h5)))
  refine ⟨v', w2, r1, r2, r3, ⟨r5, fun k hk => ?_, fun hb => ?_, h.ms.kp.later r6 (fun j hj => ?_), h.ms.lt⟩, r6⟩
  · rcases hcase k hk with h5 | h5 | h5
    · exact h.ms.ow k h5
    · exact .inr (Nat.le_trans h.ms.kp.size h5)
    · exact .inr (h.fr k h5)
  · rcases hcase b hb with h5 | h5 | h5
    · exact h.ms.ne h5
    · have := h.ms.lt; have := h.ms.kp.size; omega
    · exact (h.ne b h5).1 rfl
  · rcases h.ms.ow j hj with h5 | h5
    · exact .inl (.inr h5)
    · exact .inr h5
end
end Go.Proofs.Qxb6500275aGreatDoor
