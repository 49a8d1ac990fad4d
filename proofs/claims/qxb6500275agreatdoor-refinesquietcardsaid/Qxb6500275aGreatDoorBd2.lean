import Derived.Test.Qxb6500275aGreatDoorBd1
set_option maxRecDepth 100000
set_option linter.unusedVariables false
set_option linter.unusedSimpArgs false
namespace Go.Proofs.Qxb6500275aGreatDoor
open Go Go.RowKit
/- what Decode comes to -/
def DmP (o : Except (Int × Nat) Mod) (s : ByteArray) (w : World) (en : Ending) (w' : World) : Prop :=
  Kp (fun _ => False) w w' ∧ match o with
    | .ok M => ∃ mb m, en = .returned (.tuple #[.pointer (some ⟨mb, 0, none⟩), .int .i64 s.size, .int .i64 0]) ∧ Mw w' mb m ∧ m.mod = M ∧ ∀ k, MwB mb m k → w.heap.size ≤ k
    | .error (c, a) => en = .returned (.tuple #[.pointer none, .int .i64 a, .int .i64 c])
theorem DmP.mkOk {o : Except (Int × Nat) Mod} {s : ByteArray} {w w' : World} {en : Ending} {mb : Nat} {m : MT} (ho : o = .ok m.mod) (h1 : Kp (fun _ => False) w w') (h2 : en = .returned (.tuple #[.pointer (some ⟨mb, 0, none⟩), .int .i64 s.size, .int .i64 0])) (h3 : Mw w' mb m) (h4 : ∀ k, MwB mb m k → w.heap.size ≤ k) : DmP o s w en w' := by
  subst ho; exact ⟨h1, mb, m, h2, h3, rfl, h4⟩
theorem DmP.mkErr {o : Except (Int × Nat) Mod} {s : ByteArray} {w w' : World} {en : Ending} {c : Int} {a : Nat} (ho : o = .error (c, a)) (h1 : Kp (fun _ => False) w w') (h2 : en = .returned (.tuple #[.pointer none, .int .i64 a, .int .i64 c])) : DmP o s w en w' := by
  subst ho; exact ⟨h1, h2⟩
def mt0 : MT := ⟨[], [], [], -1, -1, -1, -1, [], [], -1, [], [], .slice none 0 0, .slice none 0 0, .slice none 0 0, .slice none 0 0, .slice none 0 0, .slice none 0 0, .slice none 0 0⟩
def mt0C : Array Value := #[.slice none 0 0, .slice none 0 0, .slice none 0 0, .int .i64 (-1), .int .i64 (-1), .int .i64 (-1), .int .i64 (-1), .slice none 0 0, .slice none 0 0, .int .i64 (-1), .slice none 0 0, .slice none 0 0]
theorem Mw.new (w : World) : Mw (w.alloc (.cells mt0C 85)) w.heap.size mt0 := by
  have hb := blk_al w mt0C 85
  have hrow : ∀ r, r ∈ mt0.rows → r.v = .slice none 0 0 ∧ r.n = 0 ∧ r.xs = [] := fun r hr => by
    unfold MT.rows MT.mains mt0 at hr
    simp at hr
    rcases hr with rfl | rfl | rfl | rfl | rfl | rfl | rfl <;> exact ⟨rfl, rfl, rfl⟩
  refine ⟨hb.cell (i := 0) (by decide), hb.cell (i := 1) (by decide), hb.cell (i := 2) (by decide), hb.cell (i := 3) (by decide), hb.cell (i := 4) (by decide), hb.cell (i := 5) (by decide), hb.cell (i := 6) (by decide), hb.cell (i := 7) (by decide), hb.cell (i := 8) (by decide), hb.cell (i := 9) (by decide), hb.cell (i := 10) (by decide), hb.cell (i := 11) (by decide), fun j => World.frozen?_alloc_at _ _ _ _ rfl, ⟨fun r hr => ?_, ?_⟩, fun r hr => ?_⟩
  · obtain ⟨h1, h2, h3⟩ := hrow r hr
    unfold Row.ok
    rw [h1, h2, h3]
    exact OR.nil _ _ _
  · refine List.Pairwise.imp_of_mem (R := fun _ _ => True) (fun {a c} ha hc _ => fun k h1 => ?_) (List.pairwise_of_forall (fun _ _ => trivial))
    rw [(hrow a ha).1] at h1
    simp [Value.ownBlock] at h1
  · rw [(hrow r hr).1]
    simp [Value.ownBlock]
theorem mt0_rows {r : Row} (hr : r ∈ mt0.rows) : r.v = .slice none 0 0 := by
  unfold MT.rows MT.mains mt0 at hr
  simp at hr
  rcases hr with rfl | rfl | rfl | rfl | rfl | rfl | rfl <;> rfl
/- the sections, in the sticking form -/
structure Sx1 (X : RM) (s : ByteArray) (last q : Nat) (M : Mod) (ty : List Int) (er : Int) (a : Nat) : Prop where
  good : er = 0 → secsL s (s.size - q + 1) last q M ty = X
  bad : er ≠ 0 → X = .error (er, a)
theorem secsL_b {s : ByteArray} {q last : Nat} {M : Mod} {ty : List Int} (hq : q < s.size) (hl : ¬ (bAt s q ≤ last ∨ 11 < bAt s q)) : secsL s (s.size - q + 1) last q M ty = bindQ (u32S s (q + 1) s.size) fun z => if z.1 > (s.size : Int) - z.2 then .error (3, q + 1) else bindQ (secS (bAt s q) s z.2 (z.2 + z.1.toNat) M ty) fun x => if x.2.2 = z.2 + z.1.toNat then secsL s (s.size - x.2.2 + 1) (bAt s q) x.2.2 x.1 x.2.1 else .error (6, z.2) := by
  rw [secsL, if_pos hq]
  unfold nextS
  rw [if_pos hq]
  show (if bAt s q ≤ last ∨ 11 < bAt s q then _ else _) = _
  rw [if_neg hl]
  unfold enterS
  dsimp only
  cases hu : u32S s (q + 1) s.size with
  | error f => rfl
  | ok z =>
    have hz := (u32S_ok hu).2.1
    show bindR (if z.1 > (s.size : Int) - z.2 then _ else _) _ = (if z.1 > (s.size : Int) - z.2 then _ else _)
    by_cases h : z.1 > (s.size : Int) - z.2
    · rw [if_pos h, if_pos h]
      rfl
    · rw [if_neg h, if_neg h]
      show bindR (secS (bAt s q) s z.2 (z.2 + z.1.toNat) M ty) _ = bindQ (secS (bAt s q) s z.2 (z.2 + z.1.toNat) M ty) _
      rw [bindR_Q]
      cases secS (bAt s q) s z.2 (z.2 + z.1.toNat) M ty with
      | error f => rfl
      | ok x =>
        show (if x.2.2 = z.2 + z.1.toNat then _ else _) = (if x.2.2 = z.2 + z.1.toNat then _ else _)
        by_cases hx : x.2.2 = z.2 + z.1.toNat
        · rw [if_pos hx, if_pos hx]
          exact secsL_same s _ _ _ _ _ _ (by omega) (by omega)
        · rw [if_neg hx, if_neg hx]
end Go.Proofs.Qxb6500275aGreatDoor
