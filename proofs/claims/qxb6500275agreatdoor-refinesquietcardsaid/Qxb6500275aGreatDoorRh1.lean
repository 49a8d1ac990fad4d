import Derived.Test.Qxb6500275aGreatDoorRm6
import Derived.Test.Qxb6500275aGreatDoorHs2
set_option maxRecDepth 100000
set_option linter.unusedVariables false
set_option linter.unusedSimpArgs false
namespace Go.Proofs.Qxb6500275aGreatDoor
open Go Go.RowKit
/- a row that is read: a slice of n one-cell elements, from anywhere in its block -/
def RDr (w : World) (v : Value) (n : Nat) (xs : List Value) : Prop := xs.length = n ∧ (∀ k, v.ownBlock = some k → k < w.heap.size) ∧ ∃ a cap, v = .slice a n cap ∧ n ≤ cap ∧ cap ≤ 9223372036854775807 ∧
  (n ≠ 0 → ∃ g o, a = some ⟨g, o, none⟩ ∧ ∀ j u, xs[j]? = some u → w.cell? ⟨g, o + j, none⟩ = some u)
section
variable {w w' : World} {v : Value} {n : Nat} {xs : List Value} {P : Nat → Prop} {e : TypeId}
theorem RDr.keep (h : RDr w v n xs) (hk : Kp P w w') (hp : ∀ k, v.ownBlock = some k → ¬ P k) : RDr w' v n xs := by
  obtain ⟨h1, h2, a, cap, rfl, h3, h4, h5⟩ := h
  refine ⟨h1, fun k hk2 => Nat.lt_of_lt_of_le (h2 k hk2) hk.size, a, cap, rfl, h3, h4, fun hn => ?_⟩
  obtain ⟨g, o, rfl, h6⟩ := h5 hn
  refine ⟨g, o, rfl, fun j u hu => ?_⟩
  rw [hk.cell (p := ⟨g, o + j, none⟩) (h2 g rfl) (hp g rfl)]
  exact h6 j u hu
theorem RDr.of (h : OR w e 1 v n xs) : RDr w v n xs := by
  refine ⟨by rw [h.len, Nat.mul_one], fun k hk => h.lt hk, ?_⟩
  by_cases hn : n = 0
  · subst hn
    obtain ⟨a, cap, rfl⟩ := h.slice
    refine ⟨a, cap, rfl, by omega, ?_, fun h => absurd rfl h⟩
    rcases h.2 with ⟨e1, _⟩ | ⟨g, cap', cur, e1, h3, h4, h5, h6, _⟩
    · injection e1 with _ _ e; omega
    · injection e1 with _ _ e; simp only [maxLen] at h6; omega
  · obtain ⟨g, cap, rfl, h1, h2, h3, h4, h5⟩ := h.ptr hn
    exact ⟨_, cap, rfl, h2, h3, fun _ => ⟨g, 0, rfl, fun j u hu => by rw [Nat.zero_add]; exact h4 j u hu⟩⟩
theorem RDr.set (h : RDr w v n xs) {b i : Nat} (hb : ∀ k, v.ownBlock = some k → k ≠ b) (u : Value) : RDr (w.setCell ⟨b, i, none⟩ u) v n xs := h.keep (kp_set1 w u (P := fun k => k = b) rfl) (fun k hk e => hb k hk e)
theorem RDr.ptr (h : RDr w v n xs) (hn : n ≠ 0) : ∃ g o cap, v = .slice (some ⟨g, o, none⟩) n cap ∧ n ≤ cap ∧ cap ≤ 9223372036854775807 ∧ ∀ j u, xs[j]? = some u → w.cell? ⟨g, o + j, none⟩ = some u := by
  obtain ⟨h1, h2, a, cap, rfl, h3, h4, h5⟩ := h
  obtain ⟨g, o, rfl, h6⟩ := h5 hn
  exact ⟨g, o, cap, rfl, h3, h4, h6⟩
/- without its first -/
theorem RDr.tail {g o cap : Nat} {x : Value} (h : RDr w (.slice (some ⟨g, o, none⟩) (n + 1) cap) (n + 1) (x :: xs)) : RDr w (.slice (some (if cap = 1 then ⟨g, o, none⟩ else ⟨g, o + 1, none⟩)) n (cap - 1)) n xs := by
  obtain ⟨h1, h2, a, cap', e, h3, h4, h5⟩ := h
  injection e with e1 e2 e3
  subst e1 e3
  obtain ⟨g', o', e, h6⟩ := h5 (by omega)
  injection e with e
  injection e with e1 e2
  subst e1 e2
  refine ⟨by simpa using h1, fun k hk => h2 k (by simp only [Value.ownBlock] at hk ⊢; split at hk <;> exact hk), _, _, rfl, by omega, by omega, fun hn => ?_⟩
  refine ⟨g, o + 1, by rw [if_neg (by omega)], fun j u hu => ?_⟩
  have := h6 (j + 1) u (by simpa using hu)
  rwa [show o + 1 + j = o + (j + 1) by omega]
end
/- THE MODEL'S HOST IN MEMORY -/
def strB (l : List Nat) : ByteArray := ⟨⟨l.map UInt8.ofNat⟩⟩
def rowK (l : List Nat) : List Value := l.map fun (x : Nat) => .int .i64 (x : Int)
def rowW (l : List Nat) : List Value := l.map fun (x : Nat) => .int .u64 (x : Int)
structure Mh (w : World) (hb : Nat) (vk vt : Value) (H : Hm) : Prop where
  bk : ∃ F, Blk w hb 4 F ∧ F 0 = vk ∧ F 1 = vt ∧ F 2 = .string (strB H.tr) ∧ F 3 = .int .i64 (H.rows : Int)
  k : OR w 3 1 vk H.bd.length (rowK H.bd)
  t : RDr w vt H.tp.length (rowW H.tp)
  ak : ∀ k, vk.ownBlock = some k → k ≠ hb ∧ vt.ownBlock ≠ some k
  at_ : ∀ k, vt.ownBlock = some k → k ≠ hb
def Mhv (hb : Nat) (vk vt : Value) (k : Nat) : Prop := k = hb ∨ vk.ownBlock = some k ∨ vt.ownBlock = some k
section
variable {w w' u : World} {hb : Nat} {vk vt : Value} {H : Hm} {P T : Nat → Prop}
theorem Mh.keep (h : Mh w hb vk vt H) (hk : Kp P w w') (hp : ∀ k, Mhv hb vk vt k → ¬ P k) : Mh w' hb vk vt H := by
  obtain ⟨F, b, rest⟩ := h.bk
  exact ⟨⟨F, b.keep hk (hp hb (.inl rfl)), rest⟩, h.k.keep hk (fun k e => hp k (.inr (.inl e))), h.t.keep hk (fun k e => hp k (.inr (.inr e))), h.ak, h.at_⟩
theorem Mh.c (h : Mh w hb vk vt H) : w.cell? ⟨hb, 0, none⟩ = some vk ∧ w.cell? ⟨hb, 1, none⟩ = some vt ∧ w.cell? ⟨hb, 2, none⟩ = some (.string (strB H.tr)) ∧ w.cell? ⟨hb, 3, none⟩ = some (.int .i64 (H.rows : Int)) := by
  obtain ⟨F, b, f0, f1, f2, f3⟩ := h.bk
  exact ⟨by rw [b.cell (by decide), f0], by rw [b.cell (by decide), f1], by rw [b.cell (by decide), f2], by rw [b.cell (by decide), f3]⟩
theorem Mh.fz (h : Mh w hb vk vt H) (i : Nat) (hi : i < 4) : w.frozen? ⟨hb, i, none⟩ = false := by
  obtain ⟨F, b, _⟩ := h.bk
  exact b.fz hi
theorem Mh.lt (h : Mh w hb vk vt H) : hb < w.heap.size := by
  obtain ⟨F, b, _⟩ := h.bk
  exact b.lt (by decide)
theorem mv_set (u : World) (hb i : Nat) (vk vt v : Value) : Kp (Mhv hb vk vt) u (u.setCell ⟨hb, i, none⟩ v) := kp_set1 u v (.inl rfl)
/- amid a method -/
def Mj (w u : World) (T : Nat → Prop) (hb : Nat) (vk vt : Value) (H : Hm) : Prop := Mh u hb vk vt H ∧ Gw w u T (Mhv hb vk vt)
theorem Mj.start (h : Mh w hb vk vt H) : Mj w w (Mhv hb vk vt) hb vk vt H := ⟨h, Gw.refl _ _⟩
theorem Mj.quiet (h : Mj w u T hb vk vt H) (hk : Kp (fun _ => False) u w') : Mj w w' T hb vk vt H := ⟨h.1.keep hk (fun _ _ h => h), h.2.quiet hk⟩
theorem Mj.tr (h : Mj w u T hb vk vt H) (l : List Nat) : Mj w (u.setCell ⟨hb, 2, none⟩ (.string (strB l))) T hb vk vt { H with tr := l } := by
  obtain ⟨F, b, f0, f1, f2, f3⟩ := h.1.bk
  exact ⟨⟨⟨_, b.set (i := 2) (by decide) (.string (strB l)), by simp [upd, f0, f1, f3]⟩, h.1.k.other (fun k e => (h.1.ak k e).1) _, h.1.t.set (fun k e => h.1.at_ k e) _, h.1.ak, h.1.at_⟩, h.2.trans (Gw.same (mv_set _ _ _ _ _ _))⟩
theorem Mj.rw_ (h : Mj w u T hb vk vt H) (r : Nat) : Mj w (u.setCell ⟨hb, 3, none⟩ (.int .i64 (r : Int))) T hb vk vt { H with rows := r } := by
  obtain ⟨F, b, f0, f1, f2, f3⟩ := h.1.bk
  exact ⟨⟨⟨_, b.set (i := 3) (by decide) (.int .i64 (r : Int)), by simp [upd, f0, f1, f2]⟩, h.1.k.other (fun k e => (h.1.ak k e).1) _, h.1.t.set (fun k e => h.1.at_ k e) _, h.1.ak, h.1.at_⟩, h.2.trans (Gw.same (mv_set _ _ _ _ _ _))⟩
theorem Mj.kn (h : Mj w u T hb vk vt H) : Mj w (u.setCell ⟨hb, 0, none⟩ (.slice none 0 0)) T hb (.slice none 0 0) vt { H with bd := [] } := by
  obtain ⟨F, b, f0, f1, f2, f3⟩ := h.1.bk
  refine ⟨⟨⟨_, b.set (i := 0) (by decide) (.slice none 0 0), by simp [upd, f1, f2, f3]⟩, OR.nil _ _ _, h.1.t.set (fun k e => h.1.at_ k e) _, fun k e => (nil_own e).elim, h.1.at_⟩, h.2.trans ⟨mv_set _ _ _ _ _ _, fun k hk => ?_⟩⟩
  rcases hk with hk | hk | hk
  · exact .inl (.inl hk)
  · exact (nil_own hk).elim
  · exact .inl (.inr (.inr hk))
/- the tape's cell is laid anew -/
theorem Mj.tp (h : Mj w u T hb vk vt H) {v' : Value} {l : List Nat} (hr : RDr u v' l.length (rowW l)) (hne : ∀ k, v'.ownBlock = some k → vt.ownBlock = some k ∨ (k ≠ hb ∧ vk.ownBlock ≠ some k ∧ w.heap.size ≤ k)) : Mj w (u.setCell ⟨hb, 1, none⟩ v') T hb vk v' { H with tp := l } := by
  obtain ⟨F, b, f0, f1, f2, f3⟩ := h.1.bk
  have hs := h.2.kp.size
  have h2 : ∀ k, v'.ownBlock = some k → k ≠ hb ∧ vk.ownBlock ≠ some k := fun k hk => by
    rcases hne k hk with e | e
    · exact ⟨h.1.at_ k e, fun e2 => (h.1.ak k e2).2 e⟩
    · exact ⟨e.1, e.2.1⟩
  refine ⟨⟨⟨_, b.set (i := 1) (by decide) v', by simp [upd, f0, f2, f3]⟩, h.1.k.other (fun k e => (h.1.ak k e).1) _, hr.set (fun k e => (h2 k e).1) _, fun k e => ⟨(h.1.ak k e).1, fun e2 => (h2 k e2).2 e⟩, fun k e => (h2 k e).1⟩, ⟨?_, fun k hk => ?_⟩⟩
  · exact (h.2.trans (Gw.same (mv_set u hb 1 vk vt v'))).kp
  · rcases hk with hk | hk | hk
    · exact h.2.own k (.inl hk)
    · exact h.2.own k (.inr (.inl hk))
    · rcases hne k hk with e | e
      · exact h.2.own k (.inr (.inr e))
      · exact .inr e.2.2
/- one import more -/
theorem Mj.pk (h : Mj w u T hb vk vt H) (hn : H.bd.length ≤ 1000) (x : Nat) :
    ∃ v' w', (Builtin.append_ #[203, 203] 203 #[vk, .slice (some ⟨u.heap.size, 0, none⟩) 1 1]).run Tryz.prog (u.alloc (.cells #[.int .i64 (x : Int)] 3)) = .ok v' w' ∧ (w'.cell? ⟨hb, 0, none⟩ = some vk ∧ w'.frozen? ⟨hb, 0, none⟩ = false) ∧ (∃ a n c, v' = .slice a n c) ∧
      Mj w (w'.setCell ⟨hb, 0, none⟩ v') T hb v' vt { H with bd := H.bd ++ [x] } := by
  obtain ⟨i, i1, i2, i3, i4⟩ := i3i
  obtain ⟨v', w', r1, r2, r3, r4⟩ := h.1.k.push u203 i1 i2 i3 (by omega) rfl (by omega) (.int .i64 (x : Int)) rfl
  have hlt := h.1.lt
  obtain ⟨F, b, f0, f1, f2, f3⟩ := h.1.bk
  have hns : vk.ownBlock ≠ some hb := fun e => (h.1.ak hb e).1 rfl
  have b' := b.keep r3 hns
  have hne : ∀ k, v'.ownBlock = some k → k ≠ hb ∧ vt.ownBlock ≠ some k := fun k hk => by
    rcases r4 k hk with hh | hh
    · exact h.1.ak k hh
    · exact ⟨by omega, fun e => by have := h.1.t.2.1 k e; omega⟩
  refine ⟨v', w', r1, ⟨by rw [b'.cell (by decide), f0], b'.fz (by decide)⟩, ?_, ⟨⟨_, b'.set (i := 0) (by decide) v', by simp [upd, f1, f2, f3]⟩, ?_, ?_, hne, h.1.at_⟩, ?_⟩
  · obtain ⟨a, c, e⟩ := r2.slice
    exact ⟨a, _, c, e⟩
  · show OR _ _ _ _ (H.bd ++ [x]).length (rowK (H.bd ++ [x]))
    have e1 : rowK (H.bd ++ [x]) = rowK H.bd ++ [.int .i64 (x : Int)] := by unfold rowK; rw [List.map_append]; rfl
    rw [e1, List.length_append]
    exact r2.other (fun k hk => (hne k hk).1) _
  · exact (h.1.t.keep r3 (fun k hk e => (h.1.ak k e).2 hk)).set (fun k hk => h.1.at_ k hk) _
  · refine h.2.trans ⟨(r3.mono (fun k hk => (.inr (.inl hk) : Mhv hb vk vt k))).trans (mv_set _ _ _ _ _ _), fun k hk => ?_⟩
    rcases hk with hk | hk | hk
    · exact .inl (.inl hk)
    · rcases r4 k hk with hh | hh
      · exact .inl (.inr (.inl hh))
      · exact .inr hh
    · exact .inl (.inr (.inr hk))
end
theorem u67 : Tryz.prog.underlying 67 = some (.slice 91) := by kernel_rfl
theorem i91i : ∃ i : TypeInfo, Tryz.prog.info? 91 = some i ∧ i.zero = some (.int .u64 0) ∧ i.size = 1 ∧ i.bytes = 8 := by
  have h0 : (Tryz.prog.info? 91).map (fun i => (i.zero, i.size, i.bytes)) = some (some (.int .u64 0), 1, 8) := by kernel_rfl
  cases h : Tryz.prog.info? 91 with
  | none => rw [h] at h0; simp at h0
  | some i =>
    rw [h] at h0
    simp at h0
    exact ⟨i, rfl, h0.1, h0.2.1, h0.2.2⟩
section
variable {w w' u : World} {hb : Nat} {vk vt : Value} {H : Hm} {P T : Nat → Prop}
/- amid the tape's laying: its row is the host's own -/
def Mjt (w u : World) (T : Nat → Prop) (hb : Nat) (vk vt : Value) (H : Hm) : Prop := Mj w u T hb vk vt H ∧ OR u 91 1 vt H.tp.length (rowW H.tp)
theorem Mj.tn (h : Mj w u T hb vk vt H) : Mjt w (u.setCell ⟨hb, 1, none⟩ (.slice none 0 0)) T hb vk (.slice none 0 0) { H with tp := [] } :=
  ⟨h.tp (l := []) (RDr.of (e := 91) (OR.nil _ _ _)) (fun k e => (nil_own e).elim), OR.nil _ _ _⟩
theorem Mjt.pt (h : Mjt w u T hb vk vt H) (hn : H.tp.length ≤ 1000) (x : Nat) :
    ∃ v' w', (Builtin.append_ #[67, 67] 67 #[vt, .slice (some ⟨u.heap.size, 0, none⟩) 1 1]).run Tryz.prog (u.alloc (.cells #[.int .u64 (x : Int)] 91)) = .ok v' w' ∧ (w'.cell? ⟨hb, 1, none⟩ = some vt ∧ w'.frozen? ⟨hb, 1, none⟩ = false) ∧ (∃ a n c, v' = .slice a n c) ∧
      Mjt w (w'.setCell ⟨hb, 1, none⟩ v') T hb vk v' { H with tp := H.tp ++ [x] } := by
  obtain ⟨i, i1, i2, i3, i4⟩ := i91i
  obtain ⟨h, ho⟩ := h
  obtain ⟨v', w', r1, r2, r3, r4⟩ := ho.push u67 i1 i2 i3 (by omega) rfl (by omega) (.int .u64 (x : Int)) rfl
  have hlt := h.1.lt
  obtain ⟨F, b, f0, f1, f2, f3⟩ := h.1.bk
  have hns : vt.ownBlock ≠ some hb := fun e => h.1.at_ hb e rfl
  have b' := b.keep r3 hns
  have e1 : rowW (H.tp ++ [x]) = rowW H.tp ++ [.int .u64 (x : Int)] := by unfold rowW; rw [List.map_append]; rfl
  have hne : ∀ k, v'.ownBlock = some k → k ≠ hb ∧ vk.ownBlock ≠ some k := fun k hk => by
    rcases r4 k hk with hh | hh
    · exact ⟨h.1.at_ k hh, fun e => (h.1.ak k e).2 hh⟩
    · exact ⟨by omega, fun e => by have := h.1.k.lt e; omega⟩
  have hor : OR (w'.setCell ⟨hb, 1, none⟩ v') 91 1 v' (H.tp ++ [x]).length (rowW (H.tp ++ [x])) := by
    rw [e1, List.length_append]
    exact r2.other (fun k hk => (hne k hk).1) _
  refine ⟨v', w', r1, ⟨by rw [b'.cell (by decide), f1], b'.fz (by decide)⟩, ?_, ⟨⟨⟨_, b'.set (i := 1) (by decide) v', by simp [upd, f0, f2, f3]⟩, ?_, RDr.of hor, fun k e => ⟨(h.1.ak k e).1, fun e2 => (hne k e2).2 e⟩, fun k e => (hne k e).1⟩, ?_⟩, hor⟩
  · obtain ⟨a, c, e⟩ := r2.slice
    exact ⟨a, _, c, e⟩
  · exact (h.1.k.keep r3 (fun k hk e => (h.1.ak k hk).2 e)).other (fun k hk => (h.1.ak k hk).1) _
  · refine h.2.trans ⟨(r3.mono (fun k hk => (.inr (.inr hk) : Mhv hb vk vt k))).trans (mv_set _ _ _ _ _ _), fun k hk => ?_⟩
    rcases hk with hk | hk | hk
    · exact .inl (.inl hk)
    · exact .inl (.inr (.inl hk))
    · rcases r4 k hk with hh | hh
      · exact .inl (.inr (.inr hh))
      · exact .inr hh
end
end Go.Proofs.Qxb6500275aGreatDoor
