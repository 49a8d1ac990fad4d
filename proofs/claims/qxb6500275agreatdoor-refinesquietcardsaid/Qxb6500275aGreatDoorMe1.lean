import Derived.Test.Qxb6500275aGreatDoorLs
import Derived.Test.Qxb6500275aGreatDoorProg
import Derived.WalkKit
import Derived.WalkLawsBesides
import Derived.Deep.Light
import Derived.OwnWalk
import Derived.Deep.QuietTactic
import Derived.BigQuiet
set_option maxRecDepth 100000
set_option linter.unusedVariables false
set_option linter.unusedSimpArgs false
namespace Go.Proofs.Qxb6500275aGreatDoor
open Go Go.RowKit
/- the store as plain data -/
structure Sm where
  has : Bool
  bs : List Nat
  cap : Nat
  tab : List Int
  gl : List Int
structure SmOk (S : Sm) : Prop where
  m : S.bs.length % 64 = 0 ∧ S.cap % 64 = 0 ∧ S.bs.length ≤ S.cap ∧ S.cap ≤ 384
  b : ∀ x, x ∈ S.bs → x < 256
  no : S.has = false → S.bs = [] ∧ S.cap = 0
  t : S.tab.length ≤ 8 ∧ ∀ x, x ∈ S.tab → -1 ≤ x ∧ x < 1000
  g : S.gl.length ≤ 4 ∧ ∀ x, x ∈ S.gl → 0 ≤ x ∧ x < 18446744073709551616
structure SL (F G : Nat → Value) (rb : Nat) (S : Sm) : Prop where
  bk : F 0 = .slice (some ⟨rb, 0, none⟩) 384 384
  hs : F 1 = .bool S.has
  mm : F 2 = .slice (if S.has = true then some ⟨rb, 0, none⟩ else none) S.bs.length S.cap
  tb : ∀ i t, S.tab[i]? = some t → F (3 + i) = .int .i64 t
  nt : F 11 = .int .i64 S.tab.length
  gb : ∀ i t, S.gl[i]? = some t → F (12 + i) = .int .u64 t
  ng : F 16 = .int .i64 S.gl.length
  bb : ∀ (i : Nat) (t : Nat), S.bs[i]? = some t → G i = .int .u8 t
structure Mm (w : World) (sb rb : Nat) (S : Sm) : Prop where
  is : ∃ F G, Blk w sb 17 F ∧ Blk w rb 384 G ∧ SL F G rb S
  ne : sb ≠ rb
section
variable {w w' : World} {sb rb : Nat} {S : Sm}
theorem Mm.keep {P : Nat → Prop} (h : Mm w sb rb S) (hk : Kp P w w') (h1 : ¬ P sb) (h2 : ¬ P rb) : Mm w' sb rb S := by
  obtain ⟨⟨F, G, b1, b2, hl⟩, ne⟩ := h
  exact ⟨⟨F, G, b1.keep hk h1, b2.keep hk h2, hl⟩, ne⟩
structure MmC (w : World) (sb rb : Nat) (S : Sm) : Prop where
  c0 : w.cell? ⟨sb, 0, none⟩ = some (.slice (some ⟨rb, 0, none⟩) 384 384)
  c1 : w.cell? ⟨sb, 1, none⟩ = some (.bool S.has)
  c2 : w.cell? ⟨sb, 2, none⟩ = some (.slice (if S.has = true then some ⟨rb, 0, none⟩ else none) S.bs.length S.cap)
  c11 : w.cell? ⟨sb, 11, none⟩ = some (.int .i64 S.tab.length)
  c16 : w.cell? ⟨sb, 16, none⟩ = some (.int .i64 S.gl.length)
  tb : ∀ i t, S.tab[i]? = some t → i < 8 → w.cell? ⟨sb, 3 + i, none⟩ = some (.int .i64 t)
  gb : ∀ i t, S.gl[i]? = some t → i < 4 → w.cell? ⟨sb, 12 + i, none⟩ = some (.int .u64 t)
  bb : ∀ (i : Nat) (t : Nat), S.bs[i]? = some t → i < 384 → w.cell? ⟨rb, i, none⟩ = some (.int .u8 t)
theorem Mm.cells (h : Mm w sb rb S) : MmC w sb rb S := by
  obtain ⟨⟨F, G, b1, b2, hl⟩, ne⟩ := h
  exact ⟨by rw [b1.cell (by decide), hl.bk], by rw [b1.cell (by decide), hl.hs], by rw [b1.cell (by decide), hl.mm], by rw [b1.cell (by decide), hl.nt], by rw [b1.cell (by decide), hl.ng], fun i t h hi => by rw [b1.cell (by omega), hl.tb i t h], fun i t h hi => by rw [b1.cell (by omega), hl.gb i t h], fun i t h hi => by rw [b2.cell (by omega), hl.bb i t h]⟩
/- what reads and leaves no trace -/
def Qm (w : World) (v : Value) (en : Ending) (w' : World) : Prop := en = .returned v ∧ w' = w
theorem pages_calls (h : Mm w sb rb S) (hS : SmOk S) : Calls Tryz.prog 99 #[.pointer (some ⟨sb, 0, none⟩)] w (Qm w (.int .i64 ((S.bs.length / 64 : Nat) : Int))) := by
  have c2 := h.cells.c2
  generalize (if S.has = true then some (⟨rb, 0, none⟩ : Addr) else none) = a at c2
  have hm := hS.m
  generalize S.bs.length = n at *
  go_enter Tryz.func99, Tryz.ntmps99
  go_wp2
  have hw : wrap64 ((n : Int) / 64) = (n : Int) / 64 := by unfold wrap64; omega
  refine bodyPost_ret (v := .int .i64 ((n / 64 : Nat) : Int)) (by simp [results, Tryz.results99, go_sem, hw]) rfl ?_
  exact ⟨rfl, rfl⟩
theorem tabLen_calls (h : Mm w sb rb S) : Calls Tryz.prog 91 #[.pointer (some ⟨sb, 0, none⟩)] w (Qm w (.int .i64 S.tab.length)) := by
  have c2 := h.cells.c11
  go_enter Tryz.func91, Tryz.ntmps91
  go_wp2
  refine bodyPost_ret (v := .int .i64 S.tab.length) (by simp [results, Tryz.results91, go_sem]) rfl ?_
  exact ⟨rfl, rfl⟩
theorem mfits_calls (h : Mm w sb rb S) (hS : SmOk S) (at_ n : Nat) (ha : at_ < 4294967296) (hn : n < 1000000) : Calls Tryz.prog 92 #[.pointer (some ⟨sb, 0, none⟩), .int .u32 at_, .int .i64 n] w (Qm w (.bool (decide (at_ + n ≤ S.bs.length)))) := by
  have c2 := h.cells.c2
  generalize (if S.has = true then some (⟨rb, 0, none⟩ : Addr) else none) = a at c2
  have hm := hS.m
  generalize S.bs.length = m at *
  go_enter Tryz.func92, Tryz.ntmps92
  go_wp2
  have hd : decide ((at_ : Int) + (n : Int) ≤ (m : Int)) = decide (at_ + n ≤ m) := decide_eq_decide.2 (by omega)
  refine bodyPost_ret (v := .bool (decide (at_ + n ≤ m))) (by simp [results, Tryz.results92, go_sem, hd]) rfl ?_
  exact ⟨rfl, rfl⟩
/- a table's cell -/
def elemS (S : Sm) (i : Nat) : Int × Nat := match S.tab[i]? with
  | none => (0, 43)
  | some t => if t < 0 then (0, 43) else (t, 0)
set_option maxHeartbeats 2000000 in
theorem elem_calls (h : Mm w sb rb S) (hS : SmOk S) (i : Nat) (hi : i < 4294967296) : Calls Tryz.prog 97 #[.pointer (some ⟨sb, 0, none⟩), .int .u32 i] w (Qm w (.tuple #[.int .i64 (elemS S i).1, .int .i64 (elemS S i).2])) := by
  have hc := h.cells
  have c11 := hc.c11
  have tb := hc.tb
  obtain ⟨X, hX⟩ : ∃ X, elemS S i = X := ⟨_, rfl⟩
  rw [hX]
  unfold elemS at hX
  have hl := hS.t.1
  cases hq : S.tab[i]? with
  | none =>
    rw [hq] at hX
    have h1 : S.tab.length ≤ i := List.getElem?_eq_none_iff.1 hq
    generalize S.tab.length = n at *
    have h2 : (n : Int) ≤ (i : Int) := by omega
    have HX : Hid _ := hX
    clear hX hq tb
    go_enter Tryz.func97, Tryz.ntmps97
    go_wp2
    refine bodyPost_ret (v := .tuple #[.int .i64 0, .int .i64 43]) (by simp [results, Tryz.results97, go_sem]) rfl ?_
    exact ⟨by rw [← HX.out]; rfl, rfl⟩
  | some t =>
    rw [hq] at hX
    dsimp only at hX
    have h1 := (List.getElem?_eq_some_iff.1 hq).1
    have ct := tb i t hq (by omega)
    generalize S.tab.length = n at *
    have h2 : (i : Int) < (n : Int) := by omega
    have h8 : (i : Int) < 8 := by omega
    clear tb hq
    by_cases h0 : t < 0
    · rw [if_pos h0] at hX
      have HX : Hid _ := hX
      clear hX
      go_enter Tryz.func97, Tryz.ntmps97
      go_wp2
      refine bodyPost_ret (v := .tuple #[.int .i64 0, .int .i64 43]) (by simp [results, Tryz.results97, go_sem]) rfl ?_
      exact ⟨by rw [← HX.out]; rfl, rfl⟩
    · rw [if_neg h0] at hX
      have HX : Hid _ := hX
      clear hX
      go_enter Tryz.func97, Tryz.ntmps97
      go_wp2
      refine bodyPost_ret (v := .tuple #[.int .i64 t, .int .i64 0]) (by simp [results, Tryz.results97, go_sem]) rfl ?_
      exact ⟨by rw [← HX.out]; rfl, rfl⟩
theorem Mm.setTab (h : Mm w sb rb S) {i : Nat} (hi : i < 8) (hl : S.tab.length ≤ 8) (f : Int) : Mm (w.setCell ⟨sb, 3 + i, none⟩ (.int .i64 f)) sb rb { S with tab := S.tab.set i f } := by
  obtain ⟨⟨F, G, b1, b2, hl⟩, ne⟩ := h
  refine ⟨⟨_, G, b1.set (i := 3 + i) (by omega) _, b2.other (Ne.symm ne) _, ⟨?_, ?_, ?_, fun j t hj => ?_, ?_, fun j t hj => ?_, ?_, hl.bb⟩⟩, ne⟩
  · rw [upd_ne _ _ (by omega)]; exact hl.bk
  · rw [upd_ne _ _ (by omega)]; exact hl.hs
  · rw [upd_ne _ _ (by omega)]; exact hl.mm
  · dsimp only at hj
    rw [List.getElem?_set] at hj
    by_cases e : i = j
    · subst e
      rw [if_pos rfl] at hj
      split at hj
      · simp at hj; rw [upd_same, hj]
      · simp at hj
    · rw [if_neg e] at hj
      rw [upd_ne _ _ (by omega)]
      exact hl.tb j t hj
  · rw [upd_ne _ _ (by omega)]; dsimp only; rw [List.length_set]; exact hl.nt
  · have : j < S.gl.length := (List.getElem?_eq_some_iff.1 hj).1
    rw [upd_ne _ _ (by omega)]; exact hl.gb j t hj
  · rw [upd_ne _ _ (by omega)]; exact hl.ng
theorem Mm.setGl (h : Mm w sb rb S) {i : Nat} (hi : i < 4) (ht : S.tab.length ≤ 8) (f : Int) : Mm (w.setCell ⟨sb, 12 + i, none⟩ (.int .u64 f)) sb rb { S with gl := S.gl.set i f } := by
  obtain ⟨⟨F, G, b1, b2, hl⟩, ne⟩ := h
  refine ⟨⟨_, G, b1.set (i := 12 + i) (by omega) _, b2.other (Ne.symm ne) _, ⟨?_, ?_, ?_, fun j t hj => ?_, ?_, fun j t hj => ?_, ?_, hl.bb⟩⟩, ne⟩
  · rw [upd_ne _ _ (by omega)]; exact hl.bk
  · rw [upd_ne _ _ (by omega)]; exact hl.hs
  · rw [upd_ne _ _ (by omega)]; exact hl.mm
  · have : j < S.tab.length := (List.getElem?_eq_some_iff.1 hj).1
    rw [upd_ne _ _ (by omega)]; exact hl.tb j t hj
  · rw [upd_ne _ _ (by omega)]; exact hl.nt
  · dsimp only at hj
    rw [List.getElem?_set] at hj
    by_cases e : i = j
    · subst e
      rw [if_pos rfl] at hj
      split at hj
      · simp at hj; rw [upd_same, hj]
      · simp at hj
    · rw [if_neg e] at hj
      rw [upd_ne _ _ (by omega)]
      exact hl.gb j t hj
  · rw [upd_ne _ _ (by omega)]; dsimp only; rw [List.length_set]; exact hl.ng
theorem Mm.fz (h : Mm w sb rb S) {i : Nat} (hi : i < 17) : (∃ v, w.cell? ⟨sb, i, none⟩ = some v) ∧ w.frozen? ⟨sb, i, none⟩ = false := by
  obtain ⟨⟨F, G, b1, b2, hl⟩, ne⟩ := h
  exact ⟨⟨_, b1.cell hi⟩, b1.fz hi⟩
def setElemS (S : Sm) (i : Nat) (f : Int) : Nat × Sm := if f < 0 then (36, S) else if S.tab.length ≤ i then (31, S) else (0, { S with tab := S.tab.set i f })
/- what an errno and a store come to -/
def Se (sb rb : Nat) (w : World) (r : Nat × Sm) (en : Ending) (w' : World) : Prop := en = .returned (.int .i64 (r.1 : Int)) ∧ Kp (· = sb) w w' ∧ Mm w' sb rb r.2
set_option maxHeartbeats 2000000 in
theorem setElem_calls (h : Mm w sb rb S) (hS : SmOk S) (i : Nat) (hi : i < 4294967296) (f : Int) : Calls Tryz.prog 93 #[.pointer (some ⟨sb, 0, none⟩), .int .u32 i, .int .i64 f] w (Se sb rb w (setElemS S i f)) := by
  have hc := h.cells
  have c11 := hc.c11
  have hl := hS.t.1
  obtain ⟨X, hX⟩ : ∃ X, setElemS S i f = X := ⟨_, rfl⟩
  rw [hX]
  unfold setElemS at hX
  have HM : Hid _ := h
  have HT : Hid _ := hl
  clear h hc
  by_cases h0 : f < 0
  · rw [if_pos h0] at hX
    have HX : Hid _ := hX
    clear hX
    go_enter Tryz.func93, Tryz.ntmps93
    go_wp2
    refine bodyPost_ret (v := .int .i64 36) (by simp [results, Tryz.results93, go_sem]) rfl ?_
    rw [← HX.out]
    exact ⟨rfl, Kp.refl _ _, HM.out⟩
  · rw [if_neg h0] at hX
    obtain ⟨n, hn⟩ : ∃ n, S.tab.length = n := ⟨_, rfl⟩
    rw [hn] at c11 hl hX
    by_cases h1 : n ≤ i
    · rw [if_pos h1] at hX
      have HX : Hid _ := hX
      have HN : Hid _ := hn
      have h2 : (n : Int) ≤ (i : Int) := by omega
      clear hX hn
      go_enter Tryz.func93, Tryz.ntmps93
      go_wp2
      refine bodyPost_ret (v := .int .i64 31) (by simp [results, Tryz.results93, go_sem]) rfl ?_
      rw [← HX.out]
      exact ⟨rfl, Kp.refl _ _, HM.out⟩
    · rw [if_neg h1] at hX
      have HX : Hid _ := hX
      have HN : Hid _ := hn
      have h2 : (i : Int) < (n : Int) := by omega
      have h8 : (i : Int) < 8 := by omega
      have h8n : i < 8 := by omega
      obtain ⟨⟨v, cv⟩, cf⟩ := HM.out.fz (i := 3 + i) (by omega)
      clear hX hn
      go_enter Tryz.func93, Tryz.ntmps93
      go_wp2
      refine bodyPost_ret (v := .int .i64 0) (by simp [results, Tryz.results93, go_sem]) rfl ?_
      rw [← HX.out]
      exact ⟨rfl, (Kp.refl (fun k => k = sb) _).setCell (p := ⟨sb, 3 + i, none⟩) (.inl rfl) _, HM.out.setTab h8n HT.out f⟩
/- a global's word -/
set_option maxHeartbeats 2000000 in
theorem global_calls (h : Mm w sb rb S) (hS : SmOk S) (i : Nat) {v : Int} (hv : S.gl[i]? = some v) : Calls Tryz.prog 98 #[.pointer (some ⟨sb, 0, none⟩), .int .i64 i] w (Qm w (.tuple #[.int .u64 v, .int .i64 0])) := by
  have hc := h.cells
  have c16 := hc.c16
  have hl := hS.g.1
  have h1 := (List.getElem?_eq_some_iff.1 hv).1
  have cv := hc.gb i v hv (by omega)
  generalize S.gl.length = n at *
  have h2 : (i : Int) < (n : Int) := by omega
  have h8 : (i : Int) < 4 := by omega
  have i1 : decide ((i : Int) < 0) = false := decide_eq_false (by omega)
  have i2 : decide (n ≤ i) = false := decide_eq_false (by omega)
  clear hc hv
  go_enter Tryz.func98, Tryz.ntmps98
  go_wp2
  refine bodyPost_ret (v := .tuple #[.int .u64 v, .int .i64 0]) (by simp [results, Tryz.results98, go_sem]) rfl ?_
  exact ⟨rfl, rfl⟩
set_option maxHeartbeats 2000000 in
theorem setGlobal_calls (h : Mm w sb rb S) (hS : SmOk S) (i : Nat) (h1 : i < S.gl.length) (v : Int) : Calls Tryz.prog 90 #[.pointer (some ⟨sb, 0, none⟩), .int .i64 i, .int .u64 v] w (Se sb rb w (0, { S with gl := S.gl.set i v })) := by
  have hc := h.cells
  have c16 := hc.c16
  have hl := hS.g.1
  have HM : Hid _ := h
  have HT : Hid _ := hS.t.1
  obtain ⟨⟨v0, cv⟩, cf⟩ := h.fz (i := 12 + i) (by omega)
  generalize S.gl.length = n at *
  have h2 : (i : Int) < (n : Int) := by omega
  have h8 : (i : Int) < 4 := by omega
  have h8n : i < 4 := by omega
  have i1 : decide ((i : Int) < 0) = false := decide_eq_false (by omega)
  have i2 : decide (n ≤ i) = false := decide_eq_false (by omega)
  clear hc h
  go_enter Tryz.func90, Tryz.ntmps90
  go_wp2
  refine bodyPost_ret (v := .int .i64 0) (by simp [results, Tryz.results90, go_sem]) rfl ?_
  exact ⟨rfl, (Kp.refl (fun k => k = sb) _).setCell (p := ⟨sb, 12 + i, none⟩) (.inl rfl) _, HM.out.setGl h8n HT.out v⟩
/- base + off, and w bytes from it -/
set_option maxHeartbeats 2000000 in
theorem place_calls (h : Mm w sb rb S) (hS : SmOk S) (a o k : Nat) (ha : a < 4294967296) (ho : o < 4294967296) (hk : k ≤ 8) : Calls Tryz.prog 163 #[.pointer (some ⟨sb, 0, none⟩), .int .u32 a, .int .u32 o, .int .u64 k] w (Qm w (if a + o + k ≤ S.bs.length then .tuple #[.int .i64 ((a + o : Nat) : Int), .bool true] else .tuple #[.int .i64 0, .bool false])) := by
  have c2 := h.cells.c2
  generalize (if S.has = true then some (⟨rb, 0, none⟩ : Addr) else none) = aa at c2
  have hm := hS.m
  generalize S.bs.length = m at *
  by_cases h1 : a + o + k ≤ m
  · rw [if_pos h1]
    have h2 : (a : Int) + (o : Int) + (k : Int) ≤ (m : Int) := by omega
    go_enter Tryz.func163, Tryz.ntmps163
    go_wp2
    refine bodyPost_ret (v := .tuple #[.int .i64 ((a + o : Nat) : Int), .bool true]) (by simp [results, Tryz.results163, go_sem]) rfl ?_
    exact ⟨rfl, rfl⟩
  · rw [if_neg h1]
    have h2 : ¬ ((a : Int) + (o : Int) + (k : Int) ≤ (m : Int)) := by omega
    go_enter Tryz.func163, Tryz.ntmps163
    go_wp2
    refine bodyPost_ret (v := .tuple #[.int .i64 0, .bool false]) (by simp [results, Tryz.results163, go_sem]) rfl ?_
    exact ⟨rfl, rfl⟩
end
end Go.Proofs.Qxb6500275aGreatDoor
