import Derived.Test.Qxb6500275aGreatDoorHo1
import Derived.Test.Qxb6500275aGreatDoorWr14
import Derived.Test.Qxb6500275aGreatDoorKq
import Derived.Test.Qxb6500275aGreatDoorMe7
import Derived.Test.Qxb6500275aGreatDoorSp14
set_option maxRecDepth 100000
set_option linter.unusedVariables false
set_option linter.unusedSimpArgs false
namespace Go.Proofs.Qxb6500275aGreatDoor
open Go Go.RowKit
/- a buffer of bytes of its own, l laid -/
structure Bs (w u : World) (b1 cap1 : Nat) (l : List Int) : Prop where
  kp : Kp (fun _ => False) w u
  hb : w.heap.size ≤ b1
  blk : ∃ D, Blk u b1 cap1 D ∧ ∀ (i : Nat) (x : Int), l[i]? = some x → D i = .int .u8 x
  cp : l.length ≤ cap1
section
variable {w u : World} {b1 cap1 t : Nat} {l : List Int}
theorem Bs.app (h : Bs w u b1 cap1 l) (hn : l.length = t) (ht : t ≤ 100000) : ∀ x : Int, ∃ r : Nat × Nat × World, (Builtin.append_ #[104, 104] 104 #[.slice (some ⟨b1, 0, none⟩) t cap1, .slice (some ⟨u.heap.size, 0, none⟩) 1 1]).run Tryz.prog (u.alloc (.cells #[.int .u8 x] 5)) = .ok (.slice (some ⟨r.1, 0, none⟩) (t + 1) r.2.1) r.2.2 ∧ Bs w r.2.2 r.1 r.2.1 (l ++ [x]) := by
  intro x
  obtain ⟨D, d1, d2⟩ := h.blk
  have hc := h.cp
  have hb := h.hb
  have hka : Kp (fun _ => False) w (u.alloc (.cells #[.int .u8 x] 5)) := h.kp.alloc _
  obtain ⟨b', cap', w', h1, h2⟩ := app_u8 (u.alloc (.cells #[.int .u8 x] 5)) 104 (d1.keep ((Kp.refl (fun _ => False) _).alloc _) (fun h => h)) (len := t) (by omega) ⟨u.heap.size, 0, none⟩ 1 [.int .u8 x] (fun j u9 hu => by
    cases j with
    | zero =>
      simp at hu
      subst hu
      rw [add_non, World.cell?_alloc_at _ _ _ _ rfl]; rfl
    | succ j => simp at hu) (fun u9 hu => by simp at hu; subst hu; rfl) (by simp; omega)
  have hsz : w.heap.size ≤ (u.alloc (.cells #[.int .u8 x] 5)).heap.size := hka.size
  refine ⟨⟨b', cap', w'⟩, h1, hka.later h2.kp (fun j hj => .inr (by omega)), ?_, ?_, ?_⟩
  · rcases h2.at_ with e | e
    · dsimp only; omega
    · dsimp only; omega
  · obtain ⟨D', e1, e2, e3⟩ := h2.blk
    refine ⟨D', e1, fun i y hi => ?_⟩
    rcases get_snoc3 hi with ⟨hl, hi'⟩ | ⟨hl, he⟩
    · rw [e2 i (by omega)]; exact d2 i y hi'
    · subst he
      have := e3 0 (.int .u8 y) rfl
      rw [hl, hn]
      simpa using this
  · have := h2.capl
    simp at this ⊢
    omega
theorem Bs.string (h : Bs w u b1 cap1 l) {r : List UInt8} (hr : l = r.map (fun c => (c.toNat : Int))) : (convert 104 9 (.slice (some ⟨b1, 0, none⟩) l.length cap1)).run Tryz.prog u = .ok (.string ⟨⟨r⟩⟩) u := by
  obtain ⟨D, d1, d2⟩ := h.blk
  have hc := h.cp
  have hb := run_convert_bytes_back (P := Tryz.prog) u 104 9 5 ⟨b1, 0, none⟩ cap1 r (by kernel_rfl) (by kernel_rfl) (by kernel_rfl) (by
    intro j hj
    have hj2 : j < l.length := by rw [hr]; simpa using hj
    rw [add_none, Nat.zero_add, d1.cell (by omega), d2 j (r[j].toNat : Int) (by rw [hr]; simp [hj])])
  have hl : l.length = r.length := by rw [hr]; simp
  rw [hl]
  exact hb
/- HexStr -/
def hxB (x : UInt8) : List UInt8 := [hexD (x.toNat / 16), hexD (x.toNat % 16)]
def hexSB (s : ByteArray) (i : Nat) : List UInt8 := (s.data.toList.take i).flatMap hxB
theorem hexSB_len (s : ByteArray) (i : Nat) (h : i ≤ s.size) : (hexSB s i).length = 2 * i := by
  unfold hexSB
  have : ∀ l : List UInt8, (l.flatMap hxB).length = 2 * l.length := fun l => by
    induction l with
    | nil => rfl
    | cons a l ih => simp [List.flatMap_cons, hxB, ih]; omega
  rw [this, List.length_take]
  have : s.data.toList.length = s.size := Array.length_toList
  omega
theorem hexSB_succ (s : ByteArray) (i : Nat) (h : i < s.size) : hexSB s (i + 1) = hexSB s i ++ [hexD (bAt s i / 16)] ++ [hexD (bAt s i % 16)] := by
  unfold hexSB
  have hl : i < s.data.toList.length := by rw [Array.length_toList]; exact h
  rw [List.take_add_one, List.getElem?_eq_getElem hl]
  simp only [Option.toList_some, List.flatMap_append, List.flatMap_cons, List.flatMap_nil, List.append_nil]
  have hb : bAt s i = (s.data.toList[i]).toNat := by unfold bAt; rw [List.getD_eq_getElem?_getD, List.getElem?_eq_getElem hl]; rfl
  rw [hb]
  simp [hxB]
set_option maxHeartbeats 4000000 in
theorem hexstr_calls (s : ByteArray) (hs : s.size ≤ 10000) (w : World) : Calls Tryz.prog 70 #[.string s] w (fun en w' => en = .returned (.string ⟨⟨hexSB s s.size⟩⟩) ∧ Kp (fun _ => False) w w') := by
  obtain ⟨n, hn⟩ : ∃ n, s.size = n := ⟨_, rfl⟩
  rw [hn] at hs
  have hm : ∀ W : World, (Instr.makeSlice 104 (.int .i64 0) (.int .i64 (2 * (n : Int)))).run Tryz.prog W = .ok (.slice (some ⟨W.heap.size, 0, none⟩) 0 (2 * n)) (W.alloc (.cells (madeCells Z104 (2 * n)) 5)) := fun W => by
    have := make_c2 (P := Tryz.prog) W 104 5 0 (2 * n) 1 1 Z104 (by kernel_rfl) (by kernel_rfl) (by kernel_rfl) (by omega) (by omega) (by omega)
    rw [Nat.mul_one] at this
    rw [show (2 * (n : Int)) = ((2 * n : Nat) : Int) by simp]
    exact this
  have HB : Hid (Bs w (w.alloc (.cells (madeCells Z104 (2 * n)) 5)) w.heap.size (2 * n) []) := ⟨(Kp.refl _ _).alloc _, Nat.le_refl _, ⟨_, blk_made w Z104 (2 * n) 5, fun i x h => by simp at h⟩, by simp⟩
  have HNN : Hid _ := hn
  rw [hn]
  have hn2 : (n : Int) ≤ 10000 := by omega
  go_enter Tryz.func70, Tryz.ntmps70
  go_wp2
  generalize (w.alloc (.cells (madeCells Z104 (2 * n)) 5)) = W at HB ⊢
  obtain ⟨b0, hb0⟩ : ∃ b0, w.heap.size = b0 := ⟨_, rfl⟩
  rw [hb0] at HB ⊢
  go_loopw [3, 4] (fun x ii w1 => ∃ (i : Nat) (u : World) (b1 cap1 : Nat), u = w1 ∧ i ≤ n ∧ ii = .int .i64 i ∧ x = .slice (some ⟨b1, 0, none⟩) (2 * i) cap1 ∧ Hid (Bs w u b1 cap1 ((hexSB s i).map (fun c => (c.toNat : Int))))) (fun _ ii _ => n + 1 - (intOf ii).toNat)
  case atStart => exact ⟨0, _, b0, 2 * n, rfl, by omega, rfl, rfl, HB.out⟩
  case round =>
    clear HB hm
    obtain ⟨i, u, b1, cap1, e, hi, rfl, rfl, HB⟩ := hrel
    subst e
    have hlen : ((hexSB s i).map (fun c => (c.toNat : Int))).length = 2 * i := by rw [List.length_map]; exact hexSB_len s i (by rw [HNN.out]; exact hi)
    by_cases hlt : i < n
    · have hib : (i : Int) < (n : Int) := by omega
      have hap := HB.out.app hlen (by omega)
      obtain ⟨f, hf⟩ := Classical.axiomOfChoice hap
      have hap2 : ∀ p : Int × Int, ∃ r : Nat × Nat × World, (Builtin.append_ #[104, 104] 104 #[.slice (some ⟨(f p.1).1, 0, none⟩) (2 * i + 1) (f p.1).2.1, .slice (some ⟨(f p.1).2.2.heap.size, 0, none⟩) 1 1]).run Tryz.prog ((f p.1).2.2.alloc (.cells #[.int .u8 p.2] 5)) = .ok (.slice (some ⟨r.1, 0, none⟩) (2 * i + 1 + 1) r.2.1) r.2.2 ∧ Bs w r.2.2 r.1 r.2.1 ((hexSB s i).map (fun c => (c.toNat : Int)) ++ [p.1] ++ [p.2]) := fun p => (hf p.1).2.app (by rw [List.length_append, hlen]; rfl) (by omega) p.2
      obtain ⟨g, hg⟩ := Classical.axiomOfChoice hap2
      have hf1 := fun x => (hf x).1
      have hg1 := fun x y => (hg (x, y)).1
      have HG : Hid _ := fun x y => (hg (x, y)).2
      dsimp only at hg1 HG
      clear hap hap2 hf hg hlen
      have hbl := bAt_get s i (by rw [HNN.out]; exact hlt)
      have hb256 : bAt s i < 256 := bAt_lt _ _
      have HN : Hid _ := hexSB_succ s i (by rw [HNN.out]; exact hlt)
      generalize bAt s i = bv at hbl hb256 HN
      have hd1 : bv / 16 < 16 := by omega
      have hd2 : bv % 16 < 16 := by omega
      have HS1 : Hid _ := hexS _ hd1
      have HS2 : Hid _ := hexS _ hd2
      go_wp2_with (at_builtin; first | refine wpList_app rfl _ _ 104 rfl (hf1 _) ?_ | refine wpList_app rfl _ _ 104 rfl (hg1 _ _) ?_)
      go_roundw
      case rel =>
        refine ⟨i + 1, _, _, _, rfl, by omega, by go_num, by rw [show 2 * (i + 1) = 2 * i + 1 + 1 by omega], ?_⟩
        show Bs w _ _ _ ((hexSB s (i + 1)).map (fun c => (c.toNat : Int)))
        rw [HN.out, List.map_append, List.map_append, ← HS1.out, ← HS2.out, ← hexStr_get _ hd1, ← hexStr_get _ hd2]
        exact HG.out _ _
      case measure => simp [intOf]; omega
    · have hie : i = n := by omega
      subst hie
      have hcv := HB.out.string rfl
      rw [hlen] at hcv
      go_wp2_with (simp only [hcv])
      refine bodyPost_ret (v := .string ⟨⟨hexSB s i⟩⟩) (by simp [results, Tryz.results70, go_sem]) rfl ?_
      exact ⟨rfl, HB.out.kp⟩
end
end Go.Proofs.Qxb6500275aGreatDoor
