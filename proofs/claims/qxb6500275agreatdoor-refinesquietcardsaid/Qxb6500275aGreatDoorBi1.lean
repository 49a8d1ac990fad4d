import Derived.Test.Qxb6500275aGreatDoorBm7
set_option maxRecDepth 100000
set_option linter.unusedVariables false
set_option linter.unusedSimpArgs false
namespace Go.Proofs.Qxb6500275aGreatDoor
open Go Go.RowKit
theorem Cu.start {α : Type} {o : R α} {v : α} {q a a1 a' : Nat} {er' : Int} (h : Cu o 0 a1 v q er' a') : Cu o 0 a v q er' a' := ⟨h.1, fun h => absurd rfl h⟩
section
variable {w w' : World} {b : Nat} {s : ByteArray} {p e : Nat} {er : Int} {a : Nat}
set_option maxHeartbeats 4000000 in
theorem ins_0 (h : Rc w b s p e 0 a) (hp : p < e) (fv : Value) (hop : bAt s p = 0) : Calls Tryz.prog 268 #[.pointer (some ⟨b, 0, none⟩), fv] w (Cm Ins.val (fun _ => True) (rest1 s (p + 1) e 0 p) b s e 0 a w) := by
  have HM := fun u => memSig_e 0 (by decide) u
  have HN := fun u => numSig_e 0 (by decide) u
  rw [show enc3 (numSig 0) = .tuple #[.int .i64 0, .int .u8 0, .int .u8 0] from rfl] at HN
  rw [show encM (memSig 0) = .tuple #[.int .i64 0, .int .u8 0, .bool false] from rfl] at HM
  have hlt : b < w.heap.size := lt_of_cell h.c0
  have HB := byte_ok h hp hop
  have c1 := h.c1
  have hpl : p ≤ 1024 := by have := h.le; have := h.es; have := h.sz; omega
  clear h hop
  go_enter Tryz.func268, Tryz.ntmps268
  go_wp2_with fail
  refine (HB.out _ ((Kp.refl _ _).alloc _)).mono ?_
  rintro en w2 ⟨a1, rfl, hR2, hK2⟩
  have hs2 : w.heap.size + 1 ≤ w2.heap.size := by have := hK2.size; rw [World.size_alloc] at this; exact this
  have H4 := (C3.new w (.int .u8 0) (.int .u32 0) (.int .u64 0) 129).keep hK2 (fun h => by have : w.heap.size = b := h; omega)
  have hKw : Kp (· = b) w w2 := ((Kp.refl _ _).alloc _).trans hK2
  have HKw : Hid _ := hKw
  have HR2 : Hid _ := hR2
  have H4' : Hid _ := H4
  have g4 := H4
  obtain ⟨z0, z1, z2, y0, y1, y2⟩ := g4
  clear hR2 hKw H4 HB c1 hK2
  go_wp2_with fail
  refine (HM _).mono ?_
  rintro en w3 ⟨rfl, rfl⟩
  go_wp2_with fail
  refine (HN _).mono ?_
  rintro en w3 ⟨rfl, rfl⟩
  clear HM HN z0 z1 z2 y0 y1 y2
  have H4n := H4'.out.keep ((Kp.refl (fun _ => False) w2).alloc (.cells #[.int .u8 0, .int .u32 0, .int .u64 0] 129)) (fun h => h)
  obtain ⟨g0, g1, g2, f0, f1, f2⟩ := H4n
  go_wp2
  refine bodyPost_ret (v := .agg #[.int .u8 0, .int .u32 0, .int .u64 0]) (by simp [results, Tryz.results268, go_sem, g0, g1, g2]) rfl ?_
  refine ins_end (x := (⟨0, 0, 0⟩ : Ins)) (w4 := w2) (n4 := w.heap.size) (n7 := w2.heap.size) rfl HR2.out HKw.out (by repeat (first | exact Kp.refl _ _ | refine Kp.setCell ?_ (.inl (.inl rfl)) _ | refine Kp.setCell ?_ (.inl (.inr rfl)) _ | refine Kp.alloc ?_ _)) (Nat.le_refl _) (by omega) hlt (Cu.start (o := rest1 s (p + 1) e _ p) (Cu.pure (⟨0, 0, 0⟩ : Ins) (p + 1)))
set_option maxHeartbeats 4000000 in
theorem ins_1 (h : Rc w b s p e 0 a) (hp : p < e) (fv : Value) (hop : bAt s p = 1) : Calls Tryz.prog 268 #[.pointer (some ⟨b, 0, none⟩), fv] w (Cm Ins.val (fun _ => True) (rest1 s (p + 1) e 1 p) b s e 0 a w) := by
  have HM := fun u => memSig_e 1 (by decide) u
  have HN := fun u => numSig_e 1 (by decide) u
  rw [show enc3 (numSig 1) = .tuple #[.int .i64 0, .int .u8 0, .int .u8 0] from rfl] at HN
  rw [show encM (memSig 1) = .tuple #[.int .i64 0, .int .u8 0, .bool false] from rfl] at HM
  have hlt : b < w.heap.size := lt_of_cell h.c0
  have HB := byte_ok h hp hop
  have c1 := h.c1
  have hpl : p ≤ 1024 := by have := h.le; have := h.es; have := h.sz; omega
  clear h hop
  go_enter Tryz.func268, Tryz.ntmps268
  go_wp2_with fail
  refine (HB.out _ ((Kp.refl _ _).alloc _)).mono ?_
  rintro en w2 ⟨a1, rfl, hR2, hK2⟩
  have hs2 : w.heap.size + 1 ≤ w2.heap.size := by have := hK2.size; rw [World.size_alloc] at this; exact this
  have H4 := (C3.new w (.int .u8 0) (.int .u32 0) (.int .u64 0) 129).keep hK2 (fun h => by have : w.heap.size = b := h; omega)
  have hKw : Kp (· = b) w w2 := ((Kp.refl _ _).alloc _).trans hK2
  have HKw : Hid _ := hKw
  have HR2 : Hid _ := hR2
  have H4' : Hid _ := H4
  have g4 := H4
  obtain ⟨z0, z1, z2, y0, y1, y2⟩ := g4
  clear hR2 hKw H4 HB c1 hK2
  go_wp2_with fail
  refine (HM _).mono ?_
  rintro en w3 ⟨rfl, rfl⟩
  go_wp2_with fail
  refine (HN _).mono ?_
  rintro en w3 ⟨rfl, rfl⟩
  clear HM HN z0 z1 z2 y0 y1 y2
  have H4n := H4'.out.keep ((Kp.refl (fun _ => False) w2).alloc (.cells #[.int .u8 1, .int .u32 0, .int .u64 0] 129)) (fun h => h)
  obtain ⟨g0, g1, g2, f0, f1, f2⟩ := H4n
  go_wp2
  refine bodyPost_ret (v := .agg #[.int .u8 1, .int .u32 0, .int .u64 0]) (by simp [results, Tryz.results268, go_sem, g0, g1, g2]) rfl ?_
  refine ins_end (x := (⟨1, 0, 0⟩ : Ins)) (w4 := w2) (n4 := w.heap.size) (n7 := w2.heap.size) rfl HR2.out HKw.out (by repeat (first | exact Kp.refl _ _ | refine Kp.setCell ?_ (.inl (.inl rfl)) _ | refine Kp.setCell ?_ (.inl (.inr rfl)) _ | refine Kp.alloc ?_ _)) (Nat.le_refl _) (by omega) hlt (Cu.start (o := rest1 s (p + 1) e _ p) (Cu.pure (⟨1, 0, 0⟩ : Ins) (p + 1)))
set_option maxHeartbeats 4000000 in
theorem ins_5 (h : Rc w b s p e 0 a) (hp : p < e) (fv : Value) (hop : bAt s p = 5) : Calls Tryz.prog 268 #[.pointer (some ⟨b, 0, none⟩), fv] w (Cm Ins.val (fun _ => True) (rest1 s (p + 1) e 5 p) b s e 0 a w) := by
  have HM := fun u => memSig_e 5 (by decide) u
  have HN := fun u => numSig_e 5 (by decide) u
  rw [show enc3 (numSig 5) = .tuple #[.int .i64 0, .int .u8 0, .int .u8 0] from rfl] at HN
  rw [show encM (memSig 5) = .tuple #[.int .i64 0, .int .u8 0, .bool false] from rfl] at HM
  have hlt : b < w.heap.size := lt_of_cell h.c0
  have HB := byte_ok h hp hop
  have c1 := h.c1
  have hpl : p ≤ 1024 := by have := h.le; have := h.es; have := h.sz; omega
  clear h hop
  go_enter Tryz.func268, Tryz.ntmps268
  go_wp2_with fail
  refine (HB.out _ ((Kp.refl _ _).alloc _)).mono ?_
  rintro en w2 ⟨a1, rfl, hR2, hK2⟩
  have hs2 : w.heap.size + 1 ≤ w2.heap.size := by have := hK2.size; rw [World.size_alloc] at this; exact this
  have H4 := (C3.new w (.int .u8 0) (.int .u32 0) (.int .u64 0) 129).keep hK2 (fun h => by have : w.heap.size = b := h; omega)
  have hKw : Kp (· = b) w w2 := ((Kp.refl _ _).alloc _).trans hK2
  have HKw : Hid _ := hKw
  have HR2 : Hid _ := hR2
  have H4' : Hid _ := H4
  have g4 := H4
  obtain ⟨z0, z1, z2, y0, y1, y2⟩ := g4
  clear hR2 hKw H4 HB c1 hK2
  go_wp2_with fail
  refine (HM _).mono ?_
  rintro en w3 ⟨rfl, rfl⟩
  go_wp2_with fail
  refine (HN _).mono ?_
  rintro en w3 ⟨rfl, rfl⟩
  clear HM HN z0 z1 z2 y0 y1 y2
  have H4n := H4'.out.keep ((Kp.refl (fun _ => False) w2).alloc (.cells #[.int .u8 5, .int .u32 0, .int .u64 0] 129)) (fun h => h)
  obtain ⟨g0, g1, g2, f0, f1, f2⟩ := H4n
  go_wp2
  refine bodyPost_ret (v := .agg #[.int .u8 5, .int .u32 0, .int .u64 0]) (by simp [results, Tryz.results268, go_sem, g0, g1, g2]) rfl ?_
  refine ins_end (x := (⟨5, 0, 0⟩ : Ins)) (w4 := w2) (n4 := w.heap.size) (n7 := w2.heap.size) rfl HR2.out HKw.out (by repeat (first | exact Kp.refl _ _ | refine Kp.setCell ?_ (.inl (.inl rfl)) _ | refine Kp.setCell ?_ (.inl (.inr rfl)) _ | refine Kp.alloc ?_ _)) (Nat.le_refl _) (by omega) hlt (Cu.start (o := rest1 s (p + 1) e _ p) (Cu.pure (⟨5, 0, 0⟩ : Ins) (p + 1)))
set_option maxHeartbeats 4000000 in
theorem ins_11 (h : Rc w b s p e 0 a) (hp : p < e) (fv : Value) (hop : bAt s p = 11) : Calls Tryz.prog 268 #[.pointer (some ⟨b, 0, none⟩), fv] w (Cm Ins.val (fun _ => True) (rest1 s (p + 1) e 11 p) b s e 0 a w) := by
  have HM := fun u => memSig_e 11 (by decide) u
  have HN := fun u => numSig_e 11 (by decide) u
  rw [show enc3 (numSig 11) = .tuple #[.int .i64 0, .int .u8 0, .int .u8 0] from rfl] at HN
  rw [show encM (memSig 11) = .tuple #[.int .i64 0, .int .u8 0, .bool false] from rfl] at HM
  have hlt : b < w.heap.size := lt_of_cell h.c0
  have HB := byte_ok h hp hop
  have c1 := h.c1
  have hpl : p ≤ 1024 := by have := h.le; have := h.es; have := h.sz; omega
  clear h hop
  go_enter Tryz.func268, Tryz.ntmps268
  go_wp2_with fail
  refine (HB.out _ ((Kp.refl _ _).alloc _)).mono ?_
  rintro en w2 ⟨a1, rfl, hR2, hK2⟩
  have hs2 : w.heap.size + 1 ≤ w2.heap.size := by have := hK2.size; rw [World.size_alloc] at this; exact this
  have H4 := (C3.new w (.int .u8 0) (.int .u32 0) (.int .u64 0) 129).keep hK2 (fun h => by have : w.heap.size = b := h; omega)
  have hKw : Kp (· = b) w w2 := ((Kp.refl _ _).alloc _).trans hK2
  have HKw : Hid _ := hKw
  have HR2 : Hid _ := hR2
  have H4' : Hid _ := H4
  have g4 := H4
  obtain ⟨z0, z1, z2, y0, y1, y2⟩ := g4
  clear hR2 hKw H4 HB c1 hK2
  go_wp2_with fail
  refine (HM _).mono ?_
  rintro en w3 ⟨rfl, rfl⟩
  go_wp2_with fail
  refine (HN _).mono ?_
  rintro en w3 ⟨rfl, rfl⟩
  clear HM HN z0 z1 z2 y0 y1 y2
  have H4n := H4'.out.keep ((Kp.refl (fun _ => False) w2).alloc (.cells #[.int .u8 11, .int .u32 0, .int .u64 0] 129)) (fun h => h)
  obtain ⟨g0, g1, g2, f0, f1, f2⟩ := H4n
  go_wp2
  refine bodyPost_ret (v := .agg #[.int .u8 11, .int .u32 0, .int .u64 0]) (by simp [results, Tryz.results268, go_sem, g0, g1, g2]) rfl ?_
  refine ins_end (x := (⟨11, 0, 0⟩ : Ins)) (w4 := w2) (n4 := w.heap.size) (n7 := w2.heap.size) rfl HR2.out HKw.out (by repeat (first | exact Kp.refl _ _ | refine Kp.setCell ?_ (.inl (.inl rfl)) _ | refine Kp.setCell ?_ (.inl (.inr rfl)) _ | refine Kp.alloc ?_ _)) (Nat.le_refl _) (by omega) hlt (Cu.start (o := rest1 s (p + 1) e _ p) (Cu.pure (⟨11, 0, 0⟩ : Ins) (p + 1)))
set_option maxHeartbeats 4000000 in
theorem ins_15 (h : Rc w b s p e 0 a) (hp : p < e) (fv : Value) (hop : bAt s p = 15) : Calls Tryz.prog 268 #[.pointer (some ⟨b, 0, none⟩), fv] w (Cm Ins.val (fun _ => True) (rest1 s (p + 1) e 15 p) b s e 0 a w) := by
  have HM := fun u => memSig_e 15 (by decide) u
  have HN := fun u => numSig_e 15 (by decide) u
  rw [show enc3 (numSig 15) = .tuple #[.int .i64 0, .int .u8 0, .int .u8 0] from rfl] at HN
  rw [show encM (memSig 15) = .tuple #[.int .i64 0, .int .u8 0, .bool false] from rfl] at HM
  have hlt : b < w.heap.size := lt_of_cell h.c0
  have HB := byte_ok h hp hop
  have c1 := h.c1
  have hpl : p ≤ 1024 := by have := h.le; have := h.es; have := h.sz; omega
  clear h hop
  go_enter Tryz.func268, Tryz.ntmps268
  go_wp2_with fail
  refine (HB.out _ ((Kp.refl _ _).alloc _)).mono ?_
  rintro en w2 ⟨a1, rfl, hR2, hK2⟩
  have hs2 : w.heap.size + 1 ≤ w2.heap.size := by have := hK2.size; rw [World.size_alloc] at this; exact this
  have H4 := (C3.new w (.int .u8 0) (.int .u32 0) (.int .u64 0) 129).keep hK2 (fun h => by have : w.heap.size = b := h; omega)
  have hKw : Kp (· = b) w w2 := ((Kp.refl _ _).alloc _).trans hK2
  have HKw : Hid _ := hKw
  have HR2 : Hid _ := hR2
  have H4' : Hid _ := H4
  have g4 := H4
  obtain ⟨z0, z1, z2, y0, y1, y2⟩ := g4
  clear hR2 hKw H4 HB c1 hK2
  go_wp2_with fail
  refine (HM _).mono ?_
  rintro en w3 ⟨rfl, rfl⟩
  go_wp2_with fail
  refine (HN _).mono ?_
  rintro en w3 ⟨rfl, rfl⟩
  clear HM HN z0 z1 z2 y0 y1 y2
  have H4n := H4'.out.keep ((Kp.refl (fun _ => False) w2).alloc (.cells #[.int .u8 15, .int .u32 0, .int .u64 0] 129)) (fun h => h)
  obtain ⟨g0, g1, g2, f0, f1, f2⟩ := H4n
  go_wp2
  refine bodyPost_ret (v := .agg #[.int .u8 15, .int .u32 0, .int .u64 0]) (by simp [results, Tryz.results268, go_sem, g0, g1, g2]) rfl ?_
  refine ins_end (x := (⟨15, 0, 0⟩ : Ins)) (w4 := w2) (n4 := w.heap.size) (n7 := w2.heap.size) rfl HR2.out HKw.out (by repeat (first | exact Kp.refl _ _ | refine Kp.setCell ?_ (.inl (.inl rfl)) _ | refine Kp.setCell ?_ (.inl (.inr rfl)) _ | refine Kp.alloc ?_ _)) (Nat.le_refl _) (by omega) hlt (Cu.start (o := rest1 s (p + 1) e _ p) (Cu.pure (⟨15, 0, 0⟩ : Ins) (p + 1)))
set_option maxHeartbeats 4000000 in
theorem ins_26 (h : Rc w b s p e 0 a) (hp : p < e) (fv : Value) (hop : bAt s p = 26) : Calls Tryz.prog 268 #[.pointer (some ⟨b, 0, none⟩), fv] w (Cm Ins.val (fun _ => True) (rest1 s (p + 1) e 26 p) b s e 0 a w) := by
  have HM := fun u => memSig_e 26 (by decide) u
  have HN := fun u => numSig_e 26 (by decide) u
  rw [show enc3 (numSig 26) = .tuple #[.int .i64 0, .int .u8 0, .int .u8 0] from rfl] at HN
  rw [show encM (memSig 26) = .tuple #[.int .i64 0, .int .u8 0, .bool false] from rfl] at HM
  have hlt : b < w.heap.size := lt_of_cell h.c0
  have HB := byte_ok h hp hop
  have c1 := h.c1
  have hpl : p ≤ 1024 := by have := h.le; have := h.es; have := h.sz; omega
  clear h hop
  go_enter Tryz.func268, Tryz.ntmps268
  go_wp2_with fail
  refine (HB.out _ ((Kp.refl _ _).alloc _)).mono ?_
  rintro en w2 ⟨a1, rfl, hR2, hK2⟩
  have hs2 : w.heap.size + 1 ≤ w2.heap.size := by have := hK2.size; rw [World.size_alloc] at this; exact this
  have H4 := (C3.new w (.int .u8 0) (.int .u32 0) (.int .u64 0) 129).keep hK2 (fun h => by have : w.heap.size = b := h; omega)
  have hKw : Kp (· = b) w w2 := ((Kp.refl _ _).alloc _).trans hK2
  have HKw : Hid _ := hKw
  have HR2 : Hid _ := hR2
  have H4' : Hid _ := H4
  have g4 := H4
  obtain ⟨z0, z1, z2, y0, y1, y2⟩ := g4
  clear hR2 hKw H4 HB c1 hK2
  go_wp2_with fail
  refine (HM _).mono ?_
  rintro en w3 ⟨rfl, rfl⟩
  go_wp2_with fail
  refine (HN _).mono ?_
  rintro en w3 ⟨rfl, rfl⟩
  clear HM HN z0 z1 z2 y0 y1 y2
  have H4n := H4'.out.keep ((Kp.refl (fun _ => False) w2).alloc (.cells #[.int .u8 26, .int .u32 0, .int .u64 0] 129)) (fun h => h)
  obtain ⟨g0, g1, g2, f0, f1, f2⟩ := H4n
  go_wp2
  refine bodyPost_ret (v := .agg #[.int .u8 26, .int .u32 0, .int .u64 0]) (by simp [results, Tryz.results268, go_sem, g0, g1, g2]) rfl ?_
  refine ins_end (x := (⟨26, 0, 0⟩ : Ins)) (w4 := w2) (n4 := w.heap.size) (n7 := w2.heap.size) rfl HR2.out HKw.out (by repeat (first | exact Kp.refl _ _ | refine Kp.setCell ?_ (.inl (.inl rfl)) _ | refine Kp.setCell ?_ (.inl (.inr rfl)) _ | refine Kp.alloc ?_ _)) (Nat.le_refl _) (by omega) hlt (Cu.start (o := rest1 s (p + 1) e _ p) (Cu.pure (⟨26, 0, 0⟩ : Ins) (p + 1)))
set_option maxHeartbeats 4000000 in
theorem ins_27 (h : Rc w b s p e 0 a) (hp : p < e) (fv : Value) (hop : bAt s p = 27) : Calls Tryz.prog 268 #[.pointer (some ⟨b, 0, none⟩), fv] w (Cm Ins.val (fun _ => True) (rest1 s (p + 1) e 27 p) b s e 0 a w) := by
  have HM := fun u => memSig_e 27 (by decide) u
  have HN := fun u => numSig_e 27 (by decide) u
  rw [show enc3 (numSig 27) = .tuple #[.int .i64 0, .int .u8 0, .int .u8 0] from rfl] at HN
  rw [show encM (memSig 27) = .tuple #[.int .i64 0, .int .u8 0, .bool false] from rfl] at HM
  have hlt : b < w.heap.size := lt_of_cell h.c0
  have HB := byte_ok h hp hop
  have c1 := h.c1
  have hpl : p ≤ 1024 := by have := h.le; have := h.es; have := h.sz; omega
  clear h hop
  go_enter Tryz.func268, Tryz.ntmps268
  go_wp2_with fail
  refine (HB.out _ ((Kp.refl _ _).alloc _)).mono ?_
  rintro en w2 ⟨a1, rfl, hR2, hK2⟩
  have hs2 : w.heap.size + 1 ≤ w2.heap.size := by have := hK2.size; rw [World.size_alloc] at this; exact this
  have H4 := (C3.new w (.int .u8 0) (.int .u32 0) (.int .u64 0) 129).keep hK2 (fun h => by have : w.heap.size = b := h; omega)
  have hKw : Kp (· = b) w w2 := ((Kp.refl _ _).alloc _).trans hK2
  have HKw : Hid _ := hKw
  have HR2 : Hid _ := hR2
  have H4' : Hid _ := H4
  have g4 := H4
  obtain ⟨z0, z1, z2, y0, y1, y2⟩ := g4
  clear hR2 hKw H4 HB c1 hK2
  go_wp2_with fail
  refine (HM _).mono ?_
  rintro en w3 ⟨rfl, rfl⟩
  go_wp2_with fail
  refine (HN _).mono ?_
  rintro en w3 ⟨rfl, rfl⟩
  clear HM HN z0 z1 z2 y0 y1 y2
  have H4n := H4'.out.keep ((Kp.refl (fun _ => False) w2).alloc (.cells #[.int .u8 27, .int .u32 0, .int .u64 0] 129)) (fun h => h)
  obtain ⟨g0, g1, g2, f0, f1, f2⟩ := H4n
  go_wp2
  refine bodyPost_ret (v := .agg #[.int .u8 27, .int .u32 0, .int .u64 0]) (by simp [results, Tryz.results268, go_sem, g0, g1, g2]) rfl ?_
  refine ins_end (x := (⟨27, 0, 0⟩ : Ins)) (w4 := w2) (n4 := w.heap.size) (n7 := w2.heap.size) rfl HR2.out HKw.out (by repeat (first | exact Kp.refl _ _ | refine Kp.setCell ?_ (.inl (.inl rfl)) _ | refine Kp.setCell ?_ (.inl (.inr rfl)) _ | refine Kp.alloc ?_ _)) (Nat.le_refl _) (by omega) hlt (Cu.start (o := rest1 s (p + 1) e _ p) (Cu.pure (⟨27, 0, 0⟩ : Ins) (p + 1)))
set_option maxHeartbeats 4000000 in
theorem ins_12 (h : Rc w b s p e 0 a) (hp : p < e) (fv : Value) (hop : bAt s p = 12) : Calls Tryz.prog 268 #[.pointer (some ⟨b, 0, none⟩), fv] w (Cm Ins.val (fun _ => True) (rest1 s (p + 1) e 12 p) b s e 0 a w) := by
  have HM := fun u => memSig_e 12 (by decide) u
  have HN := fun u => numSig_e 12 (by decide) u
  rw [show enc3 (numSig 12) = .tuple #[.int .i64 0, .int .u8 0, .int .u8 0] from rfl] at HN
  rw [show encM (memSig 12) = .tuple #[.int .i64 0, .int .u8 0, .bool false] from rfl] at HM
  have hlt : b < w.heap.size := lt_of_cell h.c0
  have HB := byte_ok h hp hop
  have c1 := h.c1
  have hpl : p ≤ 1024 := by have := h.le; have := h.es; have := h.sz; omega
  clear h hop
  go_enter Tryz.func268, Tryz.ntmps268
  go_wp2_with fail
  refine (HB.out _ ((Kp.refl _ _).alloc _)).mono ?_
  rintro en w2 ⟨a1, rfl, hR2, hK2⟩
  have hs2 : w.heap.size + 1 ≤ w2.heap.size := by have := hK2.size; rw [World.size_alloc] at this; exact this
  have H4 := (C3.new w (.int .u8 0) (.int .u32 0) (.int .u64 0) 129).keep hK2 (fun h => by have : w.heap.size = b := h; omega)
  have hKw : Kp (· = b) w w2 := ((Kp.refl _ _).alloc _).trans hK2
  have HKw : Hid _ := hKw
  have HR2 : Hid _ := hR2
  have H4' : Hid _ := H4
  have g4 := H4
  obtain ⟨z0, z1, z2, y0, y1, y2⟩ := g4
  clear hR2 hKw H4 HB c1 hK2
  go_wp2_with fail
  refine (HM _).mono ?_
  rintro en w3 ⟨rfl, rfl⟩
  go_wp2_with fail
  refine (HN _).mono ?_
  rintro en w3 ⟨rfl, rfl⟩
  clear HM HN
  have HU := u32_m (HR2.out.keep ((Kp.refl (fun _ => False) w2).alloc (.cells #[.int .u8 12, .int .u32 0, .int .u64 0] 129)) (fun h => h))
  go_wp2_with fail
  refine HU.mono ?_
  rintro en w4 ⟨v, q, er', a', rfl, hR4, hK4, hB4, hC4⟩
  have HC : Hid (Cu (rest1 s (p + 1) e 12 p) 0 a (⟨12, v, 0⟩ : Ins) q er' a') := by
    show Cu (bindQ (u32S s (p + 1) e) fun x => .ok ((⟨12, x.1, 0⟩ : Ins), x.2) : R Ins) _ _ _ _ _ _
    exact Cu.start (hC4.out.trans (Cu.pure _ _))
  have H7 := (C3.new w2 (.int .u8 12) (.int .u32 0) (.int .u64 0) 129).keep hK4 (fun h => by have : w2.heap.size = b := h; omega)
  have H4n := ((H4'.out.keep ((Kp.refl (fun _ => False) w2).alloc _) (fun h => h)).keep hK4 (fun h => by have : w.heap.size = b := h; omega))
  have HK4 : Hid _ := (HKw.out.trans ((Kp.refl _ _).alloc _)).trans hK4
  have HR4 : Hid _ := hR4
  have H7' : Hid _ := H7
  have H4s : Hid _ := H4n
  clear hR4 hK4 hC4 z0 z1 z2 y0 y1 y2
  obtain ⟨g0, g1, g2, f0, f1, f2⟩ := H4n
  obtain ⟨x0, x1, x2, v0, v1, v2⟩ := H7
  unfold encI8
  go_wp2
  refine bodyPost_ret (v := .agg #[.int .u8 12, .int .u32 v, .int .u64 0]) (by simp [results, Tryz.results268, go_sem, g0, g1, g2]) rfl ?_
  refine ins_end (x := (⟨12, v, 0⟩ : Ins)) (w4 := w4) (n4 := w.heap.size) (n7 := w2.heap.size) rfl HR4.out HK4.out (by repeat (first | exact Kp.refl _ _ | refine Kp.setCell ?_ (.inl (.inl rfl)) _ | refine Kp.setCell ?_ (.inl (.inr rfl)) _ | refine Kp.alloc ?_ _)) (Nat.le_refl _) (by omega) hlt HC.out
set_option maxHeartbeats 4000000 in
theorem ins_2 (h : Rc w b s p e 0 a) (hp : p < e) (fv : Value) (hop : bAt s p = 2) : Calls Tryz.prog 268 #[.pointer (some ⟨b, 0, none⟩), fv] w (Cm Ins.val (fun _ => True) (rest1 s (p + 1) e 2 p) b s e 0 a w) := by
  have HM := fun u => memSig_e 2 (by decide) u
  have HN := fun u => numSig_e 2 (by decide) u
  rw [show enc3 (numSig 2) = .tuple #[.int .i64 0, .int .u8 0, .int .u8 0] from rfl] at HN
  rw [show encM (memSig 2) = .tuple #[.int .i64 0, .int .u8 0, .bool false] from rfl] at HM
  have hlt : b < w.heap.size := lt_of_cell h.c0
  have HB := byte_ok h hp hop
  have c1 := h.c1
  have hpl : p ≤ 1024 := by have := h.le; have := h.es; have := h.sz; omega
  clear h hop
  go_enter Tryz.func268, Tryz.ntmps268
  go_wp2_with fail
  refine (HB.out _ ((Kp.refl _ _).alloc _)).mono ?_
  rintro en w2 ⟨a1, rfl, hR2, hK2⟩
  have hs2 : w.heap.size + 1 ≤ w2.heap.size := by have := hK2.size; rw [World.size_alloc] at this; exact this
  have H4 := (C3.new w (.int .u8 0) (.int .u32 0) (.int .u64 0) 129).keep hK2 (fun h => by have : w.heap.size = b := h; omega)
  have hKw : Kp (· = b) w w2 := ((Kp.refl _ _).alloc _).trans hK2
  have HKw : Hid _ := hKw
  have HR2 : Hid _ := hR2
  have H4' : Hid _ := H4
  have g4 := H4
  obtain ⟨z0, z1, z2, y0, y1, y2⟩ := g4
  clear hR2 hKw H4 HB c1 hK2
  go_wp2_with fail
  refine (HM _).mono ?_
  rintro en w3 ⟨rfl, rfl⟩
  go_wp2_with fail
  refine (HN _).mono ?_
  rintro en w3 ⟨rfl, rfl⟩
  clear HM HN
  have HU := byte_m (HR2.out.keep ((Kp.refl (fun _ => False) w2).alloc (.cells #[.int .u8 2, .int .u32 0, .int .u64 0] 129)) (fun h => h))
  have c1 := (HR2.out.keep ((Kp.refl (fun _ => False) w2).alloc (.cells #[.int .u8 2, .int .u32 0, .int .u64 0] 129)) (fun h => h)).c1
  go_wp2_with fail
  refine HU.mono ?_
  rintro en w4 ⟨v, q, er', a', rfl, hR4, hK4, hB4, hC4⟩
  have HF := fail_m hR4 9 (p + 1) (by have := HR2.out.le; have := HR2.out.es; have := HR2.out.sz; omega)
  have HI := isVal_m v hB4 w4
  have HCo : Hid (v = 64 ∨ (124 ≤ v ∧ v ≤ 127) → Cu (rest1 s (p + 1) e 2 p) 0 a (⟨2, v, 0⟩ : Ins) q er' a') := fun hv => by
    show Cu (bindQ (nextS s (p + 1) e) fun x => if x.1 = 64 ∨ (124 ≤ x.1 ∧ x.1 ≤ 127) then .ok ((⟨2, x.1, 0⟩ : Ins), x.2) else .error (9, p + 1) : R Ins) _ _ _ _ _ _
    exact Cu.start (hC4.out.trans (by rw [if_pos hv]; exact Cu.pure _ _))
  have HCf : Hid (¬ (v = 64 ∨ (124 ≤ v ∧ v ≤ 127)) → ∀ er2 a2, Flq er' a' 9 (p + 1) er2 a2 → Cu (rest1 s (p + 1) e 2 p) 0 a (⟨2, v, 0⟩ : Ins) q er2 a2) := fun hv er2 a2 hf => by
    show Cu (bindQ (nextS s (p + 1) e) fun x => if x.1 = 64 ∨ (124 ≤ x.1 ∧ x.1 ≤ 127) then .ok ((⟨2, x.1, 0⟩ : Ins), x.2) else .error (9, p + 1) : R Ins) _ _ _ _ _ _
    exact Cu.start (hC4.out.trans (by rw [if_neg hv]; exact Cu.fail _ _ hf (by decide)))
  have H7 := (C3.new w2 (.int .u8 2) (.int .u32 0) (.int .u64 0) 129).keep hK4 (fun h => by have : w2.heap.size = b := h; omega)
  have H4n := ((H4'.out.keep ((Kp.refl (fun _ => False) w2).alloc _) (fun h => h)).keep hK4 (fun h => by have : w.heap.size = b := h; omega))
  have HK4 : Hid _ := (HKw.out.trans ((Kp.refl _ _).alloc _)).trans hK4
  have HR4 : Hid _ := hR4
  have H7' : Hid _ := H7
  have H4s : Hid _ := H4n
  clear hR4 hK4 hC4 z0 z1 z2 y0 y1 y2
  obtain ⟨g0, g1, g2, f0, f1, f2⟩ := H4n
  obtain ⟨x0, x1, x2, v0, v1, v2⟩ := H7
  unfold encN8
  clear c1 HU
  by_cases h64 : v = 64
  · subst h64
    clear HI HF
    go_wp2
    refine bodyPost_ret (v := .agg #[.int .u8 2, .int .u32 64, .int .u64 0]) (by simp [results, Tryz.results268, go_sem, g0, g1, g2]) rfl ?_
    refine ins_end (x := (⟨2, 64, 0⟩ : Ins)) (w4 := w4) (n4 := w.heap.size) (n7 := w2.heap.size) rfl HR4.out HK4.out (by repeat (first | exact Kp.refl _ _ | refine Kp.setCell ?_ (.inl (.inl rfl)) _ | refine Kp.setCell ?_ (.inl (.inr rfl)) _ | refine Kp.alloc ?_ _)) (Nat.le_refl _) (by omega) hlt (HCo.out (.inl (by trivial)))
  by_cases hv : 124 ≤ v ∧ v ≤ 127
  · rw [decide_eq_true hv] at HI
    have hne : ((v : Int) == 64) = false := by rw [beq_eq_false_iff_ne]; omega
    have hne2 : ((v : Int) != 64) = true := by simp; omega
    have HO := HCo.out (.inr hv)
    have HO : Hid (Cu _ _ _ _ _ _ _) := HO
    clear h64 hv HF HCo HCf
    go_wp2_with fail
    refine HI.mono ?_
    rintro en w5 ⟨rfl, rfl⟩
    go_wp2
    refine bodyPost_ret (v := .agg #[.int .u8 2, .int .u32 v, .int .u64 0]) (by simp [results, Tryz.results268, go_sem, g0, g1, g2]) rfl ?_
    refine ins_end (x := (⟨2, v, 0⟩ : Ins)) (w4 := w5) (n4 := w.heap.size) (n7 := w2.heap.size) rfl HR4.out HK4.out (by repeat (first | exact Kp.refl _ _ | refine Kp.setCell ?_ (.inl (.inl rfl)) _ | refine Kp.setCell ?_ (.inl (.inr rfl)) _ | refine Kp.alloc ?_ _)) (Nat.le_refl _) (by omega) hlt HO.out
  · rw [decide_eq_false hv] at HI
    have hne : ((v : Int) == 64) = false := by rw [beq_eq_false_iff_ne]; omega
    have hne2 : ((v : Int) != 64) = true := by simp; omega
    have HO : Hid _ := HCf.out (by omega)
    clear h64 hv HCo HCf
    go_wp2_with fail
    refine HI.mono ?_
    rintro en w5 ⟨rfl, rfl⟩
    go_wp2_with fail
    refine HF.mono ?_
    rintro en w6 ⟨er2, a2, rfl, hR6, hK6, hF⟩
    have H7n := H7'.out.keep hK6 (fun h => by have : w2.heap.size = b := h; omega)
    have H4n := H4s.out.keep hK6 (fun h => by have : w.heap.size = b := h; omega)
    have HK6 : Hid _ := HK4.out.trans hK6
    have HR6 : Hid _ := hR6
    clear hR6 hK6 g0 g1 g2 f0 f1 f2 x0 x1 x2 v0 v1 v2
    obtain ⟨g0, g1, g2, f0, f1, f2⟩ := H4n
    obtain ⟨x0, x1, x2, v0, v1, v2⟩ := H7n
    go_wp2
    refine bodyPost_ret (v := .agg #[.int .u8 2, .int .u32 v, .int .u64 0]) (by simp [results, Tryz.results268, go_sem, g0, g1, g2]) rfl ?_
    refine ins_end (x := (⟨2, v, 0⟩ : Ins)) (w4 := w6) (n4 := w.heap.size) (n7 := w2.heap.size) rfl HR6.out HK6.out (by repeat (first | exact Kp.refl _ _ | refine Kp.setCell ?_ (.inl (.inl rfl)) _ | refine Kp.setCell ?_ (.inl (.inr rfl)) _ | refine Kp.alloc ?_ _)) (Nat.le_refl _) (by omega) hlt (HO.out _ _ hF.out)
set_option maxHeartbeats 4000000 in
theorem ins_17 (h : Rc w b s p e 0 a) (hp : p < e) (fv : Value) (hop : bAt s p = 17) : Calls Tryz.prog 268 #[.pointer (some ⟨b, 0, none⟩), fv] w (Cm Ins.val (fun _ => True) (rest1 s (p + 1) e 17 p) b s e 0 a w) := by
  have HM := fun u => memSig_e 17 (by decide) u
  have HN := fun u => numSig_e 17 (by decide) u
  rw [show enc3 (numSig 17) = .tuple #[.int .i64 0, .int .u8 0, .int .u8 0] from rfl] at HN
  rw [show encM (memSig 17) = .tuple #[.int .i64 0, .int .u8 0, .bool false] from rfl] at HM
  have hlt : b < w.heap.size := lt_of_cell h.c0
  have HB := byte_ok h hp hop
  have c1 := h.c1
  have hpl : p ≤ 1024 := by have := h.le; have := h.es; have := h.sz; omega
  clear h hop
  go_enter Tryz.func268, Tryz.ntmps268
  go_wp2_with fail
  refine (HB.out _ ((Kp.refl _ _).alloc _)).mono ?_
  rintro en w2 ⟨a1, rfl, hR2, hK2⟩
  have hs2 : w.heap.size + 1 ≤ w2.heap.size := by have := hK2.size; rw [World.size_alloc] at this; exact this
  have H4 := (C3.new w (.int .u8 0) (.int .u32 0) (.int .u64 0) 129).keep hK2 (fun h => by have : w.heap.size = b := h; omega)
  have hKw : Kp (· = b) w w2 := ((Kp.refl _ _).alloc _).trans hK2
  have HKw : Hid _ := hKw
  have HR2 : Hid _ := hR2
  have H4' : Hid _ := H4
  have g4 := H4
  obtain ⟨z0, z1, z2, y0, y1, y2⟩ := g4
  clear hR2 hKw H4 HB c1 hK2
  go_wp2_with fail
  refine (HM _).mono ?_
  rintro en w3 ⟨rfl, rfl⟩
  go_wp2_with fail
  refine (HN _).mono ?_
  rintro en w3 ⟨rfl, rfl⟩
  clear HM HN
  have HU := u32_m (HR2.out.keep ((Kp.refl (fun _ => False) w2).alloc (.cells #[.int .u8 17, .int .u32 0, .int .u64 0] 129)) (fun h => h))
  go_wp2_with fail
  refine HU.mono ?_
  rintro en w4 ⟨v, q, er', a', rfl, hR4, hK4, hB4, hC4⟩
  have HC4 : Hid _ := hC4.out
  have H7 := (C3.new w2 (.int .u8 17) (.int .u32 0) (.int .u64 0) 129).keep hK4 (fun h => by have : w2.heap.size = b := h; omega)
  have H4n := ((H4'.out.keep ((Kp.refl (fun _ => False) w2).alloc _) (fun h => h)).keep hK4 (fun h => by have : w.heap.size = b := h; omega))
  have HK4 : Hid _ := (HKw.out.trans ((Kp.refl _ _).alloc _)).trans hK4
  have HR4 : Hid _ := hR4
  have H7' : Hid _ := H7
  have H4s : Hid _ := H4n
  clear hR4 hK4 hC4 z0 z1 z2 y0 y1 y2
  obtain ⟨g0, g1, g2, f0, f1, f2⟩ := H4n
  obtain ⟨x0, x1, x2, v0, v1, v2⟩ := H7
  unfold encI8
  have HU2 := fixed_m (HR4.out.keep ((Kp.refl (fun k => k = w2.heap.size) w4).setCell (p := ⟨w2.heap.size, 1, none⟩) (.inl rfl) (.int .u32 v)) (fun h => by have : b = w2.heap.size := h; omega)) 0 (by decide)
  go_wp2_with fail
  refine HU2.mono ?_
  rintro en w6 ⟨_, q2, er2, a2, rfl, hR6, hK6, _, hC6⟩
  have H7n := (H7'.out.set1 (.int .u32 v)).keep hK6 (fun h => by have : w2.heap.size = b := h; omega)
  have H4n := (H4s.out.keep ((Kp.refl (fun k => k = w2.heap.size) w4).setCell (p := ⟨w2.heap.size, 1, none⟩) (.inl rfl) (.int .u32 v)) (fun h => by have : w.heap.size = w2.heap.size := h; omega)).keep hK6 (fun h => by have : w.heap.size = b := h; omega)
  have HK6 : Hid (Kp (· = b) w w6) := (HK4.out.setCell (p := ⟨w2.heap.size, 1, none⟩) (.inr (by show w.heap.size ≤ w2.heap.size; omega)) (.int .u32 v)).trans hK6
  have HR6 : Hid _ := hR6
  have HC : Hid (Cu (rest1 s (p + 1) e 17 p) 0 a (⟨17, v, 0⟩ : Ins) q2 er2 a2) := by
    show Cu (bindQ (u32S s (p + 1) e) fun x => bindQ (fixedS s x.2 e 0) fun y => .ok ((⟨17, x.1, 0⟩ : Ins), y.2) : R Ins) _ _ _ _ _ _
    exact Cu.start (HC4.out.trans (hC6.out.trans (Cu.pure _ _)))
  clear hR6 hK6 hC6 g0 g1 g2 f0 f1 f2 x0 x1 x2 v0 v1 v2
  obtain ⟨g0, g1, g2, f0, f1, f2⟩ := H4n
  obtain ⟨x0, x1, x2, v0, v1, v2⟩ := H7n
  unfold encN
  go_wp2
  refine bodyPost_ret (v := .agg #[.int .u8 17, .int .u32 v, .int .u64 0]) (by simp [results, Tryz.results268, go_sem, g0, g1, g2]) rfl ?_
  refine ins_end (x := (⟨17, v, 0⟩ : Ins)) (w4 := w6) (n4 := w.heap.size) (n7 := w2.heap.size) rfl HR6.out HK6.out (by repeat (first | exact Kp.refl _ _ | refine Kp.setCell ?_ (.inl (.inl rfl)) _ | refine Kp.setCell ?_ (.inl (.inr rfl)) _ | refine Kp.alloc ?_ _)) (Nat.le_refl _) (by omega) hlt HC.out
set_option maxHeartbeats 4000000 in
theorem ins_63 (h : Rc w b s p e 0 a) (hp : p < e) (fv : Value) (hop : bAt s p = 63) : Calls Tryz.prog 268 #[.pointer (some ⟨b, 0, none⟩), fv] w (Cm Ins.val (fun _ => True) (rest1 s (p + 1) e 63 p) b s e 0 a w) := by
  have HM := fun u => memSig_e 63 (by decide) u
  have HN := fun u => numSig_e 63 (by decide) u
  rw [show enc3 (numSig 63) = .tuple #[.int .i64 0, .int .u8 0, .int .u8 0] from rfl] at HN
  rw [show encM (memSig 63) = .tuple #[.int .i64 0, .int .u8 0, .bool false] from rfl] at HM
  have hlt : b < w.heap.size := lt_of_cell h.c0
  have HB := byte_ok h hp hop
  have c1 := h.c1
  have hpl : p ≤ 1024 := by have := h.le; have := h.es; have := h.sz; omega
  clear h hop
  go_enter Tryz.func268, Tryz.ntmps268
  go_wp2_with fail
  refine (HB.out _ ((Kp.refl _ _).alloc _)).mono ?_
  rintro en w2 ⟨a1, rfl, hR2, hK2⟩
  have hs2 : w.heap.size + 1 ≤ w2.heap.size := by have := hK2.size; rw [World.size_alloc] at this; exact this
  have H4 := (C3.new w (.int .u8 0) (.int .u32 0) (.int .u64 0) 129).keep hK2 (fun h => by have : w.heap.size = b := h; omega)
  have hKw : Kp (· = b) w w2 := ((Kp.refl _ _).alloc _).trans hK2
  have HKw : Hid _ := hKw
  have HR2 : Hid _ := hR2
  have H4' : Hid _ := H4
  have g4 := H4
  obtain ⟨z0, z1, z2, y0, y1, y2⟩ := g4
  clear hR2 hKw H4 HB c1 hK2
  go_wp2_with fail
  refine (HM _).mono ?_
  rintro en w3 ⟨rfl, rfl⟩
  go_wp2_with fail
  refine (HN _).mono ?_
  rintro en w3 ⟨rfl, rfl⟩
  clear HM HN
  have HU := fixed_m (HR2.out.keep ((Kp.refl (fun _ => False) w2).alloc (.cells #[.int .u8 63, .int .u32 0, .int .u64 0] 129)) (fun h => h)) 0 (by decide)
  go_wp2_with fail
  refine HU.mono ?_
  rintro en w4 ⟨_, q, er', a', rfl, hR4, hK4, hB4, hC4⟩
  have HC : Hid (Cu (rest1 s (p + 1) e 63 p) 0 a (⟨63, 0, 0⟩ : Ins) q er' a') := by
    show Cu (bindQ (fixedS s (p + 1) e 0) fun y => .ok ((⟨63, 0, 0⟩ : Ins), y.2) : R Ins) _ _ _ _ _ _
    exact Cu.start (hC4.out.trans (Cu.pure _ _))
  have H7 := (C3.new w2 (.int .u8 63) (.int .u32 0) (.int .u64 0) 129).keep hK4 (fun h => by have : w2.heap.size = b := h; omega)
  have H4n := ((H4'.out.keep ((Kp.refl (fun _ => False) w2).alloc _) (fun h => h)).keep hK4 (fun h => by have : w.heap.size = b := h; omega))
  have HK4 : Hid _ := (HKw.out.trans ((Kp.refl _ _).alloc _)).trans hK4
  have HR4 : Hid _ := hR4
  have H7' : Hid _ := H7
  have H4s : Hid _ := H4n
  clear hR4 hK4 hC4 z0 z1 z2 y0 y1 y2
  obtain ⟨g0, g1, g2, f0, f1, f2⟩ := H4n
  obtain ⟨x0, x1, x2, v0, v1, v2⟩ := H7
  unfold encN
  go_wp2
  refine bodyPost_ret (v := .agg #[.int .u8 63, .int .u32 0, .int .u64 0]) (by simp [results, Tryz.results268, go_sem, g0, g1, g2]) rfl ?_
  refine ins_end (x := (⟨63, 0, 0⟩ : Ins)) (w4 := w4) (n4 := w.heap.size) (n7 := w2.heap.size) rfl HR4.out HK4.out (by repeat (first | exact Kp.refl _ _ | refine Kp.setCell ?_ (.inl (.inl rfl)) _ | refine Kp.setCell ?_ (.inl (.inr rfl)) _ | refine Kp.alloc ?_ _)) (Nat.le_refl _) (by omega) hlt HC.out
set_option maxHeartbeats 4000000 in
theorem ins_65 (h : Rc w b s p e 0 a) (hp : p < e) (fv : Value) (hop : bAt s p = 65) : Calls Tryz.prog 268 #[.pointer (some ⟨b, 0, none⟩), fv] w (Cm Ins.val (fun _ => True) (rest1 s (p + 1) e 65 p) b s e 0 a w) := by
  have HM := fun u => memSig_e 65 (by decide) u
  have HN := fun u => numSig_e 65 (by decide) u
  rw [show enc3 (numSig 65) = .tuple #[.int .i64 0, .int .u8 0, .int .u8 0] from rfl] at HN
  rw [show encM (memSig 65) = .tuple #[.int .i64 0, .int .u8 0, .bool false] from rfl] at HM
  have hlt : b < w.heap.size := lt_of_cell h.c0
  have HB := byte_ok h hp hop
  have c1 := h.c1
  have hpl : p ≤ 1024 := by have := h.le; have := h.es; have := h.sz; omega
  clear h hop
  go_enter Tryz.func268, Tryz.ntmps268
  go_wp2_with fail
  refine (HB.out _ ((Kp.refl _ _).alloc _)).mono ?_
  rintro en w2 ⟨a1, rfl, hR2, hK2⟩
  have hs2 : w.heap.size + 1 ≤ w2.heap.size := by have := hK2.size; rw [World.size_alloc] at this; exact this
  have H4 := (C3.new w (.int .u8 0) (.int .u32 0) (.int .u64 0) 129).keep hK2 (fun h => by have : w.heap.size = b := h; omega)
  have hKw : Kp (· = b) w w2 := ((Kp.refl _ _).alloc _).trans hK2
  have HKw : Hid _ := hKw
  have HR2 : Hid _ := hR2
  have H4' : Hid _ := H4
  have g4 := H4
  obtain ⟨z0, z1, z2, y0, y1, y2⟩ := g4
  clear hR2 hKw H4 HB c1 hK2
  go_wp2_with fail
  refine (HM _).mono ?_
  rintro en w3 ⟨rfl, rfl⟩
  go_wp2_with fail
  refine (HN _).mono ?_
  rintro en w3 ⟨rfl, rfl⟩
  clear HM HN
  have HU := leb_m (n := 32) (L := 4) (sg := true) (HR2.out.keep ((Kp.refl (fun _ => False) w2).alloc (.cells #[.int .u8 65, .int .u32 0, .int .u64 0] 129)) (fun h => h)) (.inl ⟨rfl, rfl⟩)
  rw [lebS_32] at HU
  go_wp2_with fail
  refine HU.mono ?_
  rintro en w4 ⟨v, q, er', a', rfl, hR4, hK4, hB4, hC4⟩
  have HC : Hid (Cu (rest1 s (p + 1) e 65 p) 0 a (⟨65, 0, v⟩ : Ins) q er' a') := by
    show Cu (bindQ (cS s (p + 1) e 65) fun y => .ok ((⟨65, 0, y.1⟩ : Ins), y.2) : R Ins) _ _ _ _ _ _
    exact Cu.start (hC4.out.trans (Cu.pure _ _))
  have H7 := (C3.new w2 (.int .u8 65) (.int .u32 0) (.int .u64 0) 129).keep hK4 (fun h => by have : w2.heap.size = b := h; omega)
  have H4n := ((H4'.out.keep ((Kp.refl (fun _ => False) w2).alloc _) (fun h => h)).keep hK4 (fun h => by have : w.heap.size = b := h; omega))
  have HK4 : Hid _ := (HKw.out.trans ((Kp.refl _ _).alloc _)).trans hK4
  have HR4 : Hid _ := hR4
  have H7' : Hid _ := H7
  have H4s : Hid _ := H4n
  clear hR4 hK4 hC4 z0 z1 z2 y0 y1 y2
  obtain ⟨g0, g1, g2, f0, f1, f2⟩ := H4n
  obtain ⟨x0, x1, x2, v0, v1, v2⟩ := H7
  unfold encQ8
  clear hB4
  go_wp2
  refine bodyPost_ret (v := .agg #[.int .u8 65, .int .u32 0, .int .u64 v]) (by simp [results, Tryz.results268, go_sem, g0, g1, g2]) rfl ?_
  refine ins_end (x := (⟨65, 0, v⟩ : Ins)) (w4 := w4) (n4 := w.heap.size) (n7 := w2.heap.size) rfl HR4.out HK4.out (by repeat (first | exact Kp.refl _ _ | refine Kp.setCell ?_ (.inl (.inl rfl)) _ | refine Kp.setCell ?_ (.inl (.inr rfl)) _ | refine Kp.alloc ?_ _)) (Nat.le_refl _) (by omega) hlt HC.out
set_option maxHeartbeats 4000000 in
theorem ins_67 (h : Rc w b s p e 0 a) (hp : p < e) (fv : Value) (hop : bAt s p = 67) : Calls Tryz.prog 268 #[.pointer (some ⟨b, 0, none⟩), fv] w (Cm Ins.val (fun _ => True) (rest1 s (p + 1) e 67 p) b s e 0 a w) := by
  have HM := fun u => memSig_e 67 (by decide) u
  have HN := fun u => numSig_e 67 (by decide) u
  rw [show enc3 (numSig 67) = .tuple #[.int .i64 0, .int .u8 0, .int .u8 0] from rfl] at HN
  rw [show encM (memSig 67) = .tuple #[.int .i64 0, .int .u8 0, .bool false] from rfl] at HM
  have hlt : b < w.heap.size := lt_of_cell h.c0
  have HB := byte_ok h hp hop
  have c1 := h.c1
  have hpl : p ≤ 1024 := by have := h.le; have := h.es; have := h.sz; omega
  clear h hop
  go_enter Tryz.func268, Tryz.ntmps268
  go_wp2_with fail
  refine (HB.out _ ((Kp.refl _ _).alloc _)).mono ?_
  rintro en w2 ⟨a1, rfl, hR2, hK2⟩
  have hs2 : w.heap.size + 1 ≤ w2.heap.size := by have := hK2.size; rw [World.size_alloc] at this; exact this
  have H4 := (C3.new w (.int .u8 0) (.int .u32 0) (.int .u64 0) 129).keep hK2 (fun h => by have : w.heap.size = b := h; omega)
  have hKw : Kp (· = b) w w2 := ((Kp.refl _ _).alloc _).trans hK2
  have HKw : Hid _ := hKw
  have HR2 : Hid _ := hR2
  have H4' : Hid _ := H4
  have g4 := H4
  obtain ⟨z0, z1, z2, y0, y1, y2⟩ := g4
  clear hR2 hKw H4 HB c1 hK2
  go_wp2_with fail
  refine (HM _).mono ?_
  rintro en w3 ⟨rfl, rfl⟩
  go_wp2_with fail
  refine (HN _).mono ?_
  rintro en w3 ⟨rfl, rfl⟩
  clear HM HN
  have HU := little_m (HR2.out.keep ((Kp.refl (fun _ => False) w2).alloc (.cells #[.int .u8 67, .int .u32 0, .int .u64 0] 129)) (fun h => h)) 4 (by decide)
  go_wp2_with fail
  refine HU.mono ?_
  rintro en w4 ⟨v, q, er', a', rfl, hR4, hK4, hB4, hC4⟩
  have HC : Hid (Cu (rest1 s (p + 1) e 67 p) 0 a (⟨67, 0, v⟩ : Ins) q er' a') := by
    show Cu (bindQ (cS s (p + 1) e 67) fun y => .ok ((⟨67, 0, y.1⟩ : Ins), y.2) : R Ins) _ _ _ _ _ _
    exact Cu.start (hC4.out.trans (Cu.pure _ _))
  have H7 := (C3.new w2 (.int .u8 67) (.int .u32 0) (.int .u64 0) 129).keep hK4 (fun h => by have : w2.heap.size = b := h; omega)
  have H4n := ((H4'.out.keep ((Kp.refl (fun _ => False) w2).alloc _) (fun h => h)).keep hK4 (fun h => by have : w.heap.size = b := h; omega))
  have HK4 : Hid _ := (HKw.out.trans ((Kp.refl _ _).alloc _)).trans hK4
  have HR4 : Hid _ := hR4
  have H7' : Hid _ := H7
  have H4s : Hid _ := H4n
  clear hR4 hK4 hC4 z0 z1 z2 y0 y1 y2
  obtain ⟨g0, g1, g2, f0, f1, f2⟩ := H4n
  obtain ⟨x0, x1, x2, v0, v1, v2⟩ := H7
  unfold encQ8
  clear hB4
  go_wp2
  refine bodyPost_ret (v := .agg #[.int .u8 67, .int .u32 0, .int .u64 v]) (by simp [results, Tryz.results268, go_sem, g0, g1, g2]) rfl ?_
  refine ins_end (x := (⟨67, 0, v⟩ : Ins)) (w4 := w4) (n4 := w.heap.size) (n7 := w2.heap.size) rfl HR4.out HK4.out (by repeat (first | exact Kp.refl _ _ | refine Kp.setCell ?_ (.inl (.inl rfl)) _ | refine Kp.setCell ?_ (.inl (.inr rfl)) _ | refine Kp.alloc ?_ _)) (Nat.le_refl _) (by omega) hlt HC.out
end
end Go.Proofs.Qxb6500275aGreatDoor
