import Derived.Test.Qxb6500275aGreatDoorBi1
set_option maxRecDepth 100000
set_option linter.unusedVariables false
set_option linter.unusedSimpArgs false
namespace Go.Proofs.Qxb6500275aGreatDoor
open Go Go.RowKit
section
variable {w w' : World} {b : Nat} {s : ByteArray} {p e : Nat} {er : Int} {a : Nat}
set_option maxHeartbeats 4000000 in
theorem ins_13 (h : Rc w b s p e 0 a) (hp : p < e) (fv : Value) (hop : bAt s p = 13) : Calls Tryz.prog 268 #[.pointer (some ⟨b, 0, none⟩), fv] w (Cm Ins.val (fun _ => True) (rest1 s (p + 1) e 13 p) b s e 0 a w) := by
  have HM := fun u => memSig_e 13 (by decide) u
  have HN := fun u => numSig_e 13 (by decide) u
  rw [show enc3 (numSig 13) = .tuple #[.int .i64 0, .int .u8 0, .int .u8 0] from rfl] at HN
  rw [show encM (memSig 13) = .tuple #[.int .i64 0, .int .u8 0, .bool false] from rfl] at HM
  have hlt : b < w.heap.size := lt_of_cell h.c0
  have HB := byte_ok h hp hop
  have c1 := h.c1
  have hpl : p ≤ 1024 := by have := h.le; have := h.es; have := h.sz; omega
  clear h hop
  go_enter Tryz.func268, Tryz.ntmps268
  go_wp2_with fail
  refine (HB.out _ ((Kp.refl _ _).alloc _)).mono ?_
  rintro en w2 ⟨a1, rfl, hR2, hK2⟩
  have hs2 : w.heap.size + 1 ≤ w2.heap.size := by have := hK2.size; rw [World.size_alloc] at this; exact this
  have H4 := (C3.new w (.int .u8 0) (.int .u32 0) (.int .u64 0) 129).keep hK2 (fun h => by have : w.heap.size = b := h; omega)
  have hKw : Kp (· = b) w w2 := ((Kp.refl _ _).alloc _).trans hK2
  have HKw : Hid _ := hKw
  have HR2 : Hid _ := hR2
  have H4' : Hid _ := H4
  have g4 := H4
  obtain ⟨z0, z1, z2, y0, y1, y2⟩ := g4
  clear hR2 hKw H4 HB c1 hK2
  go_wp2_with fail
  refine (HM _).mono ?_
  rintro en w3 ⟨rfl, rfl⟩
  go_wp2_with fail
  refine (HN _).mono ?_
  rintro en w3 ⟨rfl, rfl⟩
  clear HM HN
  have HU := u32_m (HR2.out.keep ((Kp.refl (fun _ => False) w2).alloc (.cells #[.int .u8 13, .int .u32 0, .int .u64 0] 129)) (fun h => h))
  go_wp2_with fail
  refine HU.mono ?_
  rintro en w4 ⟨v, q, er', a', rfl, hR4, hK4, hB4, hC4⟩
  have HC : Hid (Cu (rest1 s (p + 1) e 13 p) 0 a (⟨13, v, 0⟩ : Ins) q er' a') := by
    show Cu (bindQ (u32S s (p + 1) e) fun x => .ok ((⟨13, x.1, 0⟩ : Ins), x.2) : R Ins) _ _ _ _ _ _
    exact Cu.start (hC4.out.trans (Cu.pure _ _))
  have H7 := (C3.new w2 (.int .u8 13) (.int .u32 0) (.int .u64 0) 129).keep hK4 (fun h => by have : w2.heap.size = b := h; omega)
  have H4n := ((H4'.out.keep ((Kp.refl (fun _ => False) w2).alloc _) (fun h => h)).keep hK4 (fun h => by have : w.heap.size = b := h; omega))
  have HK4 : Hid _ := (HKw.out.trans ((Kp.refl _ _).alloc _)).trans hK4
  have HR4 : Hid _ := hR4
  have H7' : Hid _ := H7
  have H4s : Hid _ := H4n
  clear hR4 hK4 hC4 z0 z1 z2 y0 y1 y2
  obtain ⟨g0, g1, g2, f0, f1, f2⟩ := H4n
  obtain ⟨x0, x1, x2, v0, v1, v2⟩ := H7
  unfold encI8
  go_wp2
  refine bodyPost_ret (v := .agg #[.int .u8 13, .int .u32 v, .int .u64 0]) (by simp [results, Tryz.results268, go_sem, g0, g1, g2]) rfl ?_
  refine ins_end (x := (⟨13, v, 0⟩ : Ins)) (w4 := w4) (n4 := w.heap.size) (n7 := w2.heap.size) rfl HR4.out HK4.out (by repeat (first | exact Kp.refl _ _ | refine Kp.setCell ?_ (.inl (.inl rfl)) _ | refine Kp.setCell ?_ (.inl (.inr rfl)) _ | refine Kp.alloc ?_ _)) (Nat.le_refl _) (by omega) hlt HC.out
set_option maxHeartbeats 4000000 in
theorem ins_16 (h : Rc w b s p e 0 a) (hp : p < e) (fv : Value) (hop : bAt s p = 16) : Calls Tryz.prog 268 #[.pointer (some ⟨b, 0, none⟩), fv] w (Cm Ins.val (fun _ => True) (rest1 s (p + 1) e 16 p) b s e 0 a w) := by
  have HM := fun u => memSig_e 16 (by decide) u
  have HN := fun u => numSig_e 16 (by decide) u
  rw [show enc3 (numSig 16) = .tuple #[.int .i64 0, .int .u8 0, .int .u8 0] from rfl] at HN
  rw [show encM (memSig 16) = .tuple #[.int .i64 0, .int .u8 0, .bool false] from rfl] at HM
  have hlt : b < w.heap.size := lt_of_cell h.c0
  have HB := byte_ok h hp hop
  have c1 := h.c1
  have hpl : p ≤ 1024 := by have := h.le; have := h.es; have := h.sz; omega
  clear h hop
  go_enter Tryz.func268, Tryz.ntmps268
  go_wp2_with fail
  refine (HB.out _ ((Kp.refl _ _).alloc _)).mono ?_
  rintro en w2 ⟨a1, rfl, hR2, hK2⟩
  have hs2 : w.heap.size + 1 ≤ w2.heap.size := by have := hK2.size; rw [World.size_alloc] at this; exact this
  have H4 := (C3.new w (.int .u8 0) (.int .u32 0) (.int .u64 0) 129).keep hK2 (fun h => by have : w.heap.size = b := h; omega)
  have hKw : Kp (· = b) w w2 := ((Kp.refl _ _).alloc _).trans hK2
  have HKw : Hid _ := hKw
  have HR2 : Hid _ := hR2
  have H4' : Hid _ := H4
  have g4 := H4
  obtain ⟨z0, z1, z2, y0, y1, y2⟩ := g4
  clear hR2 hKw H4 HB c1 hK2
  go_wp2_with fail
  refine (HM _).mono ?_
  rintro en w3 ⟨rfl, rfl⟩
  go_wp2_with fail
  refine (HN _).mono ?_
  rintro en w3 ⟨rfl, rfl⟩
  clear HM HN
  have HU := u32_m (HR2.out.keep ((Kp.refl (fun _ => False) w2).alloc (.cells #[.int .u8 16, .int .u32 0, .int .u64 0] 129)) (fun h => h))
  go_wp2_with fail
  refine HU.mono ?_
  rintro en w4 ⟨v, q, er', a', rfl, hR4, hK4, hB4, hC4⟩
  have HC : Hid (Cu (rest1 s (p + 1) e 16 p) 0 a (⟨16, v, 0⟩ : Ins) q er' a') := by
    show Cu (bindQ (u32S s (p + 1) e) fun x => .ok ((⟨16, x.1, 0⟩ : Ins), x.2) : R Ins) _ _ _ _ _ _
    exact Cu.start (hC4.out.trans (Cu.pure _ _))
  have H7 := (C3.new w2 (.int .u8 16) (.int .u32 0) (.int .u64 0) 129).keep hK4 (fun h => by have : w2.heap.size = b := h; omega)
  have H4n := ((H4'.out.keep ((Kp.refl (fun _ => False) w2).alloc _) (fun h => h)).keep hK4 (fun h => by have : w.heap.size = b := h; omega))
  have HK4 : Hid _ := (HKw.out.trans ((Kp.refl _ _).alloc _)).trans hK4
  have HR4 : Hid _ := hR4
  have H7' : Hid _ := H7
  have H4s : Hid _ := H4n
  clear hR4 hK4 hC4 z0 z1 z2 y0 y1 y2
  obtain ⟨g0, g1, g2, f0, f1, f2⟩ := H4n
  obtain ⟨x0, x1, x2, v0, v1, v2⟩ := H7
  unfold encI8
  go_wp2
  refine bodyPost_ret (v := .agg #[.int .u8 16, .int .u32 v, .int .u64 0]) (by simp [results, Tryz.results268, go_sem, g0, g1, g2]) rfl ?_
  refine ins_end (x := (⟨16, v, 0⟩ : Ins)) (w4 := w4) (n4 := w.heap.size) (n7 := w2.heap.size) rfl HR4.out HK4.out (by repeat (first | exact Kp.refl _ _ | refine Kp.setCell ?_ (.inl (.inl rfl)) _ | refine Kp.setCell ?_ (.inl (.inr rfl)) _ | refine Kp.alloc ?_ _)) (Nat.le_refl _) (by omega) hlt HC.out
set_option maxHeartbeats 4000000 in
theorem ins_32 (h : Rc w b s p e 0 a) (hp : p < e) (fv : Value) (hop : bAt s p = 32) : Calls Tryz.prog 268 #[.pointer (some ⟨b, 0, none⟩), fv] w (Cm Ins.val (fun _ => True) (rest1 s (p + 1) e 32 p) b s e 0 a w) := by
  have HM := fun u => memSig_e 32 (by decide) u
  have HN := fun u => numSig_e 32 (by decide) u
  rw [show enc3 (numSig 32) = .tuple #[.int .i64 0, .int .u8 0, .int .u8 0] from rfl] at HN
  rw [show encM (memSig 32) = .tuple #[.int .i64 0, .int .u8 0, .bool false] from rfl] at HM
  have hlt : b < w.heap.size := lt_of_cell h.c0
  have HB := byte_ok h hp hop
  have c1 := h.c1
  have hpl : p ≤ 1024 := by have := h.le; have := h.es; have := h.sz; omega
  clear h hop
  go_enter Tryz.func268, Tryz.ntmps268
  go_wp2_with fail
  refine (HB.out _ ((Kp.refl _ _).alloc _)).mono ?_
  rintro en w2 ⟨a1, rfl, hR2, hK2⟩
  have hs2 : w.heap.size + 1 ≤ w2.heap.size := by have := hK2.size; rw [World.size_alloc] at this; exact this
  have H4 := (C3.new w (.int .u8 0) (.int .u32 0) (.int .u64 0) 129).keep hK2 (fun h => by have : w.heap.size = b := h; omega)
  have hKw : Kp (· = b) w w2 := ((Kp.refl _ _).alloc _).trans hK2
  have HKw : Hid _ := hKw
  have HR2 : Hid _ := hR2
  have H4' : Hid _ := H4
  have g4 := H4
  obtain ⟨z0, z1, z2, y0, y1, y2⟩ := g4
  clear hR2 hKw H4 HB c1 hK2
  go_wp2_with fail
  refine (HM _).mono ?_
  rintro en w3 ⟨rfl, rfl⟩
  go_wp2_with fail
  refine (HN _).mono ?_
  rintro en w3 ⟨rfl, rfl⟩
  clear HM HN
  have HU := u32_m (HR2.out.keep ((Kp.refl (fun _ => False) w2).alloc (.cells #[.int .u8 32, .int .u32 0, .int .u64 0] 129)) (fun h => h))
  go_wp2_with fail
  refine HU.mono ?_
  rintro en w4 ⟨v, q, er', a', rfl, hR4, hK4, hB4, hC4⟩
  have HC : Hid (Cu (rest1 s (p + 1) e 32 p) 0 a (⟨32, v, 0⟩ : Ins) q er' a') := by
    show Cu (bindQ (u32S s (p + 1) e) fun x => .ok ((⟨32, x.1, 0⟩ : Ins), x.2) : R Ins) _ _ _ _ _ _
    exact Cu.start (hC4.out.trans (Cu.pure _ _))
  have H7 := (C3.new w2 (.int .u8 32) (.int .u32 0) (.int .u64 0) 129).keep hK4 (fun h => by have : w2.heap.size = b := h; omega)
  have H4n := ((H4'.out.keep ((Kp.refl (fun _ => False) w2).alloc _) (fun h => h)).keep hK4 (fun h => by have : w.heap.size = b := h; omega))
  have HK4 : Hid _ := (HKw.out.trans ((Kp.refl _ _).alloc _)).trans hK4
  have HR4 : Hid _ := hR4
  have H7' : Hid _ := H7
  have H4s : Hid _ := H4n
  clear hR4 hK4 hC4 z0 z1 z2 y0 y1 y2
  obtain ⟨g0, g1, g2, f0, f1, f2⟩ := H4n
  obtain ⟨x0, x1, x2, v0, v1, v2⟩ := H7
  unfold encI8
  go_wp2
  refine bodyPost_ret (v := .agg #[.int .u8 32, .int .u32 v, .int .u64 0]) (by simp [results, Tryz.results268, go_sem, g0, g1, g2]) rfl ?_
  refine ins_end (x := (⟨32, v, 0⟩ : Ins)) (w4 := w4) (n4 := w.heap.size) (n7 := w2.heap.size) rfl HR4.out HK4.out (by repeat (first | exact Kp.refl _ _ | refine Kp.setCell ?_ (.inl (.inl rfl)) _ | refine Kp.setCell ?_ (.inl (.inr rfl)) _ | refine Kp.alloc ?_ _)) (Nat.le_refl _) (by omega) hlt HC.out
set_option maxHeartbeats 4000000 in
theorem ins_33 (h : Rc w b s p e 0 a) (hp : p < e) (fv : Value) (hop : bAt s p = 33) : Calls Tryz.prog 268 #[.pointer (some ⟨b, 0, none⟩), fv] w (Cm Ins.val (fun _ => True) (rest1 s (p + 1) e 33 p) b s e 0 a w) := by
  have HM := fun u => memSig_e 33 (by decide) u
  have HN := fun u => numSig_e 33 (by decide) u
  rw [show enc3 (numSig 33) = .tuple #[.int .i64 0, .int .u8 0, .int .u8 0] from rfl] at HN
  rw [show encM (memSig 33) = .tuple #[.int .i64 0, .int .u8 0, .bool false] from rfl] at HM
  have hlt : b < w.heap.size := lt_of_cell h.c0
  have HB := byte_ok h hp hop
  have c1 := h.c1
  have hpl : p ≤ 1024 := by have := h.le; have := h.es; have := h.sz; omega
  clear h hop
  go_enter Tryz.func268, Tryz.ntmps268
  go_wp2_with fail
  refine (HB.out _ ((Kp.refl _ _).alloc _)).mono ?_
  rintro en w2 ⟨a1, rfl, hR2, hK2⟩
  have hs2 : w.heap.size + 1 ≤ w2.heap.size := by have := hK2.size; rw [World.size_alloc] at this; exact this
  have H4 := (C3.new w (.int .u8 0) (.int .u32 0) (.int .u64 0) 129).keep hK2 (fun h => by have : w.heap.size = b := h; omega)
  have hKw : Kp (· = b) w w2 := ((Kp.refl _ _).alloc _).trans hK2
  have HKw : Hid _ := hKw
  have HR2 : Hid _ := hR2
  have H4' : Hid _ := H4
  have g4 := H4
  obtain ⟨z0, z1, z2, y0, y1, y2⟩ := g4
  clear hR2 hKw H4 HB c1 hK2
  go_wp2_with fail
  refine (HM _).mono ?_
  rintro en w3 ⟨rfl, rfl⟩
  go_wp2_with fail
  refine (HN _).mono ?_
  rintro en w3 ⟨rfl, rfl⟩
  clear HM HN
  have HU := u32_m (HR2.out.keep ((Kp.refl (fun _ => False) w2).alloc (.cells #[.int .u8 33, .int .u32 0, .int .u64 0] 129)) (fun h => h))
  go_wp2_with fail
  refine HU.mono ?_
  rintro en w4 ⟨v, q, er', a', rfl, hR4, hK4, hB4, hC4⟩
  have HC : Hid (Cu (rest1 s (p + 1) e 33 p) 0 a (⟨33, v, 0⟩ : Ins) q er' a') := by
    show Cu (bindQ (u32S s (p + 1) e) fun x => .ok ((⟨33, x.1, 0⟩ : Ins), x.2) : R Ins) _ _ _ _ _ _
    exact Cu.start (hC4.out.trans (Cu.pure _ _))
  have H7 := (C3.new w2 (.int .u8 33) (.int .u32 0) (.int .u64 0) 129).keep hK4 (fun h => by have : w2.heap.size = b := h; omega)
  have H4n := ((H4'.out.keep ((Kp.refl (fun _ => False) w2).alloc _) (fun h => h)).keep hK4 (fun h => by have : w.heap.size = b := h; omega))
  have HK4 : Hid _ := (HKw.out.trans ((Kp.refl _ _).alloc _)).trans hK4
  have HR4 : Hid _ := hR4
  have H7' : Hid _ := H7
  have H4s : Hid _ := H4n
  clear hR4 hK4 hC4 z0 z1 z2 y0 y1 y2
  obtain ⟨g0, g1, g2, f0, f1, f2⟩ := H4n
  obtain ⟨x0, x1, x2, v0, v1, v2⟩ := H7
  unfold encI8
  go_wp2
  refine bodyPost_ret (v := .agg #[.int .u8 33, .int .u32 v, .int .u64 0]) (by simp [results, Tryz.results268, go_sem, g0, g1, g2]) rfl ?_
  refine ins_end (x := (⟨33, v, 0⟩ : Ins)) (w4 := w4) (n4 := w.heap.size) (n7 := w2.heap.size) rfl HR4.out HK4.out (by repeat (first | exact Kp.refl _ _ | refine Kp.setCell ?_ (.inl (.inl rfl)) _ | refine Kp.setCell ?_ (.inl (.inr rfl)) _ | refine Kp.alloc ?_ _)) (Nat.le_refl _) (by omega) hlt HC.out
set_option maxHeartbeats 4000000 in
theorem ins_34 (h : Rc w b s p e 0 a) (hp : p < e) (fv : Value) (hop : bAt s p = 34) : Calls Tryz.prog 268 #[.pointer (some ⟨b, 0, none⟩), fv] w (Cm Ins.val (fun _ => True) (rest1 s (p + 1) e 34 p) b s e 0 a w) := by
  have HM := fun u => memSig_e 34 (by decide) u
  have HN := fun u => numSig_e 34 (by decide) u
  rw [show enc3 (numSig 34) = .tuple #[.int .i64 0, .int .u8 0, .int .u8 0] from rfl] at HN
  rw [show encM (memSig 34) = .tuple #[.int .i64 0, .int .u8 0, .bool false] from rfl] at HM
  have hlt : b < w.heap.size := lt_of_cell h.c0
  have HB := byte_ok h hp hop
  have c1 := h.c1
  have hpl : p ≤ 1024 := by have := h.le; have := h.es; have := h.sz; omega
  clear h hop
  go_enter Tryz.func268, Tryz.ntmps268
  go_wp2_with fail
  refine (HB.out _ ((Kp.refl _ _).alloc _)).mono ?_
  rintro en w2 ⟨a1, rfl, hR2, hK2⟩
  have hs2 : w.heap.size + 1 ≤ w2.heap.size := by have := hK2.size; rw [World.size_alloc] at this; exact this
  have H4 := (C3.new w (.int .u8 0) (.int .u32 0) (.int .u64 0) 129).keep hK2 (fun h => by have : w.heap.size = b := h; omega)
  have hKw : Kp (· = b) w w2 := ((Kp.refl _ _).alloc _).trans hK2
  have HKw : Hid _ := hKw
  have HR2 : Hid _ := hR2
  have H4' : Hid _ := H4
  have g4 := H4
  obtain ⟨z0, z1, z2, y0, y1, y2⟩ := g4
  clear hR2 hKw H4 HB c1 hK2
  go_wp2_with fail
  refine (HM _).mono ?_
  rintro en w3 ⟨rfl, rfl⟩
  go_wp2_with fail
  refine (HN _).mono ?_
  rintro en w3 ⟨rfl, rfl⟩
  clear HM HN
  have HU := u32_m (HR2.out.keep ((Kp.refl (fun _ => False) w2).alloc (.cells #[.int .u8 34, .int .u32 0, .int .u64 0] 129)) (fun h => h))
  go_wp2_with fail
  refine HU.mono ?_
  rintro en w4 ⟨v, q, er', a', rfl, hR4, hK4, hB4, hC4⟩
  have HC : Hid (Cu (rest1 s (p + 1) e 34 p) 0 a (⟨34, v, 0⟩ : Ins) q er' a') := by
    show Cu (bindQ (u32S s (p + 1) e) fun x => .ok ((⟨34, x.1, 0⟩ : Ins), x.2) : R Ins) _ _ _ _ _ _
    exact Cu.start (hC4.out.trans (Cu.pure _ _))
  have H7 := (C3.new w2 (.int .u8 34) (.int .u32 0) (.int .u64 0) 129).keep hK4 (fun h => by have : w2.heap.size = b := h; omega)
  have H4n := ((H4'.out.keep ((Kp.refl (fun _ => False) w2).alloc _) (fun h => h)).keep hK4 (fun h => by have : w.heap.size = b := h; omega))
  have HK4 : Hid _ := (HKw.out.trans ((Kp.refl _ _).alloc _)).trans hK4
  have HR4 : Hid _ := hR4
  have H7' : Hid _ := H7
  have H4s : Hid _ := H4n
  clear hR4 hK4 hC4 z0 z1 z2 y0 y1 y2
  obtain ⟨g0, g1, g2, f0, f1, f2⟩ := H4n
  obtain ⟨x0, x1, x2, v0, v1, v2⟩ := H7
  unfold encI8
  go_wp2
  refine bodyPost_ret (v := .agg #[.int .u8 34, .int .u32 v, .int .u64 0]) (by simp [results, Tryz.results268, go_sem, g0, g1, g2]) rfl ?_
  refine ins_end (x := (⟨34, v, 0⟩ : Ins)) (w4 := w4) (n4 := w.heap.size) (n7 := w2.heap.size) rfl HR4.out HK4.out (by repeat (first | exact Kp.refl _ _ | refine Kp.setCell ?_ (.inl (.inl rfl)) _ | refine Kp.setCell ?_ (.inl (.inr rfl)) _ | refine Kp.alloc ?_ _)) (Nat.le_refl _) (by omega) hlt HC.out
set_option maxHeartbeats 4000000 in
theorem ins_35 (h : Rc w b s p e 0 a) (hp : p < e) (fv : Value) (hop : bAt s p = 35) : Calls Tryz.prog 268 #[.pointer (some ⟨b, 0, none⟩), fv] w (Cm Ins.val (fun _ => True) (rest1 s (p + 1) e 35 p) b s e 0 a w) := by
  have HM := fun u => memSig_e 35 (by decide) u
  have HN := fun u => numSig_e 35 (by decide) u
  rw [show enc3 (numSig 35) = .tuple #[.int .i64 0, .int .u8 0, .int .u8 0] from rfl] at HN
  rw [show encM (memSig 35) = .tuple #[.int .i64 0, .int .u8 0, .bool false] from rfl] at HM
  have hlt : b < w.heap.size := lt_of_cell h.c0
  have HB := byte_ok h hp hop
  have c1 := h.c1
  have hpl : p ≤ 1024 := by have := h.le; have := h.es; have := h.sz; omega
  clear h hop
  go_enter Tryz.func268, Tryz.ntmps268
  go_wp2_with fail
  refine (HB.out _ ((Kp.refl _ _).alloc _)).mono ?_
  rintro en w2 ⟨a1, rfl, hR2, hK2⟩
  have hs2 : w.heap.size + 1 ≤ w2.heap.size := by have := hK2.size; rw [World.size_alloc] at this; exact this
  have H4 := (C3.new w (.int .u8 0) (.int .u32 0) (.int .u64 0) 129).keep hK2 (fun h => by have : w.heap.size = b := h; omega)
  have hKw : Kp (· = b) w w2 := ((Kp.refl _ _).alloc _).trans hK2
  have HKw : Hid _ := hKw
  have HR2 : Hid _ := hR2
  have H4' : Hid _ := H4
  have g4 := H4
  obtain ⟨z0, z1, z2, y0, y1, y2⟩ := g4
  clear hR2 hKw H4 HB c1 hK2
  go_wp2_with fail
  refine (HM _).mono ?_
  rintro en w3 ⟨rfl, rfl⟩
  go_wp2_with fail
  refine (HN _).mono ?_
  rintro en w3 ⟨rfl, rfl⟩
  clear HM HN
  have HU := u32_m (HR2.out.keep ((Kp.refl (fun _ => False) w2).alloc (.cells #[.int .u8 35, .int .u32 0, .int .u64 0] 129)) (fun h => h))
  go_wp2_with fail
  refine HU.mono ?_
  rintro en w4 ⟨v, q, er', a', rfl, hR4, hK4, hB4, hC4⟩
  have HC : Hid (Cu (rest1 s (p + 1) e 35 p) 0 a (⟨35, v, 0⟩ : Ins) q er' a') := by
    show Cu (bindQ (u32S s (p + 1) e) fun x => .ok ((⟨35, x.1, 0⟩ : Ins), x.2) : R Ins) _ _ _ _ _ _
    exact Cu.start (hC4.out.trans (Cu.pure _ _))
  have H7 := (C3.new w2 (.int .u8 35) (.int .u32 0) (.int .u64 0) 129).keep hK4 (fun h => by have : w2.heap.size = b := h; omega)
  have H4n := ((H4'.out.keep ((Kp.refl (fun _ => False) w2).alloc _) (fun h => h)).keep hK4 (fun h => by have : w.heap.size = b := h; omega))
  have HK4 : Hid _ := (HKw.out.trans ((Kp.refl _ _).alloc _)).trans hK4
  have HR4 : Hid _ := hR4
  have H7' : Hid _ := H7
  have H4s : Hid _ := H4n
  clear hR4 hK4 hC4 z0 z1 z2 y0 y1 y2
  obtain ⟨g0, g1, g2, f0, f1, f2⟩ := H4n
  obtain ⟨x0, x1, x2, v0, v1, v2⟩ := H7
  unfold encI8
  go_wp2
  refine bodyPost_ret (v := .agg #[.int .u8 35, .int .u32 v, .int .u64 0]) (by simp [results, Tryz.results268, go_sem, g0, g1, g2]) rfl ?_
  refine ins_end (x := (⟨35, v, 0⟩ : Ins)) (w4 := w4) (n4 := w.heap.size) (n7 := w2.heap.size) rfl HR4.out HK4.out (by repeat (first | exact Kp.refl _ _ | refine Kp.setCell ?_ (.inl (.inl rfl)) _ | refine Kp.setCell ?_ (.inl (.inr rfl)) _ | refine Kp.alloc ?_ _)) (Nat.le_refl _) (by omega) hlt HC.out
set_option maxHeartbeats 4000000 in
theorem ins_36 (h : Rc w b s p e 0 a) (hp : p < e) (fv : Value) (hop : bAt s p = 36) : Calls Tryz.prog 268 #[.pointer (some ⟨b, 0, none⟩), fv] w (Cm Ins.val (fun _ => True) (rest1 s (p + 1) e 36 p) b s e 0 a w) := by
  have HM := fun u => memSig_e 36 (by decide) u
  have HN := fun u => numSig_e 36 (by decide) u
  rw [show enc3 (numSig 36) = .tuple #[.int .i64 0, .int .u8 0, .int .u8 0] from rfl] at HN
  rw [show encM (memSig 36) = .tuple #[.int .i64 0, .int .u8 0, .bool false] from rfl] at HM
  have hlt : b < w.heap.size := lt_of_cell h.c0
  have HB := byte_ok h hp hop
  have c1 := h.c1
  have hpl : p ≤ 1024 := by have := h.le; have := h.es; have := h.sz; omega
  clear h hop
  go_enter Tryz.func268, Tryz.ntmps268
  go_wp2_with fail
  refine (HB.out _ ((Kp.refl _ _).alloc _)).mono ?_
  rintro en w2 ⟨a1, rfl, hR2, hK2⟩
  have hs2 : w.heap.size + 1 ≤ w2.heap.size := by have := hK2.size; rw [World.size_alloc] at this; exact this
  have H4 := (C3.new w (.int .u8 0) (.int .u32 0) (.int .u64 0) 129).keep hK2 (fun h => by have : w.heap.size = b := h; omega)
  have hKw : Kp (· = b) w w2 := ((Kp.refl _ _).alloc _).trans hK2
  have HKw : Hid _ := hKw
  have HR2 : Hid _ := hR2
  have H4' : Hid _ := H4
  have g4 := H4
  obtain ⟨z0, z1, z2, y0, y1, y2⟩ := g4
  clear hR2 hKw H4 HB c1 hK2
  go_wp2_with fail
  refine (HM _).mono ?_
  rintro en w3 ⟨rfl, rfl⟩
  go_wp2_with fail
  refine (HN _).mono ?_
  rintro en w3 ⟨rfl, rfl⟩
  clear HM HN
  have HU := u32_m (HR2.out.keep ((Kp.refl (fun _ => False) w2).alloc (.cells #[.int .u8 36, .int .u32 0, .int .u64 0] 129)) (fun h => h))
  go_wp2_with fail
  refine HU.mono ?_
  rintro en w4 ⟨v, q, er', a', rfl, hR4, hK4, hB4, hC4⟩
  have HC : Hid (Cu (rest1 s (p + 1) e 36 p) 0 a (⟨36, v, 0⟩ : Ins) q er' a') := by
    show Cu (bindQ (u32S s (p + 1) e) fun x => .ok ((⟨36, x.1, 0⟩ : Ins), x.2) : R Ins) _ _ _ _ _ _
    exact Cu.start (hC4.out.trans (Cu.pure _ _))
  have H7 := (C3.new w2 (.int .u8 36) (.int .u32 0) (.int .u64 0) 129).keep hK4 (fun h => by have : w2.heap.size = b := h; omega)
  have H4n := ((H4'.out.keep ((Kp.refl (fun _ => False) w2).alloc _) (fun h => h)).keep hK4 (fun h => by have : w.heap.size = b := h; omega))
  have HK4 : Hid _ := (HKw.out.trans ((Kp.refl _ _).alloc _)).trans hK4
  have HR4 : Hid _ := hR4
  have H7' : Hid _ := H7
  have H4s : Hid _ := H4n
  clear hR4 hK4 hC4 z0 z1 z2 y0 y1 y2
  obtain ⟨g0, g1, g2, f0, f1, f2⟩ := H4n
  obtain ⟨x0, x1, x2, v0, v1, v2⟩ := H7
  unfold encI8
  go_wp2
  refine bodyPost_ret (v := .agg #[.int .u8 36, .int .u32 v, .int .u64 0]) (by simp [results, Tryz.results268, go_sem, g0, g1, g2]) rfl ?_
  refine ins_end (x := (⟨36, v, 0⟩ : Ins)) (w4 := w4) (n4 := w.heap.size) (n7 := w2.heap.size) rfl HR4.out HK4.out (by repeat (first | exact Kp.refl _ _ | refine Kp.setCell ?_ (.inl (.inl rfl)) _ | refine Kp.setCell ?_ (.inl (.inr rfl)) _ | refine Kp.alloc ?_ _)) (Nat.le_refl _) (by omega) hlt HC.out
set_option maxHeartbeats 4000000 in
theorem ins_3 (h : Rc w b s p e 0 a) (hp : p < e) (fv : Value) (hop : bAt s p = 3) : Calls Tryz.prog 268 #[.pointer (some ⟨b, 0, none⟩), fv] w (Cm Ins.val (fun _ => True) (rest1 s (p + 1) e 3 p) b s e 0 a w) := by
  have HM := fun u => memSig_e 3 (by decide) u
  have HN := fun u => numSig_e 3 (by decide) u
  rw [show enc3 (numSig 3) = .tuple #[.int .i64 0, .int .u8 0, .int .u8 0] from rfl] at HN
  rw [show encM (memSig 3) = .tuple #[.int .i64 0, .int .u8 0, .bool false] from rfl] at HM
  have hlt : b < w.heap.size := lt_of_cell h.c0
  have HB := byte_ok h hp hop
  have c1 := h.c1
  have hpl : p ≤ 1024 := by have := h.le; have := h.es; have := h.sz; omega
  clear h hop
  go_enter Tryz.func268, Tryz.ntmps268
  go_wp2_with fail
  refine (HB.out _ ((Kp.refl _ _).alloc _)).mono ?_
  rintro en w2 ⟨a1, rfl, hR2, hK2⟩
  have hs2 : w.heap.size + 1 ≤ w2.heap.size := by have := hK2.size; rw [World.size_alloc] at this; exact this
  have H4 := (C3.new w (.int .u8 0) (.int .u32 0) (.int .u64 0) 129).keep hK2 (fun h => by have : w.heap.size = b := h; omega)
  have hKw : Kp (· = b) w w2 := ((Kp.refl _ _).alloc _).trans hK2
  have HKw : Hid _ := hKw
  have HR2 : Hid _ := hR2
  have H4' : Hid _ := H4
  have g4 := H4
  obtain ⟨z0, z1, z2, y0, y1, y2⟩ := g4
  clear hR2 hKw H4 HB c1 hK2
  go_wp2_with fail
  refine (HM _).mono ?_
  rintro en w3 ⟨rfl, rfl⟩
  go_wp2_with fail
  refine (HN _).mono ?_
  rintro en w3 ⟨rfl, rfl⟩
  clear HM HN
  have HU := byte_m (HR2.out.keep ((Kp.refl (fun _ => False) w2).alloc (.cells #[.int .u8 3, .int .u32 0, .int .u64 0] 129)) (fun h => h))
  have c1 := (HR2.out.keep ((Kp.refl (fun _ => False) w2).alloc (.cells #[.int .u8 3, .int .u32 0, .int .u64 0] 129)) (fun h => h)).c1
  go_wp2_with fail
  refine HU.mono ?_
  rintro en w4 ⟨v, q, er', a', rfl, hR4, hK4, hB4, hC4⟩
  have HF := fail_m hR4 9 (p + 1) (by have := HR2.out.le; have := HR2.out.es; have := HR2.out.sz; omega)
  have HI := isVal_m v hB4 w4
  have HCo : Hid (v = 64 ∨ (124 ≤ v ∧ v ≤ 127) → Cu (rest1 s (p + 1) e 3 p) 0 a (⟨3, v, 0⟩ : Ins) q er' a') := fun hv => by
    show Cu (bindQ (nextS s (p + 1) e) fun x => if x.1 = 64 ∨ (124 ≤ x.1 ∧ x.1 ≤ 127) then .ok ((⟨3, x.1, 0⟩ : Ins), x.2) else .error (9, p + 1) : R Ins) _ _ _ _ _ _
    exact Cu.start (hC4.out.trans (by rw [if_pos hv]; exact Cu.pure _ _))
  have HCf : Hid (¬ (v = 64 ∨ (124 ≤ v ∧ v ≤ 127)) → ∀ er2 a2, Flq er' a' 9 (p + 1) er2 a2 → Cu (rest1 s (p + 1) e 3 p) 0 a (⟨3, v, 0⟩ : Ins) q er2 a2) := fun hv er2 a2 hf => by
    show Cu (bindQ (nextS s (p + 1) e) fun x => if x.1 = 64 ∨ (124 ≤ x.1 ∧ x.1 ≤ 127) then .ok ((⟨3, x.1, 0⟩ : Ins), x.2) else .error (9, p + 1) : R Ins) _ _ _ _ _ _
    exact Cu.start (hC4.out.trans (by rw [if_neg hv]; exact Cu.fail _ _ hf (by decide)))
  have H7 := (C3.new w2 (.int .u8 3) (.int .u32 0) (.int .u64 0) 129).keep hK4 (fun h => by have : w2.heap.size = b := h; omega)
  have H4n := ((H4'.out.keep ((Kp.refl (fun _ => False) w2).alloc _) (fun h => h)).keep hK4 (fun h => by have : w.heap.size = b := h; omega))
  have HK4 : Hid _ := (HKw.out.trans ((Kp.refl _ _).alloc _)).trans hK4
  have HR4 : Hid _ := hR4
  have H7' : Hid _ := H7
  have H4s : Hid _ := H4n
  clear hR4 hK4 hC4 z0 z1 z2 y0 y1 y2
  obtain ⟨g0, g1, g2, f0, f1, f2⟩ := H4n
  obtain ⟨x0, x1, x2, v0, v1, v2⟩ := H7
  unfold encN8
  clear c1 HU
  by_cases h64 : v = 64
  · subst h64
    clear HI HF
    go_wp2
    refine bodyPost_ret (v := .agg #[.int .u8 3, .int .u32 64, .int .u64 0]) (by simp [results, Tryz.results268, go_sem, g0, g1, g2]) rfl ?_
    refine ins_end (x := (⟨3, 64, 0⟩ : Ins)) (w4 := w4) (n4 := w.heap.size) (n7 := w2.heap.size) rfl HR4.out HK4.out (by repeat (first | exact Kp.refl _ _ | refine Kp.setCell ?_ (.inl (.inl rfl)) _ | refine Kp.setCell ?_ (.inl (.inr rfl)) _ | refine Kp.alloc ?_ _)) (Nat.le_refl _) (by omega) hlt (HCo.out (.inl (by trivial)))
  by_cases hv : 124 ≤ v ∧ v ≤ 127
  · rw [decide_eq_true hv] at HI
    have hne : ((v : Int) == 64) = false := by rw [beq_eq_false_iff_ne]; omega
    have hne2 : ((v : Int) != 64) = true := by simp; omega
    have HO := HCo.out (.inr hv)
    have HO : Hid (Cu _ _ _ _ _ _ _) := HO
    clear h64 hv HF HCo HCf
    go_wp2_with fail
    refine HI.mono ?_
    rintro en w5 ⟨rfl, rfl⟩
    go_wp2
    refine bodyPost_ret (v := .agg #[.int .u8 3, .int .u32 v, .int .u64 0]) (by simp [results, Tryz.results268, go_sem, g0, g1, g2]) rfl ?_
    refine ins_end (x := (⟨3, v, 0⟩ : Ins)) (w4 := w5) (n4 := w.heap.size) (n7 := w2.heap.size) rfl HR4.out HK4.out (by repeat (first | exact Kp.refl _ _ | refine Kp.setCell ?_ (.inl (.inl rfl)) _ | refine Kp.setCell ?_ (.inl (.inr rfl)) _ | refine Kp.alloc ?_ _)) (Nat.le_refl _) (by omega) hlt HO.out
  · rw [decide_eq_false hv] at HI
    have hne : ((v : Int) == 64) = false := by rw [beq_eq_false_iff_ne]; omega
    have hne2 : ((v : Int) != 64) = true := by simp; omega
    have HO : Hid _ := HCf.out (by omega)
    clear h64 hv HCo HCf
    go_wp2_with fail
    refine HI.mono ?_
    rintro en w5 ⟨rfl, rfl⟩
    go_wp2_with fail
    refine HF.mono ?_
    rintro en w6 ⟨er2, a2, rfl, hR6, hK6, hF⟩
    have H7n := H7'.out.keep hK6 (fun h => by have : w2.heap.size = b := h; omega)
    have H4n := H4s.out.keep hK6 (fun h => by have : w.heap.size = b := h; omega)
    have HK6 : Hid _ := HK4.out.trans hK6
    have HR6 : Hid _ := hR6
    clear hR6 hK6 g0 g1 g2 f0 f1 f2 x0 x1 x2 v0 v1 v2
    obtain ⟨g0, g1, g2, f0, f1, f2⟩ := H4n
    obtain ⟨x0, x1, x2, v0, v1, v2⟩ := H7n
    go_wp2
    refine bodyPost_ret (v := .agg #[.int .u8 3, .int .u32 v, .int .u64 0]) (by simp [results, Tryz.results268, go_sem, g0, g1, g2]) rfl ?_
    refine ins_end (x := (⟨3, v, 0⟩ : Ins)) (w4 := w6) (n4 := w.heap.size) (n7 := w2.heap.size) rfl HR6.out HK6.out (by repeat (first | exact Kp.refl _ _ | refine Kp.setCell ?_ (.inl (.inl rfl)) _ | refine Kp.setCell ?_ (.inl (.inr rfl)) _ | refine Kp.alloc ?_ _)) (Nat.le_refl _) (by omega) hlt (HO.out _ _ hF.out)
set_option maxHeartbeats 4000000 in
theorem ins_4 (h : Rc w b s p e 0 a) (hp : p < e) (fv : Value) (hop : bAt s p = 4) : Calls Tryz.prog 268 #[.pointer (some ⟨b, 0, none⟩), fv] w (Cm Ins.val (fun _ => True) (rest1 s (p + 1) e 4 p) b s e 0 a w) := by
  have HM := fun u => memSig_e 4 (by decide) u
  have HN := fun u => numSig_e 4 (by decide) u
  rw [show enc3 (numSig 4) = .tuple #[.int .i64 0, .int .u8 0, .int .u8 0] from rfl] at HN
  rw [show encM (memSig 4) = .tuple #[.int .i64 0, .int .u8 0, .bool false] from rfl] at HM
  have hlt : b < w.heap.size := lt_of_cell h.c0
  have HB := byte_ok h hp hop
  have c1 := h.c1
  have hpl : p ≤ 1024 := by have := h.le; have := h.es; have := h.sz; omega
  clear h hop
  go_enter Tryz.func268, Tryz.ntmps268
  go_wp2_with fail
  refine (HB.out _ ((Kp.refl _ _).alloc _)).mono ?_
  rintro en w2 ⟨a1, rfl, hR2, hK2⟩
  have hs2 : w.heap.size + 1 ≤ w2.heap.size := by have := hK2.size; rw [World.size_alloc] at this; exact this
  have H4 := (C3.new w (.int .u8 0) (.int .u32 0) (.int .u64 0) 129).keep hK2 (fun h => by have : w.heap.size = b := h; omega)
  have hKw : Kp (· = b) w w2 := ((Kp.refl _ _).alloc _).trans hK2
  have HKw : Hid _ := hKw
  have HR2 : Hid _ := hR2
  have H4' : Hid _ := H4
  have g4 := H4
  obtain ⟨z0, z1, z2, y0, y1, y2⟩ := g4
  clear hR2 hKw H4 HB c1 hK2
  go_wp2_with fail
  refine (HM _).mono ?_
  rintro en w3 ⟨rfl, rfl⟩
  go_wp2_with fail
  refine (HN _).mono ?_
  rintro en w3 ⟨rfl, rfl⟩
  clear HM HN
  have HU := byte_m (HR2.out.keep ((Kp.refl (fun _ => False) w2).alloc (.cells #[.int .u8 4, .int .u32 0, .int .u64 0] 129)) (fun h => h))
  have c1 := (HR2.out.keep ((Kp.refl (fun _ => False) w2).alloc (.cells #[.int .u8 4, .int .u32 0, .int .u64 0] 129)) (fun h => h)).c1
  go_wp2_with fail
  refine HU.mono ?_
  rintro en w4 ⟨v, q, er', a', rfl, hR4, hK4, hB4, hC4⟩
  have HF := fail_m hR4 9 (p + 1) (by have := HR2.out.le; have := HR2.out.es; have := HR2.out.sz; omega)
  have HI := isVal_m v hB4 w4
  have HCo : Hid (v = 64 ∨ (124 ≤ v ∧ v ≤ 127) → Cu (rest1 s (p + 1) e 4 p) 0 a (⟨4, v, 0⟩ : Ins) q er' a') := fun hv => by
    show Cu (bindQ (nextS s (p + 1) e) fun x => if x.1 = 64 ∨ (124 ≤ x.1 ∧ x.1 ≤ 127) then .ok ((⟨4, x.1, 0⟩ : Ins), x.2) else .error (9, p + 1) : R Ins) _ _ _ _ _ _
    exact Cu.start (hC4.out.trans (by rw [if_pos hv]; exact Cu.pure _ _))
  have HCf : Hid (¬ (v = 64 ∨ (124 ≤ v ∧ v ≤ 127)) → ∀ er2 a2, Flq er' a' 9 (p + 1) er2 a2 → Cu (rest1 s (p + 1) e 4 p) 0 a (⟨4, v, 0⟩ : Ins) q er2 a2) := fun hv er2 a2 hf => by
    show Cu (bindQ (nextS s (p + 1) e) fun x => if x.1 = 64 ∨ (124 ≤ x.1 ∧ x.1 ≤ 127) then .ok ((⟨4, x.1, 0⟩ : Ins), x.2) else .error (9, p + 1) : R Ins) _ _ _ _ _ _
    exact Cu.start (hC4.out.trans (by rw [if_neg hv]; exact Cu.fail _ _ hf (by decide)))
  have H7 := (C3.new w2 (.int .u8 4) (.int .u32 0) (.int .u64 0) 129).keep hK4 (fun h => by have : w2.heap.size = b := h; omega)
  have H4n := ((H4'.out.keep ((Kp.refl (fun _ => False) w2).alloc _) (fun h => h)).keep hK4 (fun h => by have : w.heap.size = b := h; omega))
  have HK4 : Hid _ := (HKw.out.trans ((Kp.refl _ _).alloc _)).trans hK4
  have HR4 : Hid _ := hR4
  have H7' : Hid _ := H7
  have H4s : Hid _ := H4n
  clear hR4 hK4 hC4 z0 z1 z2 y0 y1 y2
  obtain ⟨g0, g1, g2, f0, f1, f2⟩ := H4n
  obtain ⟨x0, x1, x2, v0, v1, v2⟩ := H7
  unfold encN8
  clear c1 HU
  by_cases h64 : v = 64
  · subst h64
    clear HI HF
    go_wp2
    refine bodyPost_ret (v := .agg #[.int .u8 4, .int .u32 64, .int .u64 0]) (by simp [results, Tryz.results268, go_sem, g0, g1, g2]) rfl ?_
    refine ins_end (x := (⟨4, 64, 0⟩ : Ins)) (w4 := w4) (n4 := w.heap.size) (n7 := w2.heap.size) rfl HR4.out HK4.out (by repeat (first | exact Kp.refl _ _ | refine Kp.setCell ?_ (.inl (.inl rfl)) _ | refine Kp.setCell ?_ (.inl (.inr rfl)) _ | refine Kp.alloc ?_ _)) (Nat.le_refl _) (by omega) hlt (HCo.out (.inl (by trivial)))
  by_cases hv : 124 ≤ v ∧ v ≤ 127
  · rw [decide_eq_true hv] at HI
    have hne : ((v : Int) == 64) = false := by rw [beq_eq_false_iff_ne]; omega
    have hne2 : ((v : Int) != 64) = true := by simp; omega
    have HO := HCo.out (.inr hv)
    have HO : Hid (Cu _ _ _ _ _ _ _) := HO
    clear h64 hv HF HCo HCf
    go_wp2_with fail
    refine HI.mono ?_
    rintro en w5 ⟨rfl, rfl⟩
    go_wp2
    refine bodyPost_ret (v := .agg #[.int .u8 4, .int .u32 v, .int .u64 0]) (by simp [results, Tryz.results268, go_sem, g0, g1, g2]) rfl ?_
    refine ins_end (x := (⟨4, v, 0⟩ : Ins)) (w4 := w5) (n4 := w.heap.size) (n7 := w2.heap.size) rfl HR4.out HK4.out (by repeat (first | exact Kp.refl _ _ | refine Kp.setCell ?_ (.inl (.inl rfl)) _ | refine Kp.setCell ?_ (.inl (.inr rfl)) _ | refine Kp.alloc ?_ _)) (Nat.le_refl _) (by omega) hlt HO.out
  · rw [decide_eq_false hv] at HI
    have hne : ((v : Int) == 64) = false := by rw [beq_eq_false_iff_ne]; omega
    have hne2 : ((v : Int) != 64) = true := by simp; omega
    have HO : Hid _ := HCf.out (by omega)
    clear h64 hv HCo HCf
    go_wp2_with fail
    refine HI.mono ?_
    rintro en w5 ⟨rfl, rfl⟩
    go_wp2_with fail
    refine HF.mono ?_
    rintro en w6 ⟨er2, a2, rfl, hR6, hK6, hF⟩
    have H7n := H7'.out.keep hK6 (fun h => by have : w2.heap.size = b := h; omega)
    have H4n := H4s.out.keep hK6 (fun h => by have : w.heap.size = b := h; omega)
    have HK6 : Hid _ := HK4.out.trans hK6
    have HR6 : Hid _ := hR6
    clear hR6 hK6 g0 g1 g2 f0 f1 f2 x0 x1 x2 v0 v1 v2
    obtain ⟨g0, g1, g2, f0, f1, f2⟩ := H4n
    obtain ⟨x0, x1, x2, v0, v1, v2⟩ := H7n
    go_wp2
    refine bodyPost_ret (v := .agg #[.int .u8 4, .int .u32 v, .int .u64 0]) (by simp [results, Tryz.results268, go_sem, g0, g1, g2]) rfl ?_
    refine ins_end (x := (⟨4, v, 0⟩ : Ins)) (w4 := w6) (n4 := w.heap.size) (n7 := w2.heap.size) rfl HR6.out HK6.out (by repeat (first | exact Kp.refl _ _ | refine Kp.setCell ?_ (.inl (.inl rfl)) _ | refine Kp.setCell ?_ (.inl (.inr rfl)) _ | refine Kp.alloc ?_ _)) (Nat.le_refl _) (by omega) hlt (HO.out _ _ hF.out)
set_option maxHeartbeats 4000000 in
theorem ins_64 (h : Rc w b s p e 0 a) (hp : p < e) (fv : Value) (hop : bAt s p = 64) : Calls Tryz.prog 268 #[.pointer (some ⟨b, 0, none⟩), fv] w (Cm Ins.val (fun _ => True) (rest1 s (p + 1) e 64 p) b s e 0 a w) := by
  have HM := fun u => memSig_e 64 (by decide) u
  have HN := fun u => numSig_e 64 (by decide) u
  rw [show enc3 (numSig 64) = .tuple #[.int .i64 0, .int .u8 0, .int .u8 0] from rfl] at HN
  rw [show encM (memSig 64) = .tuple #[.int .i64 0, .int .u8 0, .bool false] from rfl] at HM
  have hlt : b < w.heap.size := lt_of_cell h.c0
  have HB := byte_ok h hp hop
  have c1 := h.c1
  have hpl : p ≤ 1024 := by have := h.le; have := h.es; have := h.sz; omega
  clear h hop
  go_enter Tryz.func268, Tryz.ntmps268
  go_wp2_with fail
  refine (HB.out _ ((Kp.refl _ _).alloc _)).mono ?_
  rintro en w2 ⟨a1, rfl, hR2, hK2⟩
  have hs2 : w.heap.size + 1 ≤ w2.heap.size := by have := hK2.size; rw [World.size_alloc] at this; exact this
  have H4 := (C3.new w (.int .u8 0) (.int .u32 0) (.int .u64 0) 129).keep hK2 (fun h => by have : w.heap.size = b := h; omega)
  have hKw : Kp (· = b) w w2 := ((Kp.refl _ _).alloc _).trans hK2
  have HKw : Hid _ := hKw
  have HR2 : Hid _ := hR2
  have H4' : Hid _ := H4
  have g4 := H4
  obtain ⟨z0, z1, z2, y0, y1, y2⟩ := g4
  clear hR2 hKw H4 HB c1 hK2
  go_wp2_with fail
  refine (HM _).mono ?_
  rintro en w3 ⟨rfl, rfl⟩
  go_wp2_with fail
  refine (HN _).mono ?_
  rintro en w3 ⟨rfl, rfl⟩
  clear HM HN
  have HU := fixed_m (HR2.out.keep ((Kp.refl (fun _ => False) w2).alloc (.cells #[.int .u8 64, .int .u32 0, .int .u64 0] 129)) (fun h => h)) 0 (by decide)
  go_wp2_with fail
  refine HU.mono ?_
  rintro en w4 ⟨_, q, er', a', rfl, hR4, hK4, hB4, hC4⟩
  have HC : Hid (Cu (rest1 s (p + 1) e 64 p) 0 a (⟨64, 0, 0⟩ : Ins) q er' a') := by
    show Cu (bindQ (fixedS s (p + 1) e 0) fun y => .ok ((⟨64, 0, 0⟩ : Ins), y.2) : R Ins) _ _ _ _ _ _
    exact Cu.start (hC4.out.trans (Cu.pure _ _))
  have H7 := (C3.new w2 (.int .u8 64) (.int .u32 0) (.int .u64 0) 129).keep hK4 (fun h => by have : w2.heap.size = b := h; omega)
  have H4n := ((H4'.out.keep ((Kp.refl (fun _ => False) w2).alloc _) (fun h => h)).keep hK4 (fun h => by have : w.heap.size = b := h; omega))
  have HK4 : Hid _ := (HKw.out.trans ((Kp.refl _ _).alloc _)).trans hK4
  have HR4 : Hid _ := hR4
  have H7' : Hid _ := H7
  have H4s : Hid _ := H4n
  clear hR4 hK4 hC4 z0 z1 z2 y0 y1 y2
  obtain ⟨g0, g1, g2, f0, f1, f2⟩ := H4n
  obtain ⟨x0, x1, x2, v0, v1, v2⟩ := H7
  unfold encN
  go_wp2
  refine bodyPost_ret (v := .agg #[.int .u8 64, .int .u32 0, .int .u64 0]) (by simp [results, Tryz.results268, go_sem, g0, g1, g2]) rfl ?_
  refine ins_end (x := (⟨64, 0, 0⟩ : Ins)) (w4 := w4) (n4 := w.heap.size) (n7 := w2.heap.size) rfl HR4.out HK4.out (by repeat (first | exact Kp.refl _ _ | refine Kp.setCell ?_ (.inl (.inl rfl)) _ | refine Kp.setCell ?_ (.inl (.inr rfl)) _ | refine Kp.alloc ?_ _)) (Nat.le_refl _) (by omega) hlt HC.out
set_option maxHeartbeats 4000000 in
theorem ins_66 (h : Rc w b s p e 0 a) (hp : p < e) (fv : Value) (hop : bAt s p = 66) : Calls Tryz.prog 268 #[.pointer (some ⟨b, 0, none⟩), fv] w (Cm Ins.val (fun _ => True) (rest1 s (p + 1) e 66 p) b s e 0 a w) := by
  have HM := fun u => memSig_e 66 (by decide) u
  have HN := fun u => numSig_e 66 (by decide) u
  rw [show enc3 (numSig 66) = .tuple #[.int .i64 0, .int .u8 0, .int .u8 0] from rfl] at HN
  rw [show encM (memSig 66) = .tuple #[.int .i64 0, .int .u8 0, .bool false] from rfl] at HM
  have hlt : b < w.heap.size := lt_of_cell h.c0
  have HB := byte_ok h hp hop
  have c1 := h.c1
  have hpl : p ≤ 1024 := by have := h.le; have := h.es; have := h.sz; omega
  clear h hop
  go_enter Tryz.func268, Tryz.ntmps268
  go_wp2_with fail
  refine (HB.out _ ((Kp.refl _ _).alloc _)).mono ?_
  rintro en w2 ⟨a1, rfl, hR2, hK2⟩
  have hs2 : w.heap.size + 1 ≤ w2.heap.size := by have := hK2.size; rw [World.size_alloc] at this; exact this
  have H4 := (C3.new w (.int .u8 0) (.int .u32 0) (.int .u64 0) 129).keep hK2 (fun h => by have : w.heap.size = b := h; omega)
  have hKw : Kp (· = b) w w2 := ((Kp.refl _ _).alloc _).trans hK2
  have HKw : Hid _ := hKw
  have HR2 : Hid _ := hR2
  have H4' : Hid _ := H4
  have g4 := H4
  obtain ⟨z0, z1, z2, y0, y1, y2⟩ := g4
  clear hR2 hKw H4 HB c1 hK2
  go_wp2_with fail
  refine (HM _).mono ?_
  rintro en w3 ⟨rfl, rfl⟩
  go_wp2_with fail
  refine (HN _).mono ?_
  rintro en w3 ⟨rfl, rfl⟩
  clear HM HN
  have HU := leb_m (n := 64) (L := 9) (sg := true) (HR2.out.keep ((Kp.refl (fun _ => False) w2).alloc (.cells #[.int .u8 66, .int .u32 0, .int .u64 0] 129)) (fun h => h)) (.inr ⟨rfl, rfl⟩)
  rw [lebS_64] at HU
  go_wp2_with fail
  refine HU.mono ?_
  rintro en w4 ⟨v, q, er', a', rfl, hR4, hK4, hB4, hC4⟩
  have HC : Hid (Cu (rest1 s (p + 1) e 66 p) 0 a (⟨66, 0, v⟩ : Ins) q er' a') := by
    show Cu (bindQ (cS s (p + 1) e 66) fun y => .ok ((⟨66, 0, y.1⟩ : Ins), y.2) : R Ins) _ _ _ _ _ _
    exact Cu.start (hC4.out.trans (Cu.pure _ _))
  have H7 := (C3.new w2 (.int .u8 66) (.int .u32 0) (.int .u64 0) 129).keep hK4 (fun h => by have : w2.heap.size = b := h; omega)
  have H4n := ((H4'.out.keep ((Kp.refl (fun _ => False) w2).alloc _) (fun h => h)).keep hK4 (fun h => by have : w.heap.size = b := h; omega))
  have HK4 : Hid _ := (HKw.out.trans ((Kp.refl _ _).alloc _)).trans hK4
  have HR4 : Hid _ := hR4
  have H7' : Hid _ := H7
  have H4s : Hid _ := H4n
  clear hR4 hK4 hC4 z0 z1 z2 y0 y1 y2
  obtain ⟨g0, g1, g2, f0, f1, f2⟩ := H4n
  obtain ⟨x0, x1, x2, v0, v1, v2⟩ := H7
  unfold encQ8
  clear hB4
  go_wp2
  refine bodyPost_ret (v := .agg #[.int .u8 66, .int .u32 0, .int .u64 v]) (by simp [results, Tryz.results268, go_sem, g0, g1, g2]) rfl ?_
  refine ins_end (x := (⟨66, 0, v⟩ : Ins)) (w4 := w4) (n4 := w.heap.size) (n7 := w2.heap.size) rfl HR4.out HK4.out (by repeat (first | exact Kp.refl _ _ | refine Kp.setCell ?_ (.inl (.inl rfl)) _ | refine Kp.setCell ?_ (.inl (.inr rfl)) _ | refine Kp.alloc ?_ _)) (Nat.le_refl _) (by omega) hlt HC.out
set_option maxHeartbeats 4000000 in
theorem ins_68 (h : Rc w b s p e 0 a) (hp : p < e) (fv : Value) (hop : bAt s p = 68) : Calls Tryz.prog 268 #[.pointer (some ⟨b, 0, none⟩), fv] w (Cm Ins.val (fun _ => True) (rest1 s (p + 1) e 68 p) b s e 0 a w) := by
  have HM := fun u => memSig_e 68 (by decide) u
  have HN := fun u => numSig_e 68 (by decide) u
  rw [show enc3 (numSig 68) = .tuple #[.int .i64 0, .int .u8 0, .int .u8 0] from rfl] at HN
  rw [show encM (memSig 68) = .tuple #[.int .i64 0, .int .u8 0, .bool false] from rfl] at HM
  have hlt : b < w.heap.size := lt_of_cell h.c0
  have HB := byte_ok h hp hop
  have c1 := h.c1
  have hpl : p ≤ 1024 := by have := h.le; have := h.es; have := h.sz; omega
  clear h hop
  go_enter Tryz.func268, Tryz.ntmps268
  go_wp2_with fail
  refine (HB.out _ ((Kp.refl _ _).alloc _)).mono ?_
  rintro en w2 ⟨a1, rfl, hR2, hK2⟩
  have hs2 : w.heap.size + 1 ≤ w2.heap.size := by have := hK2.size; rw [World.size_alloc] at this; exact this
  have H4 := (C3.new w (.int .u8 0) (.int .u32 0) (.int .u64 0) 129).keep hK2 (fun h => by have : w.heap.size = b := h; omega)
  have hKw : Kp (· = b) w w2 := ((Kp.refl _ _).alloc _).trans hK2
  have HKw : Hid _ := hKw
  have HR2 : Hid _ := hR2
  have H4' : Hid _ := H4
  have g4 := H4
  obtain ⟨z0, z1, z2, y0, y1, y2⟩ := g4
  clear hR2 hKw H4 HB c1 hK2
  go_wp2_with fail
  refine (HM _).mono ?_
  rintro en w3 ⟨rfl, rfl⟩
  go_wp2_with fail
  refine (HN _).mono ?_
  rintro en w3 ⟨rfl, rfl⟩
  clear HM HN
  have HU := little_m (HR2.out.keep ((Kp.refl (fun _ => False) w2).alloc (.cells #[.int .u8 68, .int .u32 0, .int .u64 0] 129)) (fun h => h)) 8 (by decide)
  go_wp2_with fail
  refine HU.mono ?_
  rintro en w4 ⟨v, q, er', a', rfl, hR4, hK4, hB4, hC4⟩
  have HC : Hid (Cu (rest1 s (p + 1) e 68 p) 0 a (⟨68, 0, v⟩ : Ins) q er' a') := by
    show Cu (bindQ (cS s (p + 1) e 68) fun y => .ok ((⟨68, 0, y.1⟩ : Ins), y.2) : R Ins) _ _ _ _ _ _
    exact Cu.start (hC4.out.trans (Cu.pure _ _))
  have H7 := (C3.new w2 (.int .u8 68) (.int .u32 0) (.int .u64 0) 129).keep hK4 (fun h => by have : w2.heap.size = b := h; omega)
  have H4n := ((H4'.out.keep ((Kp.refl (fun _ => False) w2).alloc _) (fun h => h)).keep hK4 (fun h => by have : w.heap.size = b := h; omega))
  have HK4 : Hid _ := (HKw.out.trans ((Kp.refl _ _).alloc _)).trans hK4
  have HR4 : Hid _ := hR4
  have H7' : Hid _ := H7
  have H4s : Hid _ := H4n
  clear hR4 hK4 hC4 z0 z1 z2 y0 y1 y2
  obtain ⟨g0, g1, g2, f0, f1, f2⟩ := H4n
  obtain ⟨x0, x1, x2, v0, v1, v2⟩ := H7
  unfold encQ8
  clear hB4
  go_wp2
  refine bodyPost_ret (v := .agg #[.int .u8 68, .int .u32 0, .int .u64 v]) (by simp [results, Tryz.results268, go_sem, g0, g1, g2]) rfl ?_
  refine ins_end (x := (⟨68, 0, v⟩ : Ins)) (w4 := w4) (n4 := w.heap.size) (n7 := w2.heap.size) rfl HR4.out HK4.out (by repeat (first | exact Kp.refl _ _ | refine Kp.setCell ?_ (.inl (.inl rfl)) _ | refine Kp.setCell ?_ (.inl (.inr rfl)) _ | refine Kp.alloc ?_ _)) (Nat.le_refl _) (by omega) hlt HC.out
end
end Go.Proofs.Qxb6500275aGreatDoor
