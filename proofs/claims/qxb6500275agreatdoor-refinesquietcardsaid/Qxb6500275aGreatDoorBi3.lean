import Derived.Test.Qxb6500275aGreatDoorBi1
set_option maxRecDepth 100000
set_option linter.unusedVariables false
set_option linter.unusedSimpArgs false
namespace Go.Proofs.Qxb6500275aGreatDoor
open Go Go.RowKit
theorem memSig_0 {op : Nat} (h : op < 40 ∨ 62 < op) : memSig op = (0, 0, false) := by
  unfold memSig
  repeat (first | rw [if_neg (by omega)])
theorem numSig_0 {op : Nat} (h : op < 69 ∨ 191 < op) : numSig op = (0, 0, 0) := by
  unfold numSig
  repeat (first | rw [if_neg (by omega)])
theorem memSig_1 {op : Nat} (h : 40 ≤ op ∧ op ≤ 62) : (memSig op).1 ≠ 0 := by
  rcases (by omega : op = 40 ∨ op = 41 ∨ op = 42 ∨ op = 43 ∨ op = 44 ∨ op = 45 ∨ op = 46 ∨ op = 47 ∨ op = 48 ∨ op = 49 ∨ op = 50 ∨ op = 51 ∨ op = 52 ∨ op = 53 ∨ op = 54 ∨ op = 55 ∨ op = 56 ∨ op = 57 ∨ op = 58 ∨ op = 59 ∨ op = 60 ∨ op = 61 ∨ op = 62) with rfl | rfl | rfl | rfl | rfl | rfl | rfl | rfl | rfl | rfl | rfl | rfl | rfl | rfl | rfl | rfl | rfl | rfl | rfl | rfl | rfl | rfl | rfl <;> decide
theorem numSig_1 {op : Nat} (h : 69 ≤ op ∧ op ≤ 191) : (numSig op).1 ≠ 0 := by
  have : op < 192 := by omega
  have hh : ∀ k : Fin 123, (numSig (69 + k.val)).1 ≠ 0 := by decide
  have := hh ⟨op - 69, by omega⟩
  simpa [show 69 + (op - 69) = op by omega] using this
section
variable {w w' : World} {b : Nat} {s : ByteArray} {p e : Nat} {er : Int} {a : Nat}
set_option maxHeartbeats 4000000 in
theorem ins_num (h : Rc w b s p e 0 a) (hp : p < e) (fv : Value) {op : Nat} (hop : bAt s p = op) (ho : 69 ≤ op ∧ op ≤ 191) : Calls Tryz.prog 268 #[.pointer (some ⟨b, 0, none⟩), fv] w (Cm Ins.val (fun _ => True) (rest1 s (p + 1) e op p) b s e 0 a w) := by
  have hob : op < 256 := by have := bAt_lt s p; omega
  have HM := fun u => memSig_e op hob u
  have HN := fun u => numSig_e op hob u
  rw [memSig_0 (by omega)] at HM
  rw [show encM (0, 0, false) = .tuple #[.int .i64 0, .int .u8 0, .bool false] from rfl] at HM
  unfold enc3 at HN
  have hn1 := numSig_1 ho
  obtain ⟨n1, hn1e⟩ : ∃ n1, (numSig op).1 = n1 := ⟨_, rfl⟩
  rw [hn1e] at hn1 HN
  have hn2 : ((n1 : Int) == 0) = false := by rw [beq_eq_false_iff_ne]; omega
  have hn3 : ((n1 : Int) != 0) = true := by simp; omega
  have HRs : Hid (rest1 s (p + 1) e op p = .ok (⟨op, 0, 0⟩, p + 1)) := by
    show _ = _
    unfold rest1
    repeat (first | rw [if_neg (by omega)] | rw [if_pos (by omega)])
  clear hn1e hn1
  have q2 : ((op : Int) == 2) = false := by rw [beq_eq_false_iff_ne]; omega
  have q3 : ((op : Int) == 3) = false := by rw [beq_eq_false_iff_ne]; omega
  have q4 : ((op : Int) == 4) = false := by rw [beq_eq_false_iff_ne]; omega
  have q12 : ((op : Int) == 12) = false := by rw [beq_eq_false_iff_ne]; omega
  have q13 : ((op : Int) == 13) = false := by rw [beq_eq_false_iff_ne]; omega
  have q16 : ((op : Int) == 16) = false := by rw [beq_eq_false_iff_ne]; omega
  have q14 : ((op : Int) == 14) = false := by rw [beq_eq_false_iff_ne]; omega
  have q17 : ((op : Int) == 17) = false := by rw [beq_eq_false_iff_ne]; omega
  have q63 : ((op : Int) == 63) = false := by rw [beq_eq_false_iff_ne]; omega
  have q64 : ((op : Int) == 64) = false := by rw [beq_eq_false_iff_ne]; omega
  have q65 : ((op : Int) == 65) = false := by rw [beq_eq_false_iff_ne]; omega
  have q66 : ((op : Int) == 66) = false := by rw [beq_eq_false_iff_ne]; omega
  have q67 : ((op : Int) == 67) = false := by rw [beq_eq_false_iff_ne]; omega
  have q68 : ((op : Int) == 68) = false := by rw [beq_eq_false_iff_ne]; omega
  have g32 : (32 : Int) ≤ (op : Int) := by omega
  have g36 : ¬ (op : Int) ≤ 36 := by omega
  clear ho
  have hlt : b < w.heap.size := lt_of_cell h.c0
  have HB := byte_ok h hp hop
  have c1 := h.c1
  have hpl : p ≤ 1024 := by have := h.le; have := h.es; have := h.sz; omega
  clear h hop
  go_enter Tryz.func268, Tryz.ntmps268
  go_wp2_with fail
  refine (HB.out _ ((Kp.refl _ _).alloc _)).mono ?_
  rintro en w2 ⟨a1, rfl, hR2, hK2⟩
  have hs2 : w.heap.size + 1 ≤ w2.heap.size := by have := hK2.size; rw [World.size_alloc] at this; exact this
  have H4 := (C3.new w (.int .u8 0) (.int .u32 0) (.int .u64 0) 129).keep hK2 (fun h => by have : w.heap.size = b := h; omega)
  have hKw : Kp (· = b) w w2 := ((Kp.refl _ _).alloc _).trans hK2
  have HKw : Hid _ := hKw
  have HR2 : Hid _ := hR2
  have H4' : Hid _ := H4
  have g4 := H4
  obtain ⟨z0, z1, z2, y0, y1, y2⟩ := g4
  clear hR2 hKw H4 HB c1 hK2
  go_wp2_with fail
  refine (HM _).mono ?_
  rintro en w3 ⟨rfl, rfl⟩
  go_wp2_with fail
  refine (HN _).mono ?_
  rintro en w3 ⟨rfl, rfl⟩
  clear HM HN z0 z1 z2 y0 y1 y2
  have H4n := H4'.out.keep ((Kp.refl (fun _ => False) w2).alloc (.cells #[ .int .u8 (op : Int), .int .u32 0, .int .u64 0] 129)) (fun h => h)
  obtain ⟨g0, g1, g2, f0, f1, f2⟩ := H4n
  go_wp2
  refine bodyPost_ret (v := .agg #[ .int .u8 (op : Int), .int .u32 0, .int .u64 0]) (by simp [results, Tryz.results268, go_sem, g0, g1, g2]) rfl ?_
  refine ins_end (x := (⟨op, 0, 0⟩ : Ins)) (w4 := w2) (n4 := w.heap.size) (n7 := w2.heap.size) rfl HR2.out HKw.out (by repeat (first | exact Kp.refl _ _ | refine Kp.setCell ?_ (.inl (.inl rfl)) _ | refine Kp.setCell ?_ (.inl (.inr rfl)) _ | refine Kp.alloc ?_ _)) (Nat.le_refl _) (by omega) hlt ((Cu.start (Cu.pure (⟨op, 0, 0⟩ : Ins) (p + 1))).eq HRs.out.symm)
set_option maxHeartbeats 4000000 in
theorem ins_mem (h : Rc w b s p e 0 a) (hp : p < e) (fv : Value) {op : Nat} (hop : bAt s p = op) (ho : 40 ≤ op ∧ op ≤ 62) : Calls Tryz.prog 268 #[.pointer (some ⟨b, 0, none⟩), fv] w (Cm Ins.val (fun _ => True) (rest1 s (p + 1) e op p) b s e 0 a w) := by
  have hob : op < 256 := by have := bAt_lt s p; omega
  have HM := fun u => memSig_e op hob u
  have HN := fun u => numSig_e op hob u
  unfold enc3 at HN
  unfold encM at HM
  have hn1 := memSig_1 ho
  obtain ⟨n1, hn1e⟩ : ∃ n1, (memSig op).1 = n1 := ⟨_, rfl⟩
  rw [hn1e] at hn1 HM
  have hn2 : ((n1 : Int) == 0) = false := by rw [beq_eq_false_iff_ne]; omega
  have hn3 : ((n1 : Int) != 0) = true := by simp; omega
  have HRs : Hid (rest1 s (p + 1) e op p = bindQ (u32S s (p + 1) e) fun x => bindQ (u32S s x.2 e) fun y => .ok ((⟨op, x.1, y.1⟩ : Ins), y.2)) := by
    show _ = _
    unfold rest1
    repeat (first | rw [if_neg (by omega)] | rw [if_pos (by omega)])
  clear hn1e hn1
  have q2 : ((op : Int) == 2) = false := by rw [beq_eq_false_iff_ne]; omega
  have q3 : ((op : Int) == 3) = false := by rw [beq_eq_false_iff_ne]; omega
  have q4 : ((op : Int) == 4) = false := by rw [beq_eq_false_iff_ne]; omega
  have q12 : ((op : Int) == 12) = false := by rw [beq_eq_false_iff_ne]; omega
  have q13 : ((op : Int) == 13) = false := by rw [beq_eq_false_iff_ne]; omega
  have q16 : ((op : Int) == 16) = false := by rw [beq_eq_false_iff_ne]; omega
  have q14 : ((op : Int) == 14) = false := by rw [beq_eq_false_iff_ne]; omega
  have q17 : ((op : Int) == 17) = false := by rw [beq_eq_false_iff_ne]; omega
  have g32 : (32 : Int) ≤ (op : Int) := by omega
  have g36 : ¬ (op : Int) ≤ 36 := by omega
  clear ho
  have hlt : b < w.heap.size := lt_of_cell h.c0
  have HB := byte_ok h hp hop
  have c1 := h.c1
  have hpl : p ≤ 1024 := by have := h.le; have := h.es; have := h.sz; omega
  clear h hop
  go_enter Tryz.func268, Tryz.ntmps268
  go_wp2_with fail
  refine (HB.out _ ((Kp.refl _ _).alloc _)).mono ?_
  rintro en w2 ⟨a1, rfl, hR2, hK2⟩
  have hs2 : w.heap.size + 1 ≤ w2.heap.size := by have := hK2.size; rw [World.size_alloc] at this; exact this
  have H4 := (C3.new w (.int .u8 0) (.int .u32 0) (.int .u64 0) 129).keep hK2 (fun h => by have : w.heap.size = b := h; omega)
  have hKw : Kp (· = b) w w2 := ((Kp.refl _ _).alloc _).trans hK2
  have HKw : Hid _ := hKw
  have HR2 : Hid _ := hR2
  have H4' : Hid _ := H4
  have g4 := H4
  obtain ⟨z0, z1, z2, y0, y1, y2⟩ := g4
  clear hR2 hKw H4 HB c1 hK2
  go_wp2_with fail
  refine (HM _).mono ?_
  rintro en w3 ⟨rfl, rfl⟩
  go_wp2_with fail
  refine (HN _).mono ?_
  rintro en w3 ⟨rfl, rfl⟩
  clear HM HN
  have HU := u32_m (HR2.out.keep ((Kp.refl (fun _ => False) w2).alloc (.cells #[ .int .u8 (op : Int), .int .u32 0, .int .u64 0] 129)) (fun h => h))
  go_wp2_with fail
  refine HU.mono ?_
  rintro en w4 ⟨v, q, er', a', rfl, hR4, hK4, hB4, hC4⟩
  have HC4 : Hid _ := hC4.out
  have H7 := (C3.new w2 ( .int .u8 (op : Int)) (.int .u32 0) (.int .u64 0) 129).keep hK4 (fun h => by have : w2.heap.size = b := h; omega)
  have H4n := ((H4'.out.keep ((Kp.refl (fun _ => False) w2).alloc _) (fun h => h)).keep hK4 (fun h => by have : w.heap.size = b := h; omega))
  have HK4 : Hid _ := (HKw.out.trans ((Kp.refl _ _).alloc _)).trans hK4
  have HR4 : Hid _ := hR4
  have H7' : Hid _ := H7
  have H4s : Hid _ := H4n
  clear hR4 hK4 hC4 z0 z1 z2 y0 y1 y2
  obtain ⟨g0, g1, g2, f0, f1, f2⟩ := H4n
  obtain ⟨x0, x1, x2, v0, v1, v2⟩ := H7
  unfold encI8
  have HU2 := u32_m (HR4.out.keep ((Kp.refl (fun k => k = w2.heap.size) w4).setCell (p := ⟨w2.heap.size, 1, none⟩) (.inl rfl) (.int .u32 v)) (fun h => by have : b = w2.heap.size := h; omega))
  go_wp2_with fail
  refine HU2.mono ?_
  rintro en w6 ⟨v6, q2, er2, a2, rfl, hR6, hK6, hB6, hC6⟩
  have H7n := (H7'.out.set1 (.int .u32 v)).keep hK6 (fun h => by have : w2.heap.size = b := h; omega)
  have H4n := (H4s.out.keep ((Kp.refl (fun k => k = w2.heap.size) w4).setCell (p := ⟨w2.heap.size, 1, none⟩) (.inl rfl) (.int .u32 v)) (fun h => by have : w.heap.size = w2.heap.size := h; omega)).keep hK6 (fun h => by have : w.heap.size = b := h; omega)
  have HK6 : Hid (Kp (· = b) w w6) := (HK4.out.setCell (p := ⟨w2.heap.size, 1, none⟩) (.inr (by show w.heap.size ≤ w2.heap.size; omega)) (.int .u32 v)).trans hK6
  have HR6 : Hid _ := hR6
  have HC : Hid (Cu (rest1 s (p + 1) e op p) 0 a (⟨op, v, v6⟩ : Ins) q2 er2 a2) := (Cu.start (HC4.out.trans (hC6.out.trans (Cu.pure (⟨op, v, v6⟩ : Ins) q2)))).eq HRs.out.symm
  clear hR6 hK6 hC6 g0 g1 g2 f0 f1 f2 x0 x1 x2 v0 v1 v2
  obtain ⟨g0, g1, g2, f0, f1, f2⟩ := H4n
  obtain ⟨x0, x1, x2, v0, v1, v2⟩ := H7n
  unfold encI8
  go_wp2
  refine bodyPost_ret (v := .agg #[ .int .u8 (op : Int), .int .u32 v, .int .u64 v6]) (by simp [results, Tryz.results268, go_sem, g0, g1, g2]) rfl ?_
  refine ins_end (x := (⟨op, v, v6⟩ : Ins)) (w4 := w6) (n4 := w.heap.size) (n7 := w2.heap.size) rfl HR6.out HK6.out (by repeat (first | exact Kp.refl _ _ | refine Kp.setCell ?_ (.inl (.inl rfl)) _ | refine Kp.setCell ?_ (.inl (.inr rfl)) _ | refine Kp.alloc ?_ _)) (Nat.le_refl _) (by omega) hlt HC.out
set_option maxHeartbeats 4000000 in
theorem ins_bad (h : Rc w b s p e 0 a) (hp : p < e) (fv : Value) {op : Nat} (hop : bAt s p = op) (ho : ¬ (op = 14) ∧ (6 ≤ op ∧ op ≤ 10 ∨ 18 ≤ op ∧ op ≤ 25 ∨ 28 ≤ op ∧ op ≤ 31 ∨ 37 ≤ op ∧ op ≤ 39 ∨ 192 ≤ op)) : Calls Tryz.prog 268 #[.pointer (some ⟨b, 0, none⟩), fv] w (Cm Ins.val (fun _ => True) (rest1 s (p + 1) e op p) b s e 0 a w) := by
  have hob : op < 256 := by have := bAt_lt s p; omega
  have HM := fun u => memSig_e op hob u
  have HN := fun u => numSig_e op hob u
  rw [memSig_0 (by omega)] at HM
  rw [show encM (0, 0, false) = .tuple #[.int .i64 0, .int .u8 0, .bool false] from rfl] at HM
  rw [numSig_0 (by omega)] at HN
  rw [show enc3 (0, 0, 0) = .tuple #[.int .i64 0, .int .u8 0, .int .u8 0] from rfl] at HN
  have HRs : Hid (rest1 s (p + 1) e op p = .error (10, p)) := by
    show _ = _
    unfold rest1
    repeat (first | rw [if_neg (by omega)] | rw [if_pos (by omega)])
  have q2 : ((op : Int) == 2) = false := by rw [beq_eq_false_iff_ne]; omega
  have q3 : ((op : Int) == 3) = false := by rw [beq_eq_false_iff_ne]; omega
  have q4 : ((op : Int) == 4) = false := by rw [beq_eq_false_iff_ne]; omega
  have q12 : ((op : Int) == 12) = false := by rw [beq_eq_false_iff_ne]; omega
  have q13 : ((op : Int) == 13) = false := by rw [beq_eq_false_iff_ne]; omega
  have q16 : ((op : Int) == 16) = false := by rw [beq_eq_false_iff_ne]; omega
  have q14 : ((op : Int) == 14) = false := by rw [beq_eq_false_iff_ne]; omega
  have q17 : ((op : Int) == 17) = false := by rw [beq_eq_false_iff_ne]; omega
  have q63 : ((op : Int) == 63) = false := by rw [beq_eq_false_iff_ne]; omega
  have q64 : ((op : Int) == 64) = false := by rw [beq_eq_false_iff_ne]; omega
  have q65 : ((op : Int) == 65) = false := by rw [beq_eq_false_iff_ne]; omega
  have q66 : ((op : Int) == 66) = false := by rw [beq_eq_false_iff_ne]; omega
  have q67 : ((op : Int) == 67) = false := by rw [beq_eq_false_iff_ne]; omega
  have q68 : ((op : Int) == 68) = false := by rw [beq_eq_false_iff_ne]; omega
  have q5 : ((op : Int) == 5) = false := by rw [beq_eq_false_iff_ne]; omega
  have q11 : ((op : Int) == 11) = false := by rw [beq_eq_false_iff_ne]; omega
  have q15 : ((op : Int) == 15) = false := by rw [beq_eq_false_iff_ne]; omega
  have q26 : ((op : Int) == 26) = false := by rw [beq_eq_false_iff_ne]; omega
  have q27 : ((op : Int) == 27) = false := by rw [beq_eq_false_iff_ne]; omega
  have g1 : ¬ (op : Int) ≤ 1 := by omega
  have g32 : ¬ (32 : Int) ≤ (op : Int) ∨ (32 : Int) ≤ (op : Int) ∧ ¬ (op : Int) ≤ 36 := by omega
  clear ho
  have hlt : b < w.heap.size := lt_of_cell h.c0
  have HB := byte_ok h hp hop
  have c1 := h.c1
  have hpl : p ≤ 1024 := by have := h.le; have := h.es; have := h.sz; omega
  clear h hop
  go_enter Tryz.func268, Tryz.ntmps268
  go_wp2_with fail
  refine (HB.out _ ((Kp.refl _ _).alloc _)).mono ?_
  rintro en w2 ⟨a1, rfl, hR2, hK2⟩
  have hs2 : w.heap.size + 1 ≤ w2.heap.size := by have := hK2.size; rw [World.size_alloc] at this; exact this
  have H4 := (C3.new w (.int .u8 0) (.int .u32 0) (.int .u64 0) 129).keep hK2 (fun h => by have : w.heap.size = b := h; omega)
  have hKw : Kp (· = b) w w2 := ((Kp.refl _ _).alloc _).trans hK2
  have HKw : Hid _ := hKw
  have HR2 : Hid _ := hR2
  have H4' : Hid _ := H4
  have g4 := H4
  obtain ⟨z0, z1, z2, y0, y1, y2⟩ := g4
  clear hR2 hKw H4 HB c1 hK2
  go_wp2_with fail
  refine (HM _).mono ?_
  rintro en w3 ⟨rfl, rfl⟩
  go_wp2_with fail
  refine (HN _).mono ?_
  rintro en w3 ⟨rfl, rfl⟩
  clear HM HN z0 z1 z2 y0 y1 y2
  have HF := fail_m (HR2.out.keep ((Kp.refl (fun _ => False) w2).alloc (.cells #[.int .u8 (op : Int), .int .u32 0, .int .u64 0] 129)) (fun h => h)) 10 p hpl
  rcases g32 with g32 | ⟨g32, g36⟩
  · go_wp2_with fail
    refine HF.mono ?_
    rintro en w6 ⟨er2, a2, rfl, hR6, hK6, hF⟩
    have H7n := (C3.new w2 (.int .u8 (op : Int)) (.int .u32 0) (.int .u64 0) 129).keep hK6 (fun h => by have : w2.heap.size = b := h; omega)
    have H4n := (H4'.out.keep ((Kp.refl (fun _ => False) w2).alloc _) (fun h => h)).keep hK6 (fun h => by have : w.heap.size = b := h; omega)
    have HK6 : Hid (Kp (· = b) w w6) := (HKw.out.alloc _).trans hK6
    have HR6 : Hid _ := hR6
    clear hR6 hK6
    obtain ⟨g0, g1, g2, f0, f1, f2⟩ := H4n
    obtain ⟨x0, x1, x2, v0, v1, v2⟩ := H7n
    go_wp2
    refine bodyPost_ret (v := .agg #[.int .u8 (op : Int), .int .u32 0, .int .u64 0]) (by simp [results, Tryz.results268, go_sem, g0, g1, g2]) rfl ?_
    refine ins_end (x := (⟨op, 0, 0⟩ : Ins)) (w4 := w6) (n4 := w.heap.size) (n7 := w2.heap.size) rfl HR6.out HK6.out (by repeat (first | exact Kp.refl _ _ | refine Kp.setCell ?_ (.inl (.inl rfl)) _ | refine Kp.setCell ?_ (.inl (.inr rfl)) _ | refine Kp.alloc ?_ _)) (Nat.le_refl _) (by omega) hlt ((Cu.start (Cu.fail _ _ hF.out (by decide))).eq HRs.out.symm)
  · go_wp2_with fail
    refine HF.mono ?_
    rintro en w6 ⟨er2, a2, rfl, hR6, hK6, hF⟩
    have H7n := (C3.new w2 (.int .u8 (op : Int)) (.int .u32 0) (.int .u64 0) 129).keep hK6 (fun h => by have : w2.heap.size = b := h; omega)
    have H4n := (H4'.out.keep ((Kp.refl (fun _ => False) w2).alloc _) (fun h => h)).keep hK6 (fun h => by have : w.heap.size = b := h; omega)
    have HK6 : Hid (Kp (· = b) w w6) := (HKw.out.alloc _).trans hK6
    have HR6 : Hid _ := hR6
    clear hR6 hK6
    obtain ⟨g0, g1, g2, f0, f1, f2⟩ := H4n
    obtain ⟨x0, x1, x2, v0, v1, v2⟩ := H7n
    go_wp2
    refine bodyPost_ret (v := .agg #[.int .u8 (op : Int), .int .u32 0, .int .u64 0]) (by simp [results, Tryz.results268, go_sem, g0, g1, g2]) rfl ?_
    refine ins_end (x := (⟨op, 0, 0⟩ : Ins)) (w4 := w6) (n4 := w.heap.size) (n7 := w2.heap.size) rfl HR6.out HK6.out (by repeat (first | exact Kp.refl _ _ | refine Kp.setCell ?_ (.inl (.inl rfl)) _ | refine Kp.setCell ?_ (.inl (.inr rfl)) _ | refine Kp.alloc ?_ _)) (Nat.le_refl _) (by omega) hlt ((Cu.start (Cu.fail _ _ hF.out (by decide))).eq HRs.out.symm)
end
end Go.Proofs.Qxb6500275aGreatDoor
