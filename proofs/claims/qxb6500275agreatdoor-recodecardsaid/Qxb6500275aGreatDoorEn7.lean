import Derived.Test.Qxb6500275aGreatDoorEn6
set_option maxRecDepth 100000
set_option linter.unusedVariables false
set_option linter.unusedSimpArgs false
namespace Go.Proofs.Qxb6500275aGreatDoor
open Go Go.RowKit
/- an instruction in a block of its own -/
structure Bx (u : World) (nb : Nat) (i : Ins) (wb : Nat) (v : Value) : Prop where
  c0 : u.cell? ⟨nb, 0, none⟩ = some (.int .u8 i.op)
  c1 : u.cell? ⟨nb, 1, none⟩ = some (.int .u32 i.x)
  c2 : u.cell? ⟨nb, 2, none⟩ = some (.int .u64 i.y)
  b : wb ≠ nb
  o : v.ownBlock ≠ some nb
section
variable {w u u' : World} {nb wb : Nat} {v v' : Value} {l : List Nat} {i : Ins}
theorem Bx.we (h : Bx u nb i wb v) (he : We u u' wb v v') : Bx u' nb i wb v' := by
  have hl : nb < u.heap.size := lt_of_cell h.c0
  have hc : ∀ j, u'.cell? ⟨nb, j, none⟩ = u.cell? ⟨nb, j, none⟩ := fun j => he.kp.cell (p := ⟨nb, j, none⟩) hl (fun e => by
    rcases e with e | e
    · exact h.b e.symm
    · exact h.o e)
  refine ⟨by rw [hc]; exact h.c0, by rw [hc]; exact h.c1, by rw [hc]; exact h.c2, h.b, fun e => ?_⟩
  rcases he.ow nb e with h1 | h1
  · exact h.o h1
  · omega
theorem Bx.new (h : Wr w wb v l) (op : Nat) (x y : Int) : Bx (w.alloc (.cells #[.int .u8 op, .int .u32 x, .int .u64 y] 129)) w.heap.size ⟨op, x, y⟩ wb v := by
  have hb := blk_al w #[.int .u8 op, .int .u32 x, .int .u64 y] 129
  refine ⟨hb.cell (i := 0) (by simp), hb.cell (i := 1) (by simp), hb.cell (i := 2) (by simp), ?_, fun e => ?_⟩
  · have := h.lt; omega
  · have := h.f.lt e; omega
end
section
variable {w : World} {wb : Nat} {v : Value} {l : List Nat}
set_option maxHeartbeats 8000000 in
theorem ins_lo (h : Wr w wb v l) (op : Nat) (x y : Int) (tv : Value) (ho : op < 40) (hn : op ≠ 2 ∧ op ≠ 3 ∧ op ≠ 4 ∧ op ≠ 12 ∧ op ≠ 13 ∧ op ≠ 16 ∧ op ≠ 32 ∧ op ≠ 33 ∧ op ≠ 34 ∧ op ≠ 35 ∧ op ≠ 36 ∧ op ≠ 14 ∧ op ≠ 17 ∧ op ≠ 63 ∧ op ≠ 64 ∧ op ≠ 65 ∧ op ≠ 66 ∧ op ≠ 67 ∧ op ≠ 68) (hsm : l.length ≤ 90000) :
    Calls Tryz.prog 129 #[.pointer (some ⟨wb, 0, none⟩), .agg #[.int .u8 op, .int .u32 x, .int .u64 y], tv] w (Wq w wb v (l ++ (op :: []))) := by
  have n2 : ((op : Int) == 2) = false := by rw [beq_eq_false_iff_ne]; omega
  have n3 : ((op : Int) == 3) = false := by rw [beq_eq_false_iff_ne]; omega
  have n4 : ((op : Int) == 4) = false := by rw [beq_eq_false_iff_ne]; omega
  have n12 : ((op : Int) == 12) = false := by rw [beq_eq_false_iff_ne]; omega
  have n13 : ((op : Int) == 13) = false := by rw [beq_eq_false_iff_ne]; omega
  have n16 : ((op : Int) == 16) = false := by rw [beq_eq_false_iff_ne]; omega
  have n32 : ((op : Int) == 32) = false := by rw [beq_eq_false_iff_ne]; omega
  have n33 : ((op : Int) == 33) = false := by rw [beq_eq_false_iff_ne]; omega
  have n34 : ((op : Int) == 34) = false := by rw [beq_eq_false_iff_ne]; omega
  have n35 : ((op : Int) == 35) = false := by rw [beq_eq_false_iff_ne]; omega
  have n36 : ((op : Int) == 36) = false := by rw [beq_eq_false_iff_ne]; omega
  have n14 : ((op : Int) == 14) = false := by rw [beq_eq_false_iff_ne]; omega
  have n17 : ((op : Int) == 17) = false := by rw [beq_eq_false_iff_ne]; omega
  have n63 : ((op : Int) == 63) = false := by rw [beq_eq_false_iff_ne]; omega
  have n64 : ((op : Int) == 64) = false := by rw [beq_eq_false_iff_ne]; omega
  have n65 : ((op : Int) == 65) = false := by rw [beq_eq_false_iff_ne]; omega
  have n66 : ((op : Int) == 66) = false := by rw [beq_eq_false_iff_ne]; omega
  have n67 : ((op : Int) == 67) = false := by rw [beq_eq_false_iff_ne]; omega
  have n68 : ((op : Int) == 68) = false := by rw [beq_eq_false_iff_ne]; omega
  clear hn
  have hr1 : decide ((40 : Int) ≤ (op : Int)) = false := decide_eq_false (by omega)
  have hk0 : Kp (fun _ => False) w (w.alloc (.cells #[.int .u8 op, .int .u32 x, .int .u64 y] 129)) := (Kp.refl _ _).alloc _
  have hb1 := (h.quiet hk0).byte (by omega) op
  have HX : Hid (Bx (w.alloc (.cells #[.int .u8 op, .int .u32 x, .int .u64 y] 129)) w.heap.size ⟨op, x, y⟩ wb v) := Bx.new h op x y
  obtain ⟨x0, x1, x2, _, _⟩ := HX.out
  dsimp only at x0 x1 x2
  have HK0 : Hid (Kp (fun _ => False) w (w.alloc (.cells #[.int .u8 op, .int .u32 x, .int .u64 y] 129))) := hk0
  clear h hk0
  rw [World.size_alloc] at hb1
  go_enter Tryz.func129, Tryz.ntmps129
  go_wp2_with fail
  refine hb1.mono ?_
  rintro en u1 ⟨rfl, v1, r1, e1⟩
  have HR1 : Hid (Wr u1 wb v1 (l ++ [op])) := r1
  have HE1 : Hid (We w u1 wb v v1) := We.before HK0.out e1
  have HX1 : Hid (Bx u1 w.heap.size ⟨op, x, y⟩ wb v1) := HX.out.we e1
  obtain ⟨y0, y1, y2, _, _⟩ := HX1.out
  dsimp only at y0 y1 y2
  clear r1 e1 hb1 HX x0 x1 x2
  go_wp2_with fail
  refine bodyPost_ret (v := .tuple #[]) (by simp [results, Tryz.results129, go_sem]) rfl ?_
  refine ⟨rfl, v1, ?_, HE1.out⟩
  exact HR1.out
set_option maxHeartbeats 8000000 in
theorem ins_hi (h : Wr w wb v l) (op : Nat) (x y : Int) (tv : Value) (ho : 62 < op ∧ op < 256) (hn : op ≠ 2 ∧ op ≠ 3 ∧ op ≠ 4 ∧ op ≠ 12 ∧ op ≠ 13 ∧ op ≠ 16 ∧ op ≠ 32 ∧ op ≠ 33 ∧ op ≠ 34 ∧ op ≠ 35 ∧ op ≠ 36 ∧ op ≠ 14 ∧ op ≠ 17 ∧ op ≠ 63 ∧ op ≠ 64 ∧ op ≠ 65 ∧ op ≠ 66 ∧ op ≠ 67 ∧ op ≠ 68) (hsm : l.length ≤ 90000) :
    Calls Tryz.prog 129 #[.pointer (some ⟨wb, 0, none⟩), .agg #[.int .u8 op, .int .u32 x, .int .u64 y], tv] w (Wq w wb v (l ++ (op :: []))) := by
  have n2 : ((op : Int) == 2) = false := by rw [beq_eq_false_iff_ne]; omega
  have n3 : ((op : Int) == 3) = false := by rw [beq_eq_false_iff_ne]; omega
  have n4 : ((op : Int) == 4) = false := by rw [beq_eq_false_iff_ne]; omega
  have n12 : ((op : Int) == 12) = false := by rw [beq_eq_false_iff_ne]; omega
  have n13 : ((op : Int) == 13) = false := by rw [beq_eq_false_iff_ne]; omega
  have n16 : ((op : Int) == 16) = false := by rw [beq_eq_false_iff_ne]; omega
  have n32 : ((op : Int) == 32) = false := by rw [beq_eq_false_iff_ne]; omega
  have n33 : ((op : Int) == 33) = false := by rw [beq_eq_false_iff_ne]; omega
  have n34 : ((op : Int) == 34) = false := by rw [beq_eq_false_iff_ne]; omega
  have n35 : ((op : Int) == 35) = false := by rw [beq_eq_false_iff_ne]; omega
  have n36 : ((op : Int) == 36) = false := by rw [beq_eq_false_iff_ne]; omega
  have n14 : ((op : Int) == 14) = false := by rw [beq_eq_false_iff_ne]; omega
  have n17 : ((op : Int) == 17) = false := by rw [beq_eq_false_iff_ne]; omega
  have n63 : ((op : Int) == 63) = false := by rw [beq_eq_false_iff_ne]; omega
  have n64 : ((op : Int) == 64) = false := by rw [beq_eq_false_iff_ne]; omega
  have n65 : ((op : Int) == 65) = false := by rw [beq_eq_false_iff_ne]; omega
  have n66 : ((op : Int) == 66) = false := by rw [beq_eq_false_iff_ne]; omega
  have n67 : ((op : Int) == 67) = false := by rw [beq_eq_false_iff_ne]; omega
  have n68 : ((op : Int) == 68) = false := by rw [beq_eq_false_iff_ne]; omega
  clear hn
  have hr1 : decide ((40 : Int) ≤ (op : Int)) = true := decide_eq_true (by omega)
  have hr2 : decide ((op : Int) ≤ 62) = false := decide_eq_false (by omega)
  have hk0 : Kp (fun _ => False) w (w.alloc (.cells #[.int .u8 op, .int .u32 x, .int .u64 y] 129)) := (Kp.refl _ _).alloc _
  have hb1 := (h.quiet hk0).byte (by omega) op
  have HX : Hid (Bx (w.alloc (.cells #[.int .u8 op, .int .u32 x, .int .u64 y] 129)) w.heap.size ⟨op, x, y⟩ wb v) := Bx.new h op x y
  obtain ⟨x0, x1, x2, _, _⟩ := HX.out
  dsimp only at x0 x1 x2
  have HK0 : Hid (Kp (fun _ => False) w (w.alloc (.cells #[.int .u8 op, .int .u32 x, .int .u64 y] 129))) := hk0
  clear h hk0
  rw [World.size_alloc] at hb1
  go_enter Tryz.func129, Tryz.ntmps129
  go_wp2_with fail
  refine hb1.mono ?_
  rintro en u1 ⟨rfl, v1, r1, e1⟩
  have HR1 : Hid (Wr u1 wb v1 (l ++ [op])) := r1
  have HE1 : Hid (We w u1 wb v v1) := We.before HK0.out e1
  have HX1 : Hid (Bx u1 w.heap.size ⟨op, x, y⟩ wb v1) := HX.out.we e1
  obtain ⟨y0, y1, y2, _, _⟩ := HX1.out
  dsimp only at y0 y1 y2
  clear r1 e1 hb1 HX x0 x1 x2
  go_wp2_with fail
  refine bodyPost_ret (v := .tuple #[]) (by simp [results, Tryz.results129, go_sem]) rfl ?_
  refine ⟨rfl, v1, ?_, HE1.out⟩
  exact HR1.out
set_option maxHeartbeats 8000000 in
theorem ins_ldst (h : Wr w wb v l) (op : Nat) (x y : Int) (tv : Value) (ho : 40 ≤ op ∧ op ≤ 62) (hx : 0 ≤ x ∧ x < 4294967296) (hy : 0 ≤ y ∧ y < 18446744073709551616) (hsm : l.length ≤ 90000) :
    Calls Tryz.prog 129 #[.pointer (some ⟨wb, 0, none⟩), .agg #[.int .u8 op, .int .u32 x, .int .u64 y], tv] w (Wq w wb v (l ++ (op :: (encI32 x ++ encI32 y)))) := by
  have n2 : ((op : Int) == 2) = false := by rw [beq_eq_false_iff_ne]; omega
  have n3 : ((op : Int) == 3) = false := by rw [beq_eq_false_iff_ne]; omega
  have n4 : ((op : Int) == 4) = false := by rw [beq_eq_false_iff_ne]; omega
  have n12 : ((op : Int) == 12) = false := by rw [beq_eq_false_iff_ne]; omega
  have n13 : ((op : Int) == 13) = false := by rw [beq_eq_false_iff_ne]; omega
  have n16 : ((op : Int) == 16) = false := by rw [beq_eq_false_iff_ne]; omega
  have n32 : ((op : Int) == 32) = false := by rw [beq_eq_false_iff_ne]; omega
  have n33 : ((op : Int) == 33) = false := by rw [beq_eq_false_iff_ne]; omega
  have n34 : ((op : Int) == 34) = false := by rw [beq_eq_false_iff_ne]; omega
  have n35 : ((op : Int) == 35) = false := by rw [beq_eq_false_iff_ne]; omega
  have n36 : ((op : Int) == 36) = false := by rw [beq_eq_false_iff_ne]; omega
  have n14 : ((op : Int) == 14) = false := by rw [beq_eq_false_iff_ne]; omega
  have n17 : ((op : Int) == 17) = false := by rw [beq_eq_false_iff_ne]; omega
  have n63 : ((op : Int) == 63) = false := by rw [beq_eq_false_iff_ne]; omega
  have n64 : ((op : Int) == 64) = false := by rw [beq_eq_false_iff_ne]; omega
  have n65 : ((op : Int) == 65) = false := by rw [beq_eq_false_iff_ne]; omega
  have n66 : ((op : Int) == 66) = false := by rw [beq_eq_false_iff_ne]; omega
  have n67 : ((op : Int) == 67) = false := by rw [beq_eq_false_iff_ne]; omega
  have n68 : ((op : Int) == 68) = false := by rw [beq_eq_false_iff_ne]; omega
  have hr1 : decide ((40 : Int) ≤ (op : Int)) = true := decide_eq_true (by omega)
  have hr2 : decide ((op : Int) ≤ 62) = true := decide_eq_true (by omega)
  have lx : (uLeb x.toNat).length ≤ 5 := uLeb_le 4 _ (by simp; omega)
  have ly : (uLeb y.toNat).length ≤ 10 := uLeb_le 9 _ (by simp; omega)
  obtain ⟨a, rfl⟩ : ∃ a : Nat, x = a := ⟨x.toNat, by omega⟩
  obtain ⟨b, rfl⟩ : ∃ b : Nat, y = b := ⟨y.toNat, by omega⟩
  rw [Int.toNat_natCast] at lx ly
  have hk0 : Kp (fun _ => False) w (w.alloc (.cells #[.int .u8 op, .int .u32 a, .int .u64 b] 129)) := (Kp.refl _ _).alloc _
  have hb1 := (h.quiet hk0).byte (by omega) op
  have HX : Hid (Bx (w.alloc (.cells #[.int .u8 op, .int .u32 a, .int .u64 b] 129)) w.heap.size ⟨op, a, b⟩ wb v) := Bx.new h op a b
  obtain ⟨x0, x1, x2, _, _⟩ := HX.out
  dsimp only at x0 x1 x2
  have HK0 : Hid (Kp (fun _ => False) w (w.alloc (.cells #[.int .u8 op, .int .u32 a, .int .u64 b] 129))) := hk0
  clear h hk0
  rw [World.size_alloc] at hb1
  go_enter Tryz.func129, Tryz.ntmps129
  go_wp2_with fail
  refine hb1.mono ?_
  rintro en u1 ⟨rfl, v1, r1, e1⟩
  have HR1 : Hid (Wr u1 wb v1 (l ++ [op])) := r1
  have HE1 : Hid (We w u1 wb v v1) := We.before HK0.out e1
  have HX1 : Hid (Bx u1 w.heap.size ⟨op, a, b⟩ wb v1) := HX.out.we e1
  obtain ⟨y0, y1, y2, _, _⟩ := HX1.out
  dsimp only at y0 y1 y2
  clear r1 e1 hb1 HX x0 x1 x2
  go_wp2_with fail
  refine (wu_calls HR1.out a (by omega) (by rw [List.length_append]; simp; omega)).mono ?_
  rintro en u2 ⟨rfl, v2, r2, e2⟩
  have HR2 : Hid (Wr u2 wb v2 _) := r2
  have HE2 : Hid (We w u2 wb v v2) := HE1.out.trans e2
  have HX2 : Hid (Bx u2 w.heap.size _ wb v2) := HX1.out.we e2
  obtain ⟨y0, y1, y2, _, _⟩ := HX2.out
  dsimp only at y0 y1 y2
  clear r2 e2
  go_wp2_with fail
  refine (wu_calls HR2.out b (by omega) (by rw [List.length_append, List.length_append]; simp; omega)).mono ?_
  rintro en u3 ⟨rfl, v3, r3, e3⟩
  have HR3 : Hid (Wr u3 wb v3 _) := r3
  have HE3 : Hid (We w u3 wb v v3) := HE2.out.trans e3
  have HX3 : Hid (Bx u3 w.heap.size _ wb v3) := HX2.out.we e3
  obtain ⟨y0, y1, y2, _, _⟩ := HX3.out
  dsimp only at y0 y1 y2
  clear r3 e3
  go_wp2_with fail
  refine bodyPost_ret (v := .tuple #[]) (by simp [results, Tryz.results129, go_sem]) rfl ?_
  refine ⟨rfl, v3, ?_, HE3.out⟩
  unfold encI32
  rw [Int.toNat_natCast, Int.toNat_natCast]
  simpa using HR3.out
set_option maxHeartbeats 8000000 in
theorem ins_b_2 (h : Wr w wb v l) (x y : Int) (tv : Value) (hx : 0 ≤ x ∧ x < 256) (hsm : l.length ≤ 90000) :
    Calls Tryz.prog 129 #[.pointer (some ⟨wb, 0, none⟩), .agg #[.int .u8 (2 : Nat), .int .u32 x, .int .u64 y], tv] w (Wq w wb v (l ++ (2 :: [x.toNat]))) := by
  obtain ⟨a, rfl⟩ : ∃ a : Nat, x = a := ⟨x.toNat, by omega⟩
  have hk0 : Kp (fun _ => False) w (w.alloc (.cells #[.int .u8 (2 : Nat), .int .u32 a, .int .u64 y] 129)) := (Kp.refl _ _).alloc _
  have hb1 := (h.quiet hk0).byte (by omega) (2 : Nat)
  have HX : Hid (Bx (w.alloc (.cells #[.int .u8 (2 : Nat), .int .u32 a, .int .u64 y] 129)) w.heap.size ⟨(2 : Nat), a, y⟩ wb v) := Bx.new h (2 : Nat) a y
  obtain ⟨x0, x1, x2, _, _⟩ := HX.out
  dsimp only at x0 x1 x2
  have HK0 : Hid (Kp (fun _ => False) w (w.alloc (.cells #[.int .u8 (2 : Nat), .int .u32 a, .int .u64 y] 129))) := hk0
  clear h hk0
  rw [World.size_alloc] at hb1
  go_enter Tryz.func129, Tryz.ntmps129
  go_wp2_with fail
  refine hb1.mono ?_
  rintro en u1 ⟨rfl, v1, r1, e1⟩
  have HR1 : Hid (Wr u1 wb v1 (l ++ [(2 : Nat)])) := r1
  have HE1 : Hid (We w u1 wb v v1) := We.before HK0.out e1
  have HX1 : Hid (Bx u1 w.heap.size ⟨(2 : Nat), a, y⟩ wb v1) := HX.out.we e1
  obtain ⟨y0, y1, y2, _, _⟩ := HX1.out
  dsimp only at y0 y1 y2
  clear r1 e1 hb1 HX x0 x1 x2
  go_wp2_with fail
  refine (HR1.out.byte (by rw [List.length_append]; simp; omega) a).mono ?_
  rintro en u2 ⟨rfl, v2, r2, e2⟩
  have HR2 : Hid (Wr u2 wb v2 _) := r2
  have HE2 : Hid (We w u2 wb v v2) := HE1.out.trans e2
  have HX2 : Hid (Bx u2 w.heap.size _ wb v2) := HX1.out.we e2
  obtain ⟨y0, y1, y2, _, _⟩ := HX2.out
  dsimp only at y0 y1 y2
  clear r2 e2
  go_wp2_with fail
  refine bodyPost_ret (v := .tuple #[]) (by simp [results, Tryz.results129, go_sem]) rfl ?_
  refine ⟨rfl, v2, ?_, HE2.out⟩
  rw [Int.toNat_natCast]
  simpa using HR2.out
set_option maxHeartbeats 8000000 in
theorem ins_b_3 (h : Wr w wb v l) (x y : Int) (tv : Value) (hx : 0 ≤ x ∧ x < 256) (hsm : l.length ≤ 90000) :
    Calls Tryz.prog 129 #[.pointer (some ⟨wb, 0, none⟩), .agg #[.int .u8 (3 : Nat), .int .u32 x, .int .u64 y], tv] w (Wq w wb v (l ++ (3 :: [x.toNat]))) := by
  obtain ⟨a, rfl⟩ : ∃ a : Nat, x = a := ⟨x.toNat, by omega⟩
  have hk0 : Kp (fun _ => False) w (w.alloc (.cells #[.int .u8 (3 : Nat), .int .u32 a, .int .u64 y] 129)) := (Kp.refl _ _).alloc _
  have hb1 := (h.quiet hk0).byte (by omega) (3 : Nat)
  have HX : Hid (Bx (w.alloc (.cells #[.int .u8 (3 : Nat), .int .u32 a, .int .u64 y] 129)) w.heap.size ⟨(3 : Nat), a, y⟩ wb v) := Bx.new h (3 : Nat) a y
  obtain ⟨x0, x1, x2, _, _⟩ := HX.out
  dsimp only at x0 x1 x2
  have HK0 : Hid (Kp (fun _ => False) w (w.alloc (.cells #[.int .u8 (3 : Nat), .int .u32 a, .int .u64 y] 129))) := hk0
  clear h hk0
  rw [World.size_alloc] at hb1
  go_enter Tryz.func129, Tryz.ntmps129
  go_wp2_with fail
  refine hb1.mono ?_
  rintro en u1 ⟨rfl, v1, r1, e1⟩
  have HR1 : Hid (Wr u1 wb v1 (l ++ [(3 : Nat)])) := r1
  have HE1 : Hid (We w u1 wb v v1) := We.before HK0.out e1
  have HX1 : Hid (Bx u1 w.heap.size ⟨(3 : Nat), a, y⟩ wb v1) := HX.out.we e1
  obtain ⟨y0, y1, y2, _, _⟩ := HX1.out
  dsimp only at y0 y1 y2
  clear r1 e1 hb1 HX x0 x1 x2
  go_wp2_with fail
  refine (HR1.out.byte (by rw [List.length_append]; simp; omega) a).mono ?_
  rintro en u2 ⟨rfl, v2, r2, e2⟩
  have HR2 : Hid (Wr u2 wb v2 _) := r2
  have HE2 : Hid (We w u2 wb v v2) := HE1.out.trans e2
  have HX2 : Hid (Bx u2 w.heap.size _ wb v2) := HX1.out.we e2
  obtain ⟨y0, y1, y2, _, _⟩ := HX2.out
  dsimp only at y0 y1 y2
  clear r2 e2
  go_wp2_with fail
  refine bodyPost_ret (v := .tuple #[]) (by simp [results, Tryz.results129, go_sem]) rfl ?_
  refine ⟨rfl, v2, ?_, HE2.out⟩
  rw [Int.toNat_natCast]
  simpa using HR2.out
set_option maxHeartbeats 8000000 in
theorem ins_b_4 (h : Wr w wb v l) (x y : Int) (tv : Value) (hx : 0 ≤ x ∧ x < 256) (hsm : l.length ≤ 90000) :
    Calls Tryz.prog 129 #[.pointer (some ⟨wb, 0, none⟩), .agg #[.int .u8 (4 : Nat), .int .u32 x, .int .u64 y], tv] w (Wq w wb v (l ++ (4 :: [x.toNat]))) := by
  obtain ⟨a, rfl⟩ : ∃ a : Nat, x = a := ⟨x.toNat, by omega⟩
  have hk0 : Kp (fun _ => False) w (w.alloc (.cells #[.int .u8 (4 : Nat), .int .u32 a, .int .u64 y] 129)) := (Kp.refl _ _).alloc _
  have hb1 := (h.quiet hk0).byte (by omega) (4 : Nat)
  have HX : Hid (Bx (w.alloc (.cells #[.int .u8 (4 : Nat), .int .u32 a, .int .u64 y] 129)) w.heap.size ⟨(4 : Nat), a, y⟩ wb v) := Bx.new h (4 : Nat) a y
  obtain ⟨x0, x1, x2, _, _⟩ := HX.out
  dsimp only at x0 x1 x2
  have HK0 : Hid (Kp (fun _ => False) w (w.alloc (.cells #[.int .u8 (4 : Nat), .int .u32 a, .int .u64 y] 129))) := hk0
  clear h hk0
  rw [World.size_alloc] at hb1
  go_enter Tryz.func129, Tryz.ntmps129
  go_wp2_with fail
  refine hb1.mono ?_
  rintro en u1 ⟨rfl, v1, r1, e1⟩
  have HR1 : Hid (Wr u1 wb v1 (l ++ [(4 : Nat)])) := r1
  have HE1 : Hid (We w u1 wb v v1) := We.before HK0.out e1
  have HX1 : Hid (Bx u1 w.heap.size ⟨(4 : Nat), a, y⟩ wb v1) := HX.out.we e1
  obtain ⟨y0, y1, y2, _, _⟩ := HX1.out
  dsimp only at y0 y1 y2
  clear r1 e1 hb1 HX x0 x1 x2
  go_wp2_with fail
  refine (HR1.out.byte (by rw [List.length_append]; simp; omega) a).mono ?_
  rintro en u2 ⟨rfl, v2, r2, e2⟩
  have HR2 : Hid (Wr u2 wb v2 _) := r2
  have HE2 : Hid (We w u2 wb v v2) := HE1.out.trans e2
  have HX2 : Hid (Bx u2 w.heap.size _ wb v2) := HX1.out.we e2
  obtain ⟨y0, y1, y2, _, _⟩ := HX2.out
  dsimp only at y0 y1 y2
  clear r2 e2
  go_wp2_with fail
  refine bodyPost_ret (v := .tuple #[]) (by simp [results, Tryz.results129, go_sem]) rfl ?_
  refine ⟨rfl, v2, ?_, HE2.out⟩
  rw [Int.toNat_natCast]
  simpa using HR2.out
set_option maxHeartbeats 8000000 in
theorem ins_i_12 (h : Wr w wb v l) (x y : Int) (tv : Value) (hx : 0 ≤ x ∧ x < 4294967296) (hsm : l.length ≤ 90000) :
    Calls Tryz.prog 129 #[.pointer (some ⟨wb, 0, none⟩), .agg #[.int .u8 (12 : Nat), .int .u32 x, .int .u64 y], tv] w (Wq w wb v (l ++ (12 :: encI32 x))) := by
  have lx : (uLeb x.toNat).length ≤ 5 := uLeb_le 4 _ (by simp; omega)
  obtain ⟨a, rfl⟩ : ∃ a : Nat, x = a := ⟨x.toNat, by omega⟩
  rw [Int.toNat_natCast] at lx
  have hk0 : Kp (fun _ => False) w (w.alloc (.cells #[.int .u8 (12 : Nat), .int .u32 a, .int .u64 y] 129)) := (Kp.refl _ _).alloc _
  have hb1 := (h.quiet hk0).byte (by omega) (12 : Nat)
  have HX : Hid (Bx (w.alloc (.cells #[.int .u8 (12 : Nat), .int .u32 a, .int .u64 y] 129)) w.heap.size ⟨(12 : Nat), a, y⟩ wb v) := Bx.new h (12 : Nat) a y
  obtain ⟨x0, x1, x2, _, _⟩ := HX.out
  dsimp only at x0 x1 x2
  have HK0 : Hid (Kp (fun _ => False) w (w.alloc (.cells #[.int .u8 (12 : Nat), .int .u32 a, .int .u64 y] 129))) := hk0
  clear h hk0
  rw [World.size_alloc] at hb1
  go_enter Tryz.func129, Tryz.ntmps129
  go_wp2_with fail
  refine hb1.mono ?_
  rintro en u1 ⟨rfl, v1, r1, e1⟩
  have HR1 : Hid (Wr u1 wb v1 (l ++ [(12 : Nat)])) := r1
  have HE1 : Hid (We w u1 wb v v1) := We.before HK0.out e1
  have HX1 : Hid (Bx u1 w.heap.size ⟨(12 : Nat), a, y⟩ wb v1) := HX.out.we e1
  obtain ⟨y0, y1, y2, _, _⟩ := HX1.out
  dsimp only at y0 y1 y2
  clear r1 e1 hb1 HX x0 x1 x2
  go_wp2_with fail
  refine (wu_calls HR1.out a (by omega) (by rw [List.length_append]; simp; omega)).mono ?_
  rintro en u2 ⟨rfl, v2, r2, e2⟩
  have HR2 : Hid (Wr u2 wb v2 _) := r2
  have HE2 : Hid (We w u2 wb v v2) := HE1.out.trans e2
  have HX2 : Hid (Bx u2 w.heap.size _ wb v2) := HX1.out.we e2
  obtain ⟨y0, y1, y2, _, _⟩ := HX2.out
  dsimp only at y0 y1 y2
  clear r2 e2
  go_wp2_with fail
  refine bodyPost_ret (v := .tuple #[]) (by simp [results, Tryz.results129, go_sem]) rfl ?_
  refine ⟨rfl, v2, ?_, HE2.out⟩
  unfold encI32
  rw [Int.toNat_natCast]
  simpa using HR2.out
set_option maxHeartbeats 8000000 in
theorem ins_i_13 (h : Wr w wb v l) (x y : Int) (tv : Value) (hx : 0 ≤ x ∧ x < 4294967296) (hsm : l.length ≤ 90000) :
    Calls Tryz.prog 129 #[.pointer (some ⟨wb, 0, none⟩), .agg #[.int .u8 (13 : Nat), .int .u32 x, .int .u64 y], tv] w (Wq w wb v (l ++ (13 :: encI32 x))) := by
  have lx : (uLeb x.toNat).length ≤ 5 := uLeb_le 4 _ (by simp; omega)
  obtain ⟨a, rfl⟩ : ∃ a : Nat, x = a := ⟨x.toNat, by omega⟩
  rw [Int.toNat_natCast] at lx
  have hk0 : Kp (fun _ => False) w (w.alloc (.cells #[.int .u8 (13 : Nat), .int .u32 a, .int .u64 y] 129)) := (Kp.refl _ _).alloc _
  have hb1 := (h.quiet hk0).byte (by omega) (13 : Nat)
  have HX : Hid (Bx (w.alloc (.cells #[.int .u8 (13 : Nat), .int .u32 a, .int .u64 y] 129)) w.heap.size ⟨(13 : Nat), a, y⟩ wb v) := Bx.new h (13 : Nat) a y
  obtain ⟨x0, x1, x2, _, _⟩ := HX.out
  dsimp only at x0 x1 x2
  have HK0 : Hid (Kp (fun _ => False) w (w.alloc (.cells #[.int .u8 (13 : Nat), .int .u32 a, .int .u64 y] 129))) := hk0
  clear h hk0
  rw [World.size_alloc] at hb1
  go_enter Tryz.func129, Tryz.ntmps129
  go_wp2_with fail
  refine hb1.mono ?_
  rintro en u1 ⟨rfl, v1, r1, e1⟩
  have HR1 : Hid (Wr u1 wb v1 (l ++ [(13 : Nat)])) := r1
  have HE1 : Hid (We w u1 wb v v1) := We.before HK0.out e1
  have HX1 : Hid (Bx u1 w.heap.size ⟨(13 : Nat), a, y⟩ wb v1) := HX.out.we e1
  obtain ⟨y0, y1, y2, _, _⟩ := HX1.out
  dsimp only at y0 y1 y2
  clear r1 e1 hb1 HX x0 x1 x2
  go_wp2_with fail
  refine (wu_calls HR1.out a (by omega) (by rw [List.length_append]; simp; omega)).mono ?_
  rintro en u2 ⟨rfl, v2, r2, e2⟩
  have HR2 : Hid (Wr u2 wb v2 _) := r2
  have HE2 : Hid (We w u2 wb v v2) := HE1.out.trans e2
  have HX2 : Hid (Bx u2 w.heap.size _ wb v2) := HX1.out.we e2
  obtain ⟨y0, y1, y2, _, _⟩ := HX2.out
  dsimp only at y0 y1 y2
  clear r2 e2
  go_wp2_with fail
  refine bodyPost_ret (v := .tuple #[]) (by simp [results, Tryz.results129, go_sem]) rfl ?_
  refine ⟨rfl, v2, ?_, HE2.out⟩
  unfold encI32
  rw [Int.toNat_natCast]
  simpa using HR2.out
set_option maxHeartbeats 8000000 in
theorem ins_i_16 (h : Wr w wb v l) (x y : Int) (tv : Value) (hx : 0 ≤ x ∧ x < 4294967296) (hsm : l.length ≤ 90000) :
    Calls Tryz.prog 129 #[.pointer (some ⟨wb, 0, none⟩), .agg #[.int .u8 (16 : Nat), .int .u32 x, .int .u64 y], tv] w (Wq w wb v (l ++ (16 :: encI32 x))) := by
  have lx : (uLeb x.toNat).length ≤ 5 := uLeb_le 4 _ (by simp; omega)
  obtain ⟨a, rfl⟩ : ∃ a : Nat, x = a := ⟨x.toNat, by omega⟩
  rw [Int.toNat_natCast] at lx
  have hk0 : Kp (fun _ => False) w (w.alloc (.cells #[.int .u8 (16 : Nat), .int .u32 a, .int .u64 y] 129)) := (Kp.refl _ _).alloc _
  have hb1 := (h.quiet hk0).byte (by omega) (16 : Nat)
  have HX : Hid (Bx (w.alloc (.cells #[.int .u8 (16 : Nat), .int .u32 a, .int .u64 y] 129)) w.heap.size ⟨(16 : Nat), a, y⟩ wb v) := Bx.new h (16 : Nat) a y
  obtain ⟨x0, x1, x2, _, _⟩ := HX.out
  dsimp only at x0 x1 x2
  have HK0 : Hid (Kp (fun _ => False) w (w.alloc (.cells #[.int .u8 (16 : Nat), .int .u32 a, .int .u64 y] 129))) := hk0
  clear h hk0
  rw [World.size_alloc] at hb1
  go_enter Tryz.func129, Tryz.ntmps129
  go_wp2_with fail
  refine hb1.mono ?_
  rintro en u1 ⟨rfl, v1, r1, e1⟩
  have HR1 : Hid (Wr u1 wb v1 (l ++ [(16 : Nat)])) := r1
  have HE1 : Hid (We w u1 wb v v1) := We.before HK0.out e1
  have HX1 : Hid (Bx u1 w.heap.size ⟨(16 : Nat), a, y⟩ wb v1) := HX.out.we e1
  obtain ⟨y0, y1, y2, _, _⟩ := HX1.out
  dsimp only at y0 y1 y2
  clear r1 e1 hb1 HX x0 x1 x2
  go_wp2_with fail
  refine (wu_calls HR1.out a (by omega) (by rw [List.length_append]; simp; omega)).mono ?_
  rintro en u2 ⟨rfl, v2, r2, e2⟩
  have HR2 : Hid (Wr u2 wb v2 _) := r2
  have HE2 : Hid (We w u2 wb v v2) := HE1.out.trans e2
  have HX2 : Hid (Bx u2 w.heap.size _ wb v2) := HX1.out.we e2
  obtain ⟨y0, y1, y2, _, _⟩ := HX2.out
  dsimp only at y0 y1 y2
  clear r2 e2
  go_wp2_with fail
  refine bodyPost_ret (v := .tuple #[]) (by simp [results, Tryz.results129, go_sem]) rfl ?_
  refine ⟨rfl, v2, ?_, HE2.out⟩
  unfold encI32
  rw [Int.toNat_natCast]
  simpa using HR2.out
set_option maxHeartbeats 8000000 in
theorem ins_i_32 (h : Wr w wb v l) (x y : Int) (tv : Value) (hx : 0 ≤ x ∧ x < 4294967296) (hsm : l.length ≤ 90000) :
    Calls Tryz.prog 129 #[.pointer (some ⟨wb, 0, none⟩), .agg #[.int .u8 (32 : Nat), .int .u32 x, .int .u64 y], tv] w (Wq w wb v (l ++ (32 :: encI32 x))) := by
  have lx : (uLeb x.toNat).length ≤ 5 := uLeb_le 4 _ (by simp; omega)
  obtain ⟨a, rfl⟩ : ∃ a : Nat, x = a := ⟨x.toNat, by omega⟩
  rw [Int.toNat_natCast] at lx
  have hk0 : Kp (fun _ => False) w (w.alloc (.cells #[.int .u8 (32 : Nat), .int .u32 a, .int .u64 y] 129)) := (Kp.refl _ _).alloc _
  have hb1 := (h.quiet hk0).byte (by omega) (32 : Nat)
  have HX : Hid (Bx (w.alloc (.cells #[.int .u8 (32 : Nat), .int .u32 a, .int .u64 y] 129)) w.heap.size ⟨(32 : Nat), a, y⟩ wb v) := Bx.new h (32 : Nat) a y
  obtain ⟨x0, x1, x2, _, _⟩ := HX.out
  dsimp only at x0 x1 x2
  have HK0 : Hid (Kp (fun _ => False) w (w.alloc (.cells #[.int .u8 (32 : Nat), .int .u32 a, .int .u64 y] 129))) := hk0
  clear h hk0
  rw [World.size_alloc] at hb1
  go_enter Tryz.func129, Tryz.ntmps129
  go_wp2_with fail
  refine hb1.mono ?_
  rintro en u1 ⟨rfl, v1, r1, e1⟩
  have HR1 : Hid (Wr u1 wb v1 (l ++ [(32 : Nat)])) := r1
  have HE1 : Hid (We w u1 wb v v1) := We.before HK0.out e1
  have HX1 : Hid (Bx u1 w.heap.size ⟨(32 : Nat), a, y⟩ wb v1) := HX.out.we e1
  obtain ⟨y0, y1, y2, _, _⟩ := HX1.out
  dsimp only at y0 y1 y2
  clear r1 e1 hb1 HX x0 x1 x2
  go_wp2_with fail
  refine (wu_calls HR1.out a (by omega) (by rw [List.length_append]; simp; omega)).mono ?_
  rintro en u2 ⟨rfl, v2, r2, e2⟩
  have HR2 : Hid (Wr u2 wb v2 _) := r2
  have HE2 : Hid (We w u2 wb v v2) := HE1.out.trans e2
  have HX2 : Hid (Bx u2 w.heap.size _ wb v2) := HX1.out.we e2
  obtain ⟨y0, y1, y2, _, _⟩ := HX2.out
  dsimp only at y0 y1 y2
  clear r2 e2
  go_wp2_with fail
  refine bodyPost_ret (v := .tuple #[]) (by simp [results, Tryz.results129, go_sem]) rfl ?_
  refine ⟨rfl, v2, ?_, HE2.out⟩
  unfold encI32
  rw [Int.toNat_natCast]
  simpa using HR2.out
set_option maxHeartbeats 8000000 in
theorem ins_i_33 (h : Wr w wb v l) (x y : Int) (tv : Value) (hx : 0 ≤ x ∧ x < 4294967296) (hsm : l.length ≤ 90000) :
    Calls Tryz.prog 129 #[.pointer (some ⟨wb, 0, none⟩), .agg #[.int .u8 (33 : Nat), .int .u32 x, .int .u64 y], tv] w (Wq w wb v (l ++ (33 :: encI32 x))) := by
  have lx : (uLeb x.toNat).length ≤ 5 := uLeb_le 4 _ (by simp; omega)
  obtain ⟨a, rfl⟩ : ∃ a : Nat, x = a := ⟨x.toNat, by omega⟩
  rw [Int.toNat_natCast] at lx
  have hk0 : Kp (fun _ => False) w (w.alloc (.cells #[.int .u8 (33 : Nat), .int .u32 a, .int .u64 y] 129)) := (Kp.refl _ _).alloc _
  have hb1 := (h.quiet hk0).byte (by omega) (33 : Nat)
  have HX : Hid (Bx (w.alloc (.cells #[.int .u8 (33 : Nat), .int .u32 a, .int .u64 y] 129)) w.heap.size ⟨(33 : Nat), a, y⟩ wb v) := Bx.new h (33 : Nat) a y
  obtain ⟨x0, x1, x2, _, _⟩ := HX.out
  dsimp only at x0 x1 x2
  have HK0 : Hid (Kp (fun _ => False) w (w.alloc (.cells #[.int .u8 (33 : Nat), .int .u32 a, .int .u64 y] 129))) := hk0
  clear h hk0
  rw [World.size_alloc] at hb1
  go_enter Tryz.func129, Tryz.ntmps129
  go_wp2_with fail
  refine hb1.mono ?_
  rintro en u1 ⟨rfl, v1, r1, e1⟩
  have HR1 : Hid (Wr u1 wb v1 (l ++ [(33 : Nat)])) := r1
  have HE1 : Hid (We w u1 wb v v1) := We.before HK0.out e1
  have HX1 : Hid (Bx u1 w.heap.size ⟨(33 : Nat), a, y⟩ wb v1) := HX.out.we e1
  obtain ⟨y0, y1, y2, _, _⟩ := HX1.out
  dsimp only at y0 y1 y2
  clear r1 e1 hb1 HX x0 x1 x2
  go_wp2_with fail
  refine (wu_calls HR1.out a (by omega) (by rw [List.length_append]; simp; omega)).mono ?_
  rintro en u2 ⟨rfl, v2, r2, e2⟩
  have HR2 : Hid (Wr u2 wb v2 _) := r2
  have HE2 : Hid (We w u2 wb v v2) := HE1.out.trans e2
  have HX2 : Hid (Bx u2 w.heap.size _ wb v2) := HX1.out.we e2
  obtain ⟨y0, y1, y2, _, _⟩ := HX2.out
  dsimp only at y0 y1 y2
  clear r2 e2
  go_wp2_with fail
  refine bodyPost_ret (v := .tuple #[]) (by simp [results, Tryz.results129, go_sem]) rfl ?_
  refine ⟨rfl, v2, ?_, HE2.out⟩
  unfold encI32
  rw [Int.toNat_natCast]
  simpa using HR2.out
set_option maxHeartbeats 8000000 in
theorem ins_i_34 (h : Wr w wb v l) (x y : Int) (tv : Value) (hx : 0 ≤ x ∧ x < 4294967296) (hsm : l.length ≤ 90000) :
    Calls Tryz.prog 129 #[.pointer (some ⟨wb, 0, none⟩), .agg #[.int .u8 (34 : Nat), .int .u32 x, .int .u64 y], tv] w (Wq w wb v (l ++ (34 :: encI32 x))) := by
  have lx : (uLeb x.toNat).length ≤ 5 := uLeb_le 4 _ (by simp; omega)
  obtain ⟨a, rfl⟩ : ∃ a : Nat, x = a := ⟨x.toNat, by omega⟩
  rw [Int.toNat_natCast] at lx
  have hk0 : Kp (fun _ => False) w (w.alloc (.cells #[.int .u8 (34 : Nat), .int .u32 a, .int .u64 y] 129)) := (Kp.refl _ _).alloc _
  have hb1 := (h.quiet hk0).byte (by omega) (34 : Nat)
  have HX : Hid (Bx (w.alloc (.cells #[.int .u8 (34 : Nat), .int .u32 a, .int .u64 y] 129)) w.heap.size ⟨(34 : Nat), a, y⟩ wb v) := Bx.new h (34 : Nat) a y
  obtain ⟨x0, x1, x2, _, _⟩ := HX.out
  dsimp only at x0 x1 x2
  have HK0 : Hid (Kp (fun _ => False) w (w.alloc (.cells #[.int .u8 (34 : Nat), .int .u32 a, .int .u64 y] 129))) := hk0
  clear h hk0
  rw [World.size_alloc] at hb1
  go_enter Tryz.func129, Tryz.ntmps129
  go_wp2_with fail
  refine hb1.mono ?_
  rintro en u1 ⟨rfl, v1, r1, e1⟩
  have HR1 : Hid (Wr u1 wb v1 (l ++ [(34 : Nat)])) := r1
  have HE1 : Hid (We w u1 wb v v1) := We.before HK0.out e1
  have HX1 : Hid (Bx u1 w.heap.size ⟨(34 : Nat), a, y⟩ wb v1) := HX.out.we e1
  obtain ⟨y0, y1, y2, _, _⟩ := HX1.out
  dsimp only at y0 y1 y2
  clear r1 e1 hb1 HX x0 x1 x2
  go_wp2_with fail
  refine (wu_calls HR1.out a (by omega) (by rw [List.length_append]; simp; omega)).mono ?_
  rintro en u2 ⟨rfl, v2, r2, e2⟩
  have HR2 : Hid (Wr u2 wb v2 _) := r2
  have HE2 : Hid (We w u2 wb v v2) := HE1.out.trans e2
  have HX2 : Hid (Bx u2 w.heap.size _ wb v2) := HX1.out.we e2
  obtain ⟨y0, y1, y2, _, _⟩ := HX2.out
  dsimp only at y0 y1 y2
  clear r2 e2
  go_wp2_with fail
  refine bodyPost_ret (v := .tuple #[]) (by simp [results, Tryz.results129, go_sem]) rfl ?_
  refine ⟨rfl, v2, ?_, HE2.out⟩
  unfold encI32
  rw [Int.toNat_natCast]
  simpa using HR2.out
set_option maxHeartbeats 8000000 in
theorem ins_i_35 (h : Wr w wb v l) (x y : Int) (tv : Value) (hx : 0 ≤ x ∧ x < 4294967296) (hsm : l.length ≤ 90000) :
    Calls Tryz.prog 129 #[.pointer (some ⟨wb, 0, none⟩), .agg #[.int .u8 (35 : Nat), .int .u32 x, .int .u64 y], tv] w (Wq w wb v (l ++ (35 :: encI32 x))) := by
  have lx : (uLeb x.toNat).length ≤ 5 := uLeb_le 4 _ (by simp; omega)
  obtain ⟨a, rfl⟩ : ∃ a : Nat, x = a := ⟨x.toNat, by omega⟩
  rw [Int.toNat_natCast] at lx
  have hk0 : Kp (fun _ => False) w (w.alloc (.cells #[.int .u8 (35 : Nat), .int .u32 a, .int .u64 y] 129)) := (Kp.refl _ _).alloc _
  have hb1 := (h.quiet hk0).byte (by omega) (35 : Nat)
  have HX : Hid (Bx (w.alloc (.cells #[.int .u8 (35 : Nat), .int .u32 a, .int .u64 y] 129)) w.heap.size ⟨(35 : Nat), a, y⟩ wb v) := Bx.new h (35 : Nat) a y
  obtain ⟨x0, x1, x2, _, _⟩ := HX.out
  dsimp only at x0 x1 x2
  have HK0 : Hid (Kp (fun _ => False) w (w.alloc (.cells #[.int .u8 (35 : Nat), .int .u32 a, .int .u64 y] 129))) := hk0
  clear h hk0
  rw [World.size_alloc] at hb1
  go_enter Tryz.func129, Tryz.ntmps129
  go_wp2_with fail
  refine hb1.mono ?_
  rintro en u1 ⟨rfl, v1, r1, e1⟩
  have HR1 : Hid (Wr u1 wb v1 (l ++ [(35 : Nat)])) := r1
  have HE1 : Hid (We w u1 wb v v1) := We.before HK0.out e1
  have HX1 : Hid (Bx u1 w.heap.size ⟨(35 : Nat), a, y⟩ wb v1) := HX.out.we e1
  obtain ⟨y0, y1, y2, _, _⟩ := HX1.out
  dsimp only at y0 y1 y2
  clear r1 e1 hb1 HX x0 x1 x2
  go_wp2_with fail
  refine (wu_calls HR1.out a (by omega) (by rw [List.length_append]; simp; omega)).mono ?_
  rintro en u2 ⟨rfl, v2, r2, e2⟩
  have HR2 : Hid (Wr u2 wb v2 _) := r2
  have HE2 : Hid (We w u2 wb v v2) := HE1.out.trans e2
  have HX2 : Hid (Bx u2 w.heap.size _ wb v2) := HX1.out.we e2
  obtain ⟨y0, y1, y2, _, _⟩ := HX2.out
  dsimp only at y0 y1 y2
  clear r2 e2
  go_wp2_with fail
  refine bodyPost_ret (v := .tuple #[]) (by simp [results, Tryz.results129, go_sem]) rfl ?_
  refine ⟨rfl, v2, ?_, HE2.out⟩
  unfold encI32
  rw [Int.toNat_natCast]
  simpa using HR2.out
set_option maxHeartbeats 8000000 in
theorem ins_i_36 (h : Wr w wb v l) (x y : Int) (tv : Value) (hx : 0 ≤ x ∧ x < 4294967296) (hsm : l.length ≤ 90000) :
    Calls Tryz.prog 129 #[.pointer (some ⟨wb, 0, none⟩), .agg #[.int .u8 (36 : Nat), .int .u32 x, .int .u64 y], tv] w (Wq w wb v (l ++ (36 :: encI32 x))) := by
  have lx : (uLeb x.toNat).length ≤ 5 := uLeb_le 4 _ (by simp; omega)
  obtain ⟨a, rfl⟩ : ∃ a : Nat, x = a := ⟨x.toNat, by omega⟩
  rw [Int.toNat_natCast] at lx
  have hk0 : Kp (fun _ => False) w (w.alloc (.cells #[.int .u8 (36 : Nat), .int .u32 a, .int .u64 y] 129)) := (Kp.refl _ _).alloc _
  have hb1 := (h.quiet hk0).byte (by omega) (36 : Nat)
  have HX : Hid (Bx (w.alloc (.cells #[.int .u8 (36 : Nat), .int .u32 a, .int .u64 y] 129)) w.heap.size ⟨(36 : Nat), a, y⟩ wb v) := Bx.new h (36 : Nat) a y
  obtain ⟨x0, x1, x2, _, _⟩ := HX.out
  dsimp only at x0 x1 x2
  have HK0 : Hid (Kp (fun _ => False) w (w.alloc (.cells #[.int .u8 (36 : Nat), .int .u32 a, .int .u64 y] 129))) := hk0
  clear h hk0
  rw [World.size_alloc] at hb1
  go_enter Tryz.func129, Tryz.ntmps129
  go_wp2_with fail
  refine hb1.mono ?_
  rintro en u1 ⟨rfl, v1, r1, e1⟩
  have HR1 : Hid (Wr u1 wb v1 (l ++ [(36 : Nat)])) := r1
  have HE1 : Hid (We w u1 wb v v1) := We.before HK0.out e1
  have HX1 : Hid (Bx u1 w.heap.size ⟨(36 : Nat), a, y⟩ wb v1) := HX.out.we e1
  obtain ⟨y0, y1, y2, _, _⟩ := HX1.out
  dsimp only at y0 y1 y2
  clear r1 e1 hb1 HX x0 x1 x2
  go_wp2_with fail
  refine (wu_calls HR1.out a (by omega) (by rw [List.length_append]; simp; omega)).mono ?_
  rintro en u2 ⟨rfl, v2, r2, e2⟩
  have HR2 : Hid (Wr u2 wb v2 _) := r2
  have HE2 : Hid (We w u2 wb v v2) := HE1.out.trans e2
  have HX2 : Hid (Bx u2 w.heap.size _ wb v2) := HX1.out.we e2
  obtain ⟨y0, y1, y2, _, _⟩ := HX2.out
  dsimp only at y0 y1 y2
  clear r2 e2
  go_wp2_with fail
  refine bodyPost_ret (v := .tuple #[]) (by simp [results, Tryz.results129, go_sem]) rfl ?_
  refine ⟨rfl, v2, ?_, HE2.out⟩
  unfold encI32
  rw [Int.toNat_natCast]
  simpa using HR2.out
set_option maxHeartbeats 8000000 in
theorem ins_c_17 (h : Wr w wb v l) (x y : Int) (tv : Value) (hx : 0 ≤ x ∧ x < 4294967296) (hsm : l.length ≤ 90000) :
    Calls Tryz.prog 129 #[.pointer (some ⟨wb, 0, none⟩), .agg #[.int .u8 (17 : Nat), .int .u32 x, .int .u64 y], tv] w (Wq w wb v (l ++ (17 :: (encI32 x ++ [0])))) := by
  have lx : (uLeb x.toNat).length ≤ 5 := uLeb_le 4 _ (by simp; omega)
  obtain ⟨a, rfl⟩ : ∃ a : Nat, x = a := ⟨x.toNat, by omega⟩
  rw [Int.toNat_natCast] at lx
  have hk0 : Kp (fun _ => False) w (w.alloc (.cells #[.int .u8 (17 : Nat), .int .u32 a, .int .u64 y] 129)) := (Kp.refl _ _).alloc _
  have hb1 := (h.quiet hk0).byte (by omega) (17 : Nat)
  have HX : Hid (Bx (w.alloc (.cells #[.int .u8 (17 : Nat), .int .u32 a, .int .u64 y] 129)) w.heap.size ⟨(17 : Nat), a, y⟩ wb v) := Bx.new h (17 : Nat) a y
  obtain ⟨x0, x1, x2, _, _⟩ := HX.out
  dsimp only at x0 x1 x2
  have HK0 : Hid (Kp (fun _ => False) w (w.alloc (.cells #[.int .u8 (17 : Nat), .int .u32 a, .int .u64 y] 129))) := hk0
  clear h hk0
  rw [World.size_alloc] at hb1
  go_enter Tryz.func129, Tryz.ntmps129
  go_wp2_with fail
  refine hb1.mono ?_
  rintro en u1 ⟨rfl, v1, r1, e1⟩
  have HR1 : Hid (Wr u1 wb v1 (l ++ [(17 : Nat)])) := r1
  have HE1 : Hid (We w u1 wb v v1) := We.before HK0.out e1
  have HX1 : Hid (Bx u1 w.heap.size ⟨(17 : Nat), a, y⟩ wb v1) := HX.out.we e1
  obtain ⟨y0, y1, y2, _, _⟩ := HX1.out
  dsimp only at y0 y1 y2
  clear r1 e1 hb1 HX x0 x1 x2
  go_wp2_with fail
  refine (wu_calls HR1.out a (by omega) (by rw [List.length_append]; simp; omega)).mono ?_
  rintro en u2 ⟨rfl, v2, r2, e2⟩
  have HR2 : Hid (Wr u2 wb v2 _) := r2
  have HE2 : Hid (We w u2 wb v v2) := HE1.out.trans e2
  have HX2 : Hid (Bx u2 w.heap.size _ wb v2) := HX1.out.we e2
  obtain ⟨y0, y1, y2, _, _⟩ := HX2.out
  dsimp only at y0 y1 y2
  clear r2 e2
  go_wp2_with fail
  refine (HR2.out.byte (by rw [List.length_append, List.length_append]; simp; omega) 0).mono ?_
  rintro en u3 ⟨rfl, v3, r3, e3⟩
  have HR3 : Hid (Wr u3 wb v3 _) := r3
  have HE3 : Hid (We w u3 wb v v3) := HE2.out.trans e3
  have HX3 : Hid (Bx u3 w.heap.size _ wb v3) := HX2.out.we e3
  obtain ⟨y0, y1, y2, _, _⟩ := HX3.out
  dsimp only at y0 y1 y2
  clear r3 e3
  go_wp2_with fail
  refine bodyPost_ret (v := .tuple #[]) (by simp [results, Tryz.results129, go_sem]) rfl ?_
  refine ⟨rfl, v3, ?_, HE3.out⟩
  unfold encI32
  rw [Int.toNat_natCast]
  simpa using HR3.out
set_option maxHeartbeats 8000000 in
theorem ins_z_63 (h : Wr w wb v l) (x y : Int) (tv : Value)  (hsm : l.length ≤ 90000) :
    Calls Tryz.prog 129 #[.pointer (some ⟨wb, 0, none⟩), .agg #[.int .u8 (63 : Nat), .int .u32 x, .int .u64 y], tv] w (Wq w wb v (l ++ (63 :: [0]))) := by
  have hk0 : Kp (fun _ => False) w (w.alloc (.cells #[.int .u8 (63 : Nat), .int .u32 x, .int .u64 y] 129)) := (Kp.refl _ _).alloc _
  have hb1 := (h.quiet hk0).byte (by omega) (63 : Nat)
  have HX : Hid (Bx (w.alloc (.cells #[.int .u8 (63 : Nat), .int .u32 x, .int .u64 y] 129)) w.heap.size ⟨(63 : Nat), x, y⟩ wb v) := Bx.new h (63 : Nat) x y
  obtain ⟨x0, x1, x2, _, _⟩ := HX.out
  dsimp only at x0 x1 x2
  have HK0 : Hid (Kp (fun _ => False) w (w.alloc (.cells #[.int .u8 (63 : Nat), .int .u32 x, .int .u64 y] 129))) := hk0
  clear h hk0
  rw [World.size_alloc] at hb1
  go_enter Tryz.func129, Tryz.ntmps129
  go_wp2_with fail
  refine hb1.mono ?_
  rintro en u1 ⟨rfl, v1, r1, e1⟩
  have HR1 : Hid (Wr u1 wb v1 (l ++ [(63 : Nat)])) := r1
  have HE1 : Hid (We w u1 wb v v1) := We.before HK0.out e1
  have HX1 : Hid (Bx u1 w.heap.size ⟨(63 : Nat), x, y⟩ wb v1) := HX.out.we e1
  obtain ⟨y0, y1, y2, _, _⟩ := HX1.out
  dsimp only at y0 y1 y2
  clear r1 e1 hb1 HX x0 x1 x2
  go_wp2_with fail
  refine (HR1.out.byte (by rw [List.length_append]; simp; omega) 0).mono ?_
  rintro en u2 ⟨rfl, v2, r2, e2⟩
  have HR2 : Hid (Wr u2 wb v2 _) := r2
  have HE2 : Hid (We w u2 wb v v2) := HE1.out.trans e2
  have HX2 : Hid (Bx u2 w.heap.size _ wb v2) := HX1.out.we e2
  obtain ⟨y0, y1, y2, _, _⟩ := HX2.out
  dsimp only at y0 y1 y2
  clear r2 e2
  go_wp2_with fail
  refine bodyPost_ret (v := .tuple #[]) (by simp [results, Tryz.results129, go_sem]) rfl ?_
  refine ⟨rfl, v2, ?_, HE2.out⟩
  simpa using HR2.out
set_option maxHeartbeats 8000000 in
theorem ins_z_64 (h : Wr w wb v l) (x y : Int) (tv : Value)  (hsm : l.length ≤ 90000) :
    Calls Tryz.prog 129 #[.pointer (some ⟨wb, 0, none⟩), .agg #[.int .u8 (64 : Nat), .int .u32 x, .int .u64 y], tv] w (Wq w wb v (l ++ (64 :: [0]))) := by
  have hk0 : Kp (fun _ => False) w (w.alloc (.cells #[.int .u8 (64 : Nat), .int .u32 x, .int .u64 y] 129)) := (Kp.refl _ _).alloc _
  have hb1 := (h.quiet hk0).byte (by omega) (64 : Nat)
  have HX : Hid (Bx (w.alloc (.cells #[.int .u8 (64 : Nat), .int .u32 x, .int .u64 y] 129)) w.heap.size ⟨(64 : Nat), x, y⟩ wb v) := Bx.new h (64 : Nat) x y
  obtain ⟨x0, x1, x2, _, _⟩ := HX.out
  dsimp only at x0 x1 x2
  have HK0 : Hid (Kp (fun _ => False) w (w.alloc (.cells #[.int .u8 (64 : Nat), .int .u32 x, .int .u64 y] 129))) := hk0
  clear h hk0
  rw [World.size_alloc] at hb1
  go_enter Tryz.func129, Tryz.ntmps129
  go_wp2_with fail
  refine hb1.mono ?_
  rintro en u1 ⟨rfl, v1, r1, e1⟩
  have HR1 : Hid (Wr u1 wb v1 (l ++ [(64 : Nat)])) := r1
  have HE1 : Hid (We w u1 wb v v1) := We.before HK0.out e1
  have HX1 : Hid (Bx u1 w.heap.size ⟨(64 : Nat), x, y⟩ wb v1) := HX.out.we e1
  obtain ⟨y0, y1, y2, _, _⟩ := HX1.out
  dsimp only at y0 y1 y2
  clear r1 e1 hb1 HX x0 x1 x2
  go_wp2_with fail
  refine (HR1.out.byte (by rw [List.length_append]; simp; omega) 0).mono ?_
  rintro en u2 ⟨rfl, v2, r2, e2⟩
  have HR2 : Hid (Wr u2 wb v2 _) := r2
  have HE2 : Hid (We w u2 wb v v2) := HE1.out.trans e2
  have HX2 : Hid (Bx u2 w.heap.size _ wb v2) := HX1.out.we e2
  obtain ⟨y0, y1, y2, _, _⟩ := HX2.out
  dsimp only at y0 y1 y2
  clear r2 e2
  go_wp2_with fail
  refine bodyPost_ret (v := .tuple #[]) (by simp [results, Tryz.results129, go_sem]) rfl ?_
  refine ⟨rfl, v2, ?_, HE2.out⟩
  simpa using HR2.out
set_option maxHeartbeats 8000000 in
theorem ins_w_67 (h : Wr w wb v l) (x y : Int) (tv : Value) (hy : 0 ≤ y ∧ y < 18446744073709551616) (hsm : l.length ≤ 90000) :
    Calls Tryz.prog 129 #[.pointer (some ⟨wb, 0, none⟩), .agg #[.int .u8 (67 : Nat), .int .u32 x, .int .u64 y], tv] w (Wq w wb v (l ++ (67 :: little 4 y))) := by
  obtain ⟨b, rfl⟩ : ∃ b : Nat, y = b := ⟨y.toNat, by omega⟩
  have hk0 : Kp (fun _ => False) w (w.alloc (.cells #[.int .u8 (67 : Nat), .int .u32 x, .int .u64 b] 129)) := (Kp.refl _ _).alloc _
  have hb1 := (h.quiet hk0).byte (by omega) (67 : Nat)
  have HX : Hid (Bx (w.alloc (.cells #[.int .u8 (67 : Nat), .int .u32 x, .int .u64 b] 129)) w.heap.size ⟨(67 : Nat), x, b⟩ wb v) := Bx.new h (67 : Nat) x b
  obtain ⟨x0, x1, x2, _, _⟩ := HX.out
  dsimp only at x0 x1 x2
  have HK0 : Hid (Kp (fun _ => False) w (w.alloc (.cells #[.int .u8 (67 : Nat), .int .u32 x, .int .u64 b] 129))) := hk0
  clear h hk0
  rw [World.size_alloc] at hb1
  go_enter Tryz.func129, Tryz.ntmps129
  go_wp2_with fail
  refine hb1.mono ?_
  rintro en u1 ⟨rfl, v1, r1, e1⟩
  have HR1 : Hid (Wr u1 wb v1 (l ++ [(67 : Nat)])) := r1
  have HE1 : Hid (We w u1 wb v v1) := We.before HK0.out e1
  have HX1 : Hid (Bx u1 w.heap.size ⟨(67 : Nat), x, b⟩ wb v1) := HX.out.we e1
  obtain ⟨y0, y1, y2, _, _⟩ := HX1.out
  dsimp only at y0 y1 y2
  clear r1 e1 hb1 HX x0 x1 x2
  go_wp2_with fail
  refine (wlittle_calls HR1.out 4 b (by decide) (by omega) (by rw [List.length_append]; simp; omega)).mono ?_
  rintro en u2 ⟨rfl, v2, r2, e2⟩
  have HR2 : Hid (Wr u2 wb v2 _) := r2
  have HE2 : Hid (We w u2 wb v v2) := HE1.out.trans e2
  have HX2 : Hid (Bx u2 w.heap.size _ wb v2) := HX1.out.we e2
  obtain ⟨y0, y1, y2, _, _⟩ := HX2.out
  dsimp only at y0 y1 y2
  clear r2 e2
  go_wp2_with fail
  refine bodyPost_ret (v := .tuple #[]) (by simp [results, Tryz.results129, go_sem]) rfl ?_
  refine ⟨rfl, v2, ?_, HE2.out⟩
  simpa using HR2.out
set_option maxHeartbeats 8000000 in
theorem ins_w_68 (h : Wr w wb v l) (x y : Int) (tv : Value) (hy : 0 ≤ y ∧ y < 18446744073709551616) (hsm : l.length ≤ 90000) :
    Calls Tryz.prog 129 #[.pointer (some ⟨wb, 0, none⟩), .agg #[.int .u8 (68 : Nat), .int .u32 x, .int .u64 y], tv] w (Wq w wb v (l ++ (68 :: little 8 y))) := by
  obtain ⟨b, rfl⟩ : ∃ b : Nat, y = b := ⟨y.toNat, by omega⟩
  have hk0 : Kp (fun _ => False) w (w.alloc (.cells #[.int .u8 (68 : Nat), .int .u32 x, .int .u64 b] 129)) := (Kp.refl _ _).alloc _
  have hb1 := (h.quiet hk0).byte (by omega) (68 : Nat)
  have HX : Hid (Bx (w.alloc (.cells #[.int .u8 (68 : Nat), .int .u32 x, .int .u64 b] 129)) w.heap.size ⟨(68 : Nat), x, b⟩ wb v) := Bx.new h (68 : Nat) x b
  obtain ⟨x0, x1, x2, _, _⟩ := HX.out
  dsimp only at x0 x1 x2
  have HK0 : Hid (Kp (fun _ => False) w (w.alloc (.cells #[.int .u8 (68 : Nat), .int .u32 x, .int .u64 b] 129))) := hk0
  clear h hk0
  rw [World.size_alloc] at hb1
  go_enter Tryz.func129, Tryz.ntmps129
  go_wp2_with fail
  refine hb1.mono ?_
  rintro en u1 ⟨rfl, v1, r1, e1⟩
  have HR1 : Hid (Wr u1 wb v1 (l ++ [(68 : Nat)])) := r1
  have HE1 : Hid (We w u1 wb v v1) := We.before HK0.out e1
  have HX1 : Hid (Bx u1 w.heap.size ⟨(68 : Nat), x, b⟩ wb v1) := HX.out.we e1
  obtain ⟨y0, y1, y2, _, _⟩ := HX1.out
  dsimp only at y0 y1 y2
  clear r1 e1 hb1 HX x0 x1 x2
  go_wp2_with fail
  refine (wlittle_calls HR1.out 8 b (by decide) (by omega) (by rw [List.length_append]; simp; omega)).mono ?_
  rintro en u2 ⟨rfl, v2, r2, e2⟩
  have HR2 : Hid (Wr u2 wb v2 _) := r2
  have HE2 : Hid (We w u2 wb v v2) := HE1.out.trans e2
  have HX2 : Hid (Bx u2 w.heap.size _ wb v2) := HX1.out.we e2
  obtain ⟨y0, y1, y2, _, _⟩ := HX2.out
  dsimp only at y0 y1 y2
  clear r2 e2
  go_wp2_with fail
  refine bodyPost_ret (v := .tuple #[]) (by simp [results, Tryz.results129, go_sem]) rfl ?_
  refine ⟨rfl, v2, ?_, HE2.out⟩
  simpa using HR2.out
end
end Go.Proofs.Qxb6500275aGreatDoor
