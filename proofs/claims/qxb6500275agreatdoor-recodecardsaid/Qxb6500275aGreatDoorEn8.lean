import Derived.Test.Qxb6500275aGreatDoorEn7
set_option maxRecDepth 100000
set_option linter.unusedVariables false
set_option linter.unusedSimpArgs false
namespace Go.Proofs.Qxb6500275aGreatDoor
open Go Go.RowKit
theorem sg32_eq (b : Nat) : wrap64 (wrap32 ((b : Int) % 4294967296)) = sg32 b := by
  unfold wrap64 wrap32 sg32
  split <;> omega
section
variable {w : World} {wb : Nat} {v : Value} {l : List Nat}
set_option maxHeartbeats 8000000 in
theorem ins_k_65 (h : Wr w wb v l) (x y : Int) (tv : Value) (hy : 0 ≤ y ∧ y < 18446744073709551616) (hsm : l.length ≤ 90000) :
    Calls Tryz.prog 129 #[.pointer (some ⟨wb, 0, none⟩), .agg #[.int .u8 (65 : Nat), .int .u32 x, .int .u64 y], tv] w (Wq w wb v (l ++ (65 :: sLeb (sg32 y)))) := by
  obtain ⟨b, rfl⟩ : ∃ b : Nat, y = b := ⟨y.toNat, by omega⟩
  have hk0 : Kp (fun _ => False) w (w.alloc (.cells #[.int .u8 (65 : Nat), .int .u32 x, .int .u64 b] 129)) := (Kp.refl _ _).alloc _
  have hb1 := (h.quiet hk0).byte (by omega) (65 : Nat)
  have HX : Hid (Bx (w.alloc (.cells #[.int .u8 (65 : Nat), .int .u32 x, .int .u64 b] 129)) w.heap.size ⟨(65 : Nat), x, b⟩ wb v) := Bx.new h (65 : Nat) x b
  obtain ⟨x0, x1, x2, _, _⟩ := HX.out
  dsimp only at x0 x1 x2
  have HK0 : Hid (Kp (fun _ => False) w (w.alloc (.cells #[.int .u8 (65 : Nat), .int .u32 x, .int .u64 b] 129))) := hk0
  clear h hk0
  rw [World.size_alloc] at hb1
  go_enter Tryz.func129, Tryz.ntmps129
  go_wp2_with fail
  refine hb1.mono ?_
  rintro en u1 ⟨rfl, v1, r1, e1⟩
  have HR1 : Hid (Wr u1 wb v1 (l ++ [(65 : Nat)])) := r1
  have HE1 : Hid (We w u1 wb v v1) := We.before HK0.out e1
  have HX1 : Hid (Bx u1 w.heap.size ⟨(65 : Nat), x, b⟩ wb v1) := HX.out.we e1
  obtain ⟨y0, y1, y2, _, _⟩ := HX1.out
  dsimp only at y0 y1 y2
  clear r1 e1 hb1 HX x0 x1 x2
  go_wp2_with fail
  obtain ⟨z, hz⟩ : ∃ z : Int, wrap64 (wrap32 ((b : Int) % 4294967296)) = z := ⟨_, rfl⟩
  have hzr : -9223372036854775808 ≤ z ∧ z < 9223372036854775808 := by
    rw [← hz]
    unfold wrap64; omega
  have HZ : Hid (wrap64 (wrap32 ((b : Int) % 4294967296)) = z) := hz
  rw [hz]
  clear hz
  refine (ws_calls HR1.out z hzr (by rw [List.length_append]; simp; omega)).mono ?_
  rintro en u2 ⟨rfl, v2, r2, e2⟩
  have HR2 : Hid (Wr u2 wb v2 _) := r2
  have HE2 : Hid (We w u2 wb v v2) := HE1.out.trans e2
  clear r2 e2
  go_wp2_with fail
  refine bodyPost_ret (v := .tuple #[]) (by simp [results, Tryz.results129, go_sem]) rfl ?_
  refine ⟨rfl, v2, ?_, HE2.out⟩
  have h2 := HR2.out
  rw [← HZ.out] at h2
  rw [sg32_eq] at h2
  simpa using h2
set_option maxHeartbeats 8000000 in
theorem ins_k_66 (h : Wr w wb v l) (x y : Int) (tv : Value) (hy : 0 ≤ y ∧ y < 18446744073709551616) (hsm : l.length ≤ 90000) :
    Calls Tryz.prog 129 #[.pointer (some ⟨wb, 0, none⟩), .agg #[.int .u8 (66 : Nat), .int .u32 x, .int .u64 y], tv] w (Wq w wb v (l ++ (66 :: sLeb (wrap64 y)))) := by
  obtain ⟨b, rfl⟩ : ∃ b : Nat, y = b := ⟨y.toNat, by omega⟩
  have hk0 : Kp (fun _ => False) w (w.alloc (.cells #[.int .u8 (66 : Nat), .int .u32 x, .int .u64 b] 129)) := (Kp.refl _ _).alloc _
  have hb1 := (h.quiet hk0).byte (by omega) (66 : Nat)
  have HX : Hid (Bx (w.alloc (.cells #[.int .u8 (66 : Nat), .int .u32 x, .int .u64 b] 129)) w.heap.size ⟨(66 : Nat), x, b⟩ wb v) := Bx.new h (66 : Nat) x b
  obtain ⟨x0, x1, x2, _, _⟩ := HX.out
  dsimp only at x0 x1 x2
  have HK0 : Hid (Kp (fun _ => False) w (w.alloc (.cells #[.int .u8 (66 : Nat), .int .u32 x, .int .u64 b] 129))) := hk0
  clear h hk0
  rw [World.size_alloc] at hb1
  go_enter Tryz.func129, Tryz.ntmps129
  go_wp2_with fail
  refine hb1.mono ?_
  rintro en u1 ⟨rfl, v1, r1, e1⟩
  have HR1 : Hid (Wr u1 wb v1 (l ++ [(66 : Nat)])) := r1
  have HE1 : Hid (We w u1 wb v v1) := We.before HK0.out e1
  have HX1 : Hid (Bx u1 w.heap.size ⟨(66 : Nat), x, b⟩ wb v1) := HX.out.we e1
  obtain ⟨y0, y1, y2, _, _⟩ := HX1.out
  dsimp only at y0 y1 y2
  clear r1 e1 hb1 HX x0 x1 x2
  go_wp2_with fail
  obtain ⟨z, hz⟩ : ∃ z : Int, wrap64 (b : Int) = z := ⟨_, rfl⟩
  have hzr : -9223372036854775808 ≤ z ∧ z < 9223372036854775808 := by
    rw [← hz]
    unfold wrap64; omega
  have HZ : Hid (wrap64 (b : Int) = z) := hz
  rw [hz]
  clear hz
  refine (ws_calls HR1.out z hzr (by rw [List.length_append]; simp; omega)).mono ?_
  rintro en u2 ⟨rfl, v2, r2, e2⟩
  have HR2 : Hid (Wr u2 wb v2 _) := r2
  have HE2 : Hid (We w u2 wb v v2) := HE1.out.trans e2
  clear r2 e2
  go_wp2_with fail
  refine bodyPost_ret (v := .tuple #[]) (by simp [results, Tryz.results129, go_sem]) rfl ?_
  refine ⟨rfl, v2, ?_, HE2.out⟩
  have h2 := HR2.out
  rw [← HZ.out] at h2
  simpa using h2
/- a branch table: its labels lie among the function's -/
theorem tab_cell {u : World} {n0 : Nat} {a : Option Addr} {T : List Int} {n : Nat} (h : TabAt u n0 (.slice a n n) T) (hn : T.length = n) {j : Nat} {x : Int} (hx : T[j]? = some x) : ∃ kb, a = some ⟨kb, 0, none⟩ ∧ u.cell? ⟨kb, j, none⟩ = some (.int .u32 x) := by
  obtain ⟨G, ⟨a', h1, h2, h3⟩, h4⟩ := h
  have hj := (List.getElem?_eq_some_iff.1 hx).1
  simp only [Value.slice.injEq] at h1
  obtain ⟨rfl, _, _⟩ := h1
  obtain ⟨kb, _, h5, h6⟩ := h3 (by omega)
  refine ⟨kb, h5, ?_⟩
  have h7 := h6.cell (i := j) (by omega)
  have h8 : G (j * 1 + 0) = .int .u32 x := h4 j x hx
  rw [Nat.mul_one, Nat.add_zero] at h8
  rw [h7, h8]
theorem tab_slice {u : World} {n0 : Nat} {tv : Value} {T : List Int} (h : TabAt u n0 tv T) : ∃ a, tv = .slice a T.length T.length := by
  obtain ⟨G, ⟨a, h1, _⟩, _⟩ := h
  exact ⟨a, h1⟩
theorem labs_len {T : List Int} (hr : ∀ t ∈ T, u32R t) : (T.flatMap encI32).length ≤ 5 * T.length := by
  induction T with
  | nil => simp
  | cons t T ih =>
    have h1 := ih (fun x hx => hr x (List.mem_cons_of_mem _ hx))
    have h2 := hr t (List.mem_cons_self ..)
    unfold u32R at h2
    have h3 : (uLeb t.toNat).length ≤ 5 := uLeb_le 4 _ (by simp; omega)
    rw [List.flatMap_cons, List.length_append, List.length_cons]
    unfold encI32 at h1 ⊢
    omega
end
end Go.Proofs.Qxb6500275aGreatDoor
