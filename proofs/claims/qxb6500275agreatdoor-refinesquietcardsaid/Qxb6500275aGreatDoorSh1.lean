import Derived.Test.Qxb6500275aGreatDoorAp5
import Derived.Test.Qxb6500275aGreatDoorVc1
import Derived.Test.Qxb6500275aGreatDoorDec1
set_option maxRecDepth 100000
set_option linter.unusedVariables false
set_option linter.unusedSimpArgs false
namespace Go.Proofs.Qxb6500275aGreatDoor
open Go Go.RowKit
/- decimal digits -/
def decF : Nat → Nat → List UInt8
  | 0, _ => []
  | k + 1, n => if n = 0 then [] else decF k (n / 10) ++ [UInt8.ofNat (48 + n % 10)]
theorem decF_zero (k : Nat) : decF k 0 = [] := by cases k <;> simp [decF]
theorem decF_len : ∀ (k n : Nat), (decF k n).length ≤ k
  | 0, n => by simp [decF]
  | k + 1, n => by
    unfold decF
    split
    · simp
    · have := decF_len k (n / 10)
      simp
      exact this
/- the array's last cells hold L -/
structure Dg (w u : World) (b i : Nat) (L : List UInt8) : Prop where
  kp : Kp (fun _ => False) w u
  hb : w.heap.size ≤ b
  blk : ∃ D, Blk u b 20 D ∧ ∀ (j : Nat) (c : UInt8), L[j]? = some c → D (i + j) = .int .u8 (c.toNat : Int)
  len : i + L.length = 20
section
variable {w u : World} {b i : Nat} {L : List UInt8}
theorem Dg.step (h : Dg w u b (i + 1) L) (c : UInt8) : Dg w (u.setCell ⟨b, i, none⟩ (.int .u8 (c.toNat : Int))) b i (c :: L) := by
  obtain ⟨D, d1, d2⟩ := h.blk
  have hl := h.len
  refine ⟨h.kp.setCell (p := ⟨b, i, none⟩) (.inr h.hb) _, h.hb, ⟨_, d1.set (by omega) _, fun j x hx => ?_⟩, by simp; omega⟩
  cases j with
  | zero =>
    simp at hx
    subst hx
    rw [Nat.add_zero, upd_same]
  | succ j =>
    simp at hx
    rw [upd_ne _ _ (by omega), ← d2 j x hx]
    congr 1
    omega
theorem Dg.string (h : Dg w u b i L) : (convert 104 9 (.slice (some ⟨b, i, none⟩) (20 - i) (20 - i))).run Tryz.prog u = .ok (.string ⟨⟨L⟩⟩) u := by
  obtain ⟨D, d1, d2⟩ := h.blk
  have hl := h.len
  have hb := run_convert_bytes_back (P := Tryz.prog) u 104 9 5 ⟨b, i, none⟩ (20 - i) L (by kernel_rfl) (by kernel_rfl) (by kernel_rfl) (by
    intro j hj
    rw [add_non, d1.cell (by omega), d2 j L[j] (by simp [hj])])
  have e : L.length = 20 - i := by omega
  rw [e] at hb
  exact hb
end
theorem arrLen217b : Tryz.prog.arrayLen 217 = 20 := by kernel_rfl
theorem slice217b (B i : Nat) (h : i < 20) (w : World) : (Instr.sliceAt 217 (.pointer (some ⟨B, 0, none⟩)) (some (.int .i64 (i : Int))) none none).run Tryz.prog w = .ok (.slice (some ⟨B, i, none⟩) (20 - i) (20 - i)) w := by
  rw [run_sliceAt_array_l w 217 ⟨B, 0, none⟩ (by kernel_rfl) .i64 (i : Int) (by omega) (by rw [arrLen217b]; omega), sizeOfU217, arrLen217b]
  simp only [Result.andThen_ok, slicedAt, Int.toNat_natCast]
  rw [if_neg (by omega)]
  rw [add_non, Nat.mul_one, Nat.zero_add]
def Z20 : Array Value := #[.int .u8 0, .int .u8 0, .int .u8 0, .int .u8 0, .int .u8 0, .int .u8 0, .int .u8 0, .int .u8 0, .int .u8 0, .int .u8 0, .int .u8 0, .int .u8 0, .int .u8 0, .int .u8 0, .int .u8 0, .int .u8 0, .int .u8 0, .int .u8 0, .int .u8 0, .int .u8 0]
theorem Dg.new (w : World) : Dg w (w.alloc (.cells Z20 217)) w.heap.size 20 [] :=
  ⟨(Kp.refl _ _).alloc _, Nat.le_refl _, ⟨_, blk_alloc w Z20 217, fun j c h => by simp at h⟩, rfl⟩
theorem dig8 (d : Nat) (h : d < 10) : ((UInt8.ofNat (48 + d)).toNat : Int) = 48 + (d : Int) := by
  rw [UInt8.toNat_ofNat']
  omega
set_option maxHeartbeats 4000000 in
theorem itoa_pos (w : World) (n : Nat) (h0 : n ≠ 0) (h1 : n < 4294967296) : Calls Tryz.prog 71 #[.int .i64 n] w (fun en w' => en = .returned (.string ⟨⟨decF 20 n⟩⟩) ∧ Kp (fun _ => False) w w') := by
  have hz : ((n : Int) == 0) = false := by rw [beq_eq_false_iff_ne]; omega
  have hneg : decide ((n : Int) < 0) = false := decide_eq_false (by omega)
  have HN : Hid (Dg w (w.alloc (.cells Z20 217)) w.heap.size 20 []) := Dg.new w
  unfold Z20 at HN
  obtain ⟨b0, hb0⟩ : ∃ b0, w.heap.size = b0 := ⟨_, rfl⟩
  rw [hb0] at HN
  have HB0 : Hid (w.heap.size = b0) := hb0
  have hn0 : (n : Int) ≠ 0 := by omega
  clear hb0
  go_enter Tryz.func71, Tryz.ntmps71
  go_wp2_with fail
  rw [HB0.out]
  go_loopw [0, 4] (fun nn ii u => ∃ (m i : Nat) (L : List UInt8), nn = .int .i64 m ∧ ii = .int .i64 i ∧ 10 ≤ i ∧ i ≤ 20 ∧ m < 4294967296 ∧ Hid (m < 10 ^ (i - 10)) ∧ Hid (Dg w u b0 i L) ∧ Hid (decF i m ++ L = decF 20 n)) (fun nn _ _ => (intOf nn).toNat)
  case atStart => exact ⟨n, 20, [], rfl, rfl, by omega, by omega, h1, by show _ < _; simp; omega, HN.out, by show _ = _; simp⟩
  case round =>
    clear HN
    obtain ⟨m, i, L, rfl, rfl, hi1, hi2, hm2, HP, HD, HF⟩ := hrel
    by_cases hm : m = 0
    · subst hm
      have hL : L = decF 20 n := by
        have := HF.out
        rw [decF_zero] at this
        simpa using this
      have hne : L ≠ [] := by
        rw [hL]
        unfold decF
        rw [if_neg h0]
        simp
      have hl := HD.out.len
      have hi3 : i < 20 := by
        cases L with
        | nil => exact absurd rfl hne
        | cons a l => simp at hl; omega
      have hsl := slice217b b0 i hi3
      have hcv := HD.out.string
      subst hL
      clear hl hne
      go_wp2_with (simp only [hsl, hcv])
      refine bodyPost_ret (v := .string ⟨⟨decF 20 n⟩⟩) (by simp [results, Tryz.results71, go_sem]) rfl ?_
      exact ⟨rfl, HD.out.kp⟩
    · have hmz : ((m : Int) == 0) = false := by rw [beq_eq_false_iff_ne]; omega
      have hmz2 : ((m : Int) != 0) = true := by rw [bne_iff_ne]; omega
      have hmz3 : (!((m : Int) == 0)) = true := by rw [hmz]; rfl
      obtain ⟨i, rfl⟩ : ∃ k, i = k + 1 := ⟨i - 1, by omega⟩
      have hi3 : 10 ≤ i := by
        refine Nat.le_of_not_lt fun hlt => ?_
        have hp := HP.out
        have : i + 1 - 10 = 0 := by omega
        rw [this] at hp
        simp at hp
        omega
      obtain ⟨D, d1, d2⟩ := HD.out.blk
      have cd := d1.cell (i := i) (by omega)
      have zd := d1.fz (i := i) (by omega)
      have hmp : (0 : Int) < (m : Int) := by omega
      go_wp2_with fail
      refine ⟨⟨m / 10, i, UInt8.ofNat (48 + m % 10) :: L, by simp, rfl, hi3, by omega, by omega, ?_, ?_, ?_⟩, by simp [intOf]; omega⟩
      · show _ < _
        have hp := HP.out
        rw [show i + 1 - 10 = (i - 10) + 1 by omega, Nat.pow_succ] at hp
        exact Nat.div_lt_of_lt_mul (by omega)
      · have := HD.out.step (UInt8.ofNat (48 + m % 10))
        rw [dig8 (m % 10) (Nat.mod_lt _ (by decide))] at this
        exact this
      · show _ = _
        rw [← HF.out]
        conv => rhs; unfold decF
        rw [if_neg hm]
        simp
/- the pieces, spelt -/
def hxS (s : ByteArray) : ByteArray := ⟨⟨hexSB s s.size⟩⟩
def hxN (v : Int) (n : Nat) : ByteArray := ⟨⟨hexL v.toNat n⟩⟩
def itS (i : Int) : ByteArray := if i = -1 then ⟨⟨[45, 49]⟩⟩ else if i = 0 then ⟨⟨[48]⟩⟩ else ⟨⟨decF 20 i.toNat⟩⟩
def insS (i : Ins) : ByteArray := hxN i.op 2 ++ ⟨#[46]⟩ ++ hxN i.x 8 ++ ⟨#[46]⟩ ++ hxN i.y 16
theorem hxS_size (s : ByteArray) : (hxS s).size = 2 * s.size := hexSB_len s s.size (Nat.le_refl _)
theorem hxN_size (v : Int) (n : Nat) : (hxN v n).size = n := hexL_length n v.toNat
theorem itS_size (i : Int) : (itS i).size ≤ 20 := by
  unfold itS
  split
  · decide
  · split
    · decide
    · exact decF_len 20 i.toNat
theorem dot_size : (⟨#[46]⟩ : ByteArray).size = 1 := rfl
theorem sp_size : (⟨#[32]⟩ : ByteArray).size = 1 := rfl
theorem insS_size (i : Ins) : (insS i).size = 28 := by
  unfold insS
  simp only [ByteArray.size_append, hxN_size, dot_size]
theorem hxs_calls (s : ByteArray) (hs : s.size ≤ 10000) (w : World) : Calls Tryz.prog 70 #[.string s] w (fun en w' => en = .returned (.string (hxS s)) ∧ Kp (fun _ => False) w w') := hexstr_calls s hs w
theorem below_kp {w w' : World} (h : Below w.heap.size w w') : Kp (fun _ => False) w w' := ⟨h.os, h.tape, h.output, h.size, fun k hk _ => by obtain ⟨_, _, _, _, e⟩ := h; exact e k hk⟩
theorem hxn_calls (V : Int) (n : Nat) (hV : 0 ≤ V ∧ V < 18446744073709551616) (hn : 1 ≤ n ∧ n ≤ 16) (w : World) : Calls Tryz.prog 47 #[.int .u64 V, .int .i64 n] w (fun en w' => en = .returned (.string (hxN V n)) ∧ Kp (fun _ => False) w w') :=
  (hex_any V n hV hn w).mono (fun en w' ⟨h1, h2⟩ => ⟨h1, below_kp h2⟩)
theorem its_calls (i : Int) (hi : -1 ≤ i ∧ i < 4294967296) (w : World) : Calls Tryz.prog 71 #[.int .i64 i] w (fun en w' => en = .returned (.string (itS i)) ∧ Kp (fun _ => False) w w') := by
  unfold itS
  by_cases h1 : i = -1
  · subst h1
    rw [if_pos rfl]
    exact itoa_m1 w
  rw [if_neg h1]
  by_cases h2 : i = 0
  · subst h2
    rw [if_pos rfl]
    exact itoa_0 w
  rw [if_neg h2]
  obtain ⟨n, rfl⟩ : ∃ n : Nat, i = n := ⟨i.toNat, by omega⟩
  exact itoa_pos w n (by omega) (by omega)
set_option maxHeartbeats 4000000 in
theorem ishow_calls (i : Ins) (ho : i.op < 256) (hx : u32R i.x) (hy : u64R i.y) (w : World) : Calls Tryz.prog 74 #[i.val] w (fun en w' => en = .returned (.string (insS i)) ∧ Kp (fun _ => False) w w') := by
  obtain ⟨op, x, y⟩ := i
  unfold insS
  dsimp only at ho hx hy ⊢
  unfold u32R at hx
  unfold u64R at hy
  obtain ⟨x, rfl⟩ : ∃ n : Nat, x = n := ⟨x.toNat, by omega⟩
  have k0 : Kp (fun _ => False) w (w.alloc (.cells #[.int .u8 op, .int .u32 (x : Int), .int .u64 y] 129)) := (Kp.refl _ _).alloc _
  have hb := blk_alloc w #[.int .u8 op, .int .u32 (x : Int), .int .u64 y] 129
  have x0 := hb.cell (i := 0) (by simp)
  have x1 := hb.cell (i := 1) (by simp)
  have x2 := hb.cell (i := 2) (by simp)
  have hlt := lt_of_cell x0
  have s1 := hxN_size (op : Int) 2
  have s2 := hxN_size (x : Int) 8
  have s3 := hxN_size y 16
  unfold Ins.val
  have h1 := hxn_calls (op : Int) 2 (by omega) (by decide)
  have h2 := hxn_calls (x : Int) 8 (by omega) (by decide)
  have h3 := hxn_calls y 16 hy (by decide)
  generalize hxN (op : Int) 2 = A at s1 h1 ⊢
  generalize hxN (x : Int) 8 = B at s2 h2 ⊢
  generalize hxN y 16 = C at s3 h3 ⊢
  clear hb
  have q1 : ¬ 9223372036854775807 < A.size + 1 := by omega
  have q2 : ¬ 9223372036854775807 < A.size + 1 + B.size := by omega
  have q3 : ¬ 9223372036854775807 < A.size + 1 + B.size + 1 := by omega
  have q4 : ¬ 9223372036854775807 < A.size + 1 + B.size + 1 + C.size := by omega
  have HK0 : Hid _ := k0
  have HX : Hid (∀ W, Kp (fun _ => False) (w.alloc (.cells #[.int .u8 op, .int .u32 (x : Int), .int .u64 y] 129)) W → W.cell? ⟨w.heap.size, 0, none⟩ = some (.int .u8 op) ∧ W.cell? ⟨w.heap.size, 1, none⟩ = some (.int .u32 (x : Int)) ∧ W.cell? ⟨w.heap.size, 2, none⟩ = some (.int .u64 y)) := fun W hk =>
    ⟨by rw [hk.cell (p := ⟨w.heap.size, 0, none⟩) hlt (fun e => e)]; exact x0, by rw [hk.cell (p := ⟨w.heap.size, 1, none⟩) hlt (fun e => e)]; exact x1, by rw [hk.cell (p := ⟨w.heap.size, 2, none⟩) hlt (fun e => e)]; exact x2⟩
  clear k0
  go_enter Tryz.func74, Tryz.ntmps74
  go_wp2_with fail
  refine (h1 _).mono ?_
  rintro en u1 ⟨rfl, k1⟩
  obtain ⟨_, y1, _⟩ := HX.out _ k1
  have HK1 : Hid _ := k1
  clear h1 k1 x0 x1 x2
  go_wp2_with fail
  refine (h2 _).mono ?_
  rintro en u2 ⟨rfl, k2⟩
  obtain ⟨_, _, y2⟩ := HX.out _ (HK1.out.trans k2)
  have HK2 : Hid _ := HK1.out.trans k2
  clear h2 k2 y1
  go_wp2_with fail
  refine (h3 _).mono ?_
  rintro en u3 ⟨rfl, k3⟩
  clear h3 y2
  go_wp2_with fail
  refine bodyPost_ret (v := .string (A ++ ⟨#[46]⟩ ++ B ++ ⟨#[46]⟩ ++ C)) (by simp [results, Tryz.results74, go_sem]) rfl ?_
  exact ⟨rfl, (HK0.out.trans HK2.out).trans k3⟩
/- a body -/
def shBody (l : List Ins) : ByteArray := l.foldl (fun s x => s ++ ⟨#[32]⟩ ++ insS x) ⟨#[]⟩
def shU32 (l : List Int) : ByteArray := l.foldl (fun s x => s ++ ⟨#[32]⟩ ++ hxN x 8) ⟨#[]⟩
theorem fold_size {α : Type} (f : ByteArray → α → ByteArray) (c : Nat) : ∀ (l : List α) (s : ByteArray), (∀ s x, x ∈ l → (f s x).size ≤ s.size + c) → (l.foldl f s).size ≤ s.size + c * l.length
  | [], s, h => by simp
  | x :: xs, s, h => by
    have h1 := fold_size f c xs (f s x) (fun s y hy => h s y (by simp [hy]))
    have h2 := h s x (by simp)
    rw [List.foldl_cons, List.length_cons, Nat.mul_succ]
    omega
theorem fold_take {α : Type} {f : ByteArray → α → ByteArray} {l : List α} {i : Nat} {x : α} {s : ByteArray} (h : l[i]? = some x) : (l.take (i + 1)).foldl f s = f ((l.take i).foldl f s) x := by
  rw [take_snocL h, List.foldl_append]; rfl
theorem shBody_size (l : List Ins) : (shBody l).size ≤ 29 * l.length := by
  have := fold_size (fun s x => s ++ ⟨#[32]⟩ ++ insS x) 29 l ⟨#[]⟩ (fun s x _ => by rw [ByteArray.size_append, ByteArray.size_append, insS_size, sp_size]; omega)
  have e : (⟨#[]⟩ : ByteArray).size = 0 := rfl
  rw [e] at this
  unfold shBody
  omega
theorem shU32_size (l : List Int) : (shU32 l).size ≤ 9 * l.length := by
  have := fold_size (fun s x => s ++ ⟨#[32]⟩ ++ hxN x 8) 9 l ⟨#[]⟩ (fun s x _ => by rw [ByteArray.size_append, ByteArray.size_append, hxN_size, sp_size]; omega)
  have e : (⟨#[]⟩ : ByteArray).size = 0 := rfl
  rw [e] at this
  unfold shU32
  omega
theorem ins_cell2 {u : World} {n0 : Nat} {a : Option Addr} {L : List Ins} {n : Nat} (h : InsAt u n0 (.slice a n n) L) {j : Nat} {x : Ins} (hx : L[j]? = some x) : ∃ kb, a = some ⟨kb, 0, none⟩ ∧ u.cell? ⟨kb, j * 3, none⟩ = some (.int .u8 x.op) ∧ u.cell? ⟨kb, j * 3 + 1, none⟩ = some (.int .u32 x.x) ∧ u.cell? ⟨kb, j * 3 + 2, none⟩ = some (.int .u64 x.y) := by
  obtain ⟨G, ⟨a', h1, h2, h3⟩, h4⟩ := h
  have hj := (List.getElem?_eq_some_iff.1 hx).1
  simp only [Value.slice.injEq] at h1
  obtain ⟨rfl, hn, _⟩ := h1
  obtain ⟨kb, _, h5, h6⟩ := h3 (by omega)
  obtain ⟨g0, g1, g2⟩ := h4 j x hx
  dsimp only at g0 g1 g2
  rw [Nat.add_zero] at g0
  exact ⟨kb, h5, by rw [h6.cell (by omega), g0], by rw [h6.cell (by omega), g1], by rw [h6.cell (by omega), g2]⟩
theorem tab_cell2 {u : World} {n0 : Nat} {a : Option Addr} {T : List Int} {n : Nat} (h : TabAt u n0 (.slice a n n) T) {j : Nat} {x : Int} (hx : T[j]? = some x) : ∃ kb, a = some ⟨kb, 0, none⟩ ∧ u.cell? ⟨kb, j, none⟩ = some (.int .u32 x) := by
  obtain ⟨G, ⟨a', h1, h2, h3⟩, h4⟩ := h
  have hj := (List.getElem?_eq_some_iff.1 hx).1
  simp only [Value.slice.injEq] at h1
  obtain ⟨rfl, hn, _⟩ := h1
  obtain ⟨kb, _, h5, h6⟩ := h3 (by omega)
  refine ⟨kb, h5, ?_⟩
  have h7 := h6.cell (i := j) (by omega)
  have h8 : G (j * 1 + 0) = .int .u32 x := h4 j x hx
  rw [Nat.mul_one, Nat.add_zero] at h8
  rw [h7, h8]
theorem ls_slice {α : Type} {R : Rel α} {sz n0 : Nat} {u : World} {tv : Value} {T : List α} (h : Ls R sz n0 u tv T) : ∃ a, tv = .slice a T.length T.length := by
  obtain ⟨G, ⟨a, h1, _⟩, _⟩ := h
  exact ⟨a, h1⟩
set_option maxHeartbeats 4000000 in
theorem bshow_calls {w : World} {n0 : Nat} {v : Value} {l : List Ins} (h : InsAt w n0 v l) (ho : ∀ i, i ∈ l → InsOk i) (hn : l.length ≤ 96) : Calls Tryz.prog 72 #[v] w (fun en w' => en = .returned (.string (shBody l)) ∧ Kp (fun _ => False) w w') := by
  obtain ⟨a, rfl⟩ := ls_slice h
  obtain ⟨n, hl⟩ : ∃ n, l.length = n := ⟨_, rfl⟩
  rw [hl] at h hn ⊢
  have HH : Hid (InsAt w n0 (.slice a n n) l) := h
  have HO : Hid (∀ i, i ∈ l → InsOk i) := ho
  have HL : Hid (l.length = n) := hl
  clear h ho hl
  go_enter Tryz.func72, Tryz.ntmps72
  go_wp2_with fail
  go_loopw [3, 4] (fun x ii u => ∃ (i : Nat) (t : ByteArray), i ≤ n ∧ ii = .int .i64 i ∧ x = .string t ∧ t.size ≤ 29 * i ∧ Hid (Kp (fun _ => False) w u) ∧ Hid (t = (l.take i).foldl (fun s x => s ++ ⟨#[32]⟩ ++ insS x) ⟨#[]⟩)) (fun _ ii _ => n + 1 - (intOf ii).toNat)
  case atStart => exact ⟨0, ⟨#[]⟩, by omega, rfl, rfl, Nat.le_refl _, Kp.refl _ _, rfl⟩
  case round =>
    obtain ⟨i, t, hi, rfl, rfl, hts, HK, HT⟩ := hrel
    by_cases hlt : i < n
    · obtain ⟨x, hx⟩ : ∃ x, l[i]? = some x := ⟨_, List.getElem?_eq_getElem (by rw [HL.out]; exact hlt)⟩
      obtain ⟨kb, rfl, x0, x1, x2⟩ := ins_cell2 (Ls.keep (pureRel_ok _) HH.out HK.out (fun k e => e.elim)) hx
      have hok := HO.out x (List.mem_of_getElem? hx)
      have HX : Hid (l[i]? = some x) := hx
      have hop : x.op < 256 := by have := hok.op; unfold opOk at this; omega
      have hc := ishow_calls x hop hok.x hok.y
      have hsz := insS_size x
      unfold Ins.val at hc
      have hib : (i : Int) < (n : Int) := by omega
      have HXS : Hid (∀ T, insS x = T → T = insS x) := fun T e => e.symm
      obtain ⟨S, hS⟩ : ∃ S, insS x = S := ⟨_, rfl⟩
      rw [hS] at hc hsz
      have HS : Hid (insS x = S) := hS
      have q1 : ¬ 9223372036854775807 < t.size + 1 := by omega
      have q2 : ¬ 9223372036854775807 < t.size + 1 + S.size := by omega
      clear hx hok hS HXS
      go_wp2_with fail
      refine (hc _).mono ?_
      rintro en u2 ⟨rfl, k2⟩
      clear hc x0 x1 x2
      go_wp2_with fail
      go_roundw
      case rel =>
        refine ⟨i + 1, t ++ ⟨#[32]⟩ ++ S, by omega, by go_num, rfl, ?_, HK.out.trans k2, ?_⟩
        · rw [ByteArray.size_append, ByteArray.size_append, sp_size, hsz]; omega
        · show _ = _
          rw [fold_take HX.out, ← HT.out, HS.out]
      case measure => simp [intOf]; omega
    · have hin : i = n := by omega
      subst hin
      have hib : decide ((i : Int) < (i : Int)) = false := decide_eq_false (by omega)
      go_wp2_with fail
      refine bodyPost_ret (v := .string t) (by simp [results, Tryz.results72, go_sem]) rfl ?_
      refine ⟨?_, HK.out⟩
      rw [HT.out, List.take_of_length_le (by rw [HL.out]; exact Nat.le_refl _)]
      rfl
set_option maxHeartbeats 4000000 in
theorem ushow_calls {w : World} {n0 : Nat} {v : Value} {l : List Int} (h : TabAt w n0 v l) (ho : ∀ i, i ∈ l → u32R i) (hn : l.length ≤ 96) : Calls Tryz.prog 73 #[v] w (fun en w' => en = .returned (.string (shU32 l)) ∧ Kp (fun _ => False) w w') := by
  obtain ⟨a, rfl⟩ := ls_slice h
  obtain ⟨n, hl⟩ : ∃ n, l.length = n := ⟨_, rfl⟩
  rw [hl] at h hn ⊢
  have HH : Hid (TabAt w n0 (.slice a n n) l) := h
  have HO : Hid (∀ i, i ∈ l → u32R i) := ho
  have HL : Hid (l.length = n) := hl
  clear h ho hl
  go_enter Tryz.func73, Tryz.ntmps73
  go_wp2_with fail
  go_loopw [3, 4] (fun x ii u => ∃ (i : Nat) (t : ByteArray), i ≤ n ∧ ii = .int .i64 i ∧ x = .string t ∧ t.size ≤ 9 * i ∧ Hid (Kp (fun _ => False) w u) ∧ Hid (t = (l.take i).foldl (fun s x => s ++ ⟨#[32]⟩ ++ hxN x 8) ⟨#[]⟩)) (fun _ ii _ => n + 1 - (intOf ii).toNat)
  case atStart => exact ⟨0, ⟨#[]⟩, by omega, rfl, rfl, Nat.le_refl _, Kp.refl _ _, rfl⟩
  case round =>
    obtain ⟨i, t, hi, rfl, rfl, hts, HK, HT⟩ := hrel
    by_cases hlt : i < n
    · obtain ⟨x, hx⟩ : ∃ x, l[i]? = some x := ⟨_, List.getElem?_eq_getElem (by rw [HL.out]; exact hlt)⟩
      obtain ⟨kb, rfl, x0⟩ := tab_cell2 (Ls.keep (pureRel_ok _) HH.out HK.out (fun k e => e.elim)) hx
      have hok := HO.out x (List.mem_of_getElem? hx)
      unfold u32R at hok
      obtain ⟨x, rfl⟩ : ∃ y : Nat, x = y := ⟨x.toNat, by omega⟩
      have HX : Hid (l[i]? = some (x : Int)) := hx
      have hc := hxn_calls (x : Int) 8 (by omega) (by decide)
      have hsz := hxN_size (x : Int) 8
      have hib : (i : Int) < (n : Int) := by omega
      have hx32 : x < 4294967296 := by omega
      obtain ⟨S, hS⟩ : ∃ S, hxN (x : Int) 8 = S := ⟨_, rfl⟩
      rw [hS] at hc hsz
      have HS : Hid (hxN (x : Int) 8 = S) := hS
      have q1 : ¬ 9223372036854775807 < t.size + 1 := by omega
      have q2 : ¬ 9223372036854775807 < t.size + 1 + S.size := by omega
      clear hx hok hS
      go_wp2_with fail
      refine (hc _).mono ?_
      rintro en u2 ⟨rfl, k2⟩
      clear hc x0
      go_wp2_with fail
      go_roundw
      case rel =>
        refine ⟨i + 1, t ++ ⟨#[32]⟩ ++ S, by omega, by go_num, rfl, ?_, HK.out.trans k2, ?_⟩
        · rw [ByteArray.size_append, ByteArray.size_append, sp_size, hsz]; omega
        · show _ = _
          rw [fold_take HX.out, ← HT.out, HS.out]
      case measure => simp [intOf]; omega
    · have hin : i = n := by omega
      subst hin
      have hib : decide ((i : Int) < (i : Int)) = false := decide_eq_false (by omega)
      go_wp2_with fail
      refine bodyPost_ret (v := .string t) (by simp [results, Tryz.results73, go_sem]) rfl ?_
      refine ⟨?_, HK.out⟩
      rw [HT.out, List.take_of_length_le (by rw [HL.out]; exact Nat.le_refl _)]
      rfl
end Go.Proofs.Qxb6500275aGreatDoor
