import Derived.Test.Qxb6500275aGreatDoorEn4
import Derived.Lib.OthersKept
import Derived.WalkSmall
set_option maxRecDepth 100000
set_option linter.unusedVariables false
set_option linter.unusedSimpArgs false
namespace Go.Proofs.Qxb6500275aGreatDoor
open Go Go.RowKit
/- a range over a string: its iterator lies in a block of its own -/
structure It (u : World) (k : Nat) (t : ByteArray) (i : Nat) (wb : Nat) (v : Value) : Prop where
  h : u.heap[k]? = some (.stringIter t i)
  b : wb ≠ k
  o : v.ownBlock ≠ some k
section
variable {w u u' : World} {k i wb : Nat} {t : ByteArray} {v v' : Value} {l : List Nat}
theorem kp_iter (u : World) (k : Nat) (t : ByteArray) (i : Nat) : Kp (fun j => j = k) u (u.iterAt k t i) := ⟨rfl, rfl, rfl, by rw [Lib.iterAt_size]; exact Nat.le_refl _, fun j hj hp => Lib.iterAt_other u k j t i hp⟩
theorem It.lt (h : It u k t i wb v) : k < u.heap.size := (Array.getElem?_eq_some_iff.1 h.h).1
theorem It.step (h : It u k t i wb v) (hr : Wr u wb v l) (he : We w u wb v' v) (hk : w.heap.size ≤ k) (j : Nat) : It (u.iterAt k t j) k t j wb v ∧ Wr (u.iterAt k t j) wb v l ∧ We w (u.iterAt k t j) wb v' v := by
  have hp := kp_iter u k t j
  refine ⟨⟨Lib.iterAt_heap u k t i j h.h, h.b, h.o⟩, hr.keep hp h.b (fun m hm e => h.o (e ▸ hm)), ⟨?_, he.ow⟩⟩
  have hs := he.kp.size
  refine ⟨hp.os.trans he.kp.os, hp.tape.trans he.kp.tape, hp.output.trans he.kp.output, Nat.le_trans hs hp.size, fun m hm hnp => ?_⟩
  rw [hp.block m (by omega) (by omega), he.kp.block m hm hnp]
theorem It.we (h : It u k t i wb v) (he : We u u' wb v v') : It u' k t i wb v' := by
  refine ⟨by rw [he.kp.block k h.lt (fun e => by rcases e with e | e; exact h.b e.symm; exact h.o e)]; exact h.h, h.b, fun e => ?_⟩
  rcases he.ow k e with h1 | h1
  · exact h.o h1
  · have := h.lt; omega
theorem It.pos (h : It u k t i wb v) : u.iterPos k = i := iterPos_of h.h
end
set_option maxHeartbeats 4000000 in
theorem wvals_calls {w : World} {wb : Nat} {v : Value} {l : List Nat} (h : Wr w wb v l) (t : ByteArray) (ht : t.size ≤ 10000) (hv : ∀ i, i < t.size → bAt t i < 128) (hsm : l.length ≤ 80000) :
    Calls Tryz.prog 121 #[.pointer (some ⟨wb, 0, none⟩), .string t] w (Wq w wb v (l ++ encStr t)) := by
  have hle5 : (uLeb t.size).length ≤ 5 := uLeb_le 4 t.size (by simp; omega)
  have hu := wu_calls h t.size (by omega) (by omega)
  have HV : Hid (∀ i, i < t.size → bAt t i < 128) := hv
  clear h hv
  obtain ⟨n, hn⟩ : ∃ n, t.size = n := ⟨_, rfl⟩
  have HN : Hid (t.size = n) := hn
  rw [hn] at hu hle5 ht
  have ht2 : (n : Int) ≤ 10000 := by omega
  go_enter Tryz.func121, Tryz.ntmps121
  go_wp2_with fail
  refine hu.mono ?_
  rintro en u1 ⟨rfl, v1, r1, e1⟩
  have HIT : Hid (It (u1.iter t 0) u1.heap.size t 0 wb v1 ∧ Wr (u1.iter t 0) wb v1 (l ++ uLeb n) ∧ We w (u1.iter t 0) wb v v1 ∧ w.heap.size ≤ u1.heap.size) := by
    have hk : Kp (fun _ => False) u1 (u1.iter t 0) := (Kp.refl _ _).alloc _
    refine ⟨⟨World.iter_heap u1 t 0, ?_, fun e => ?_⟩, r1.quiet hk, e1.quiet hk, e1.kp.size⟩
    · have := r1.lt; omega
    · have := r1.f.lt e; omega
  clear r1 e1 hu
  obtain ⟨k, hk⟩ : ∃ k, u1.heap.size = k := ⟨_, rfl⟩
  rw [hk] at HIT
  go_wp2_with fail
  generalize u1.iter t 0 = U at HIT ⊢
  try rw [hk]
  clear hk
  go_loopw [5] (fun cc u => ∃ (i : Nat) (v' : Value), i ≤ n ∧ Hid (It u k t i wb v' ∧ Wr u wb v' (l ++ uLeb n ++ (natsOf t).take i) ∧ We w u wb v v' ∧ w.heap.size ≤ k)) (fun _ u => n + 1 - u.iterPos k)
  case atStart => exact ⟨0, v1, by omega, by rw [List.take_zero, List.append_nil]; exact HIT⟩
  case round =>
    clear HIT
    obtain ⟨i, v', hi, HI⟩ := hrel
    have hpos := HI.out.1.pos
    have HP : Hid (wr.iterPos k = i) := hpos
    clear hpos
    by_cases hlt : i < n
    · have hil : i < t.size := by omega
      have hget : t[i].toNat = bAt t i := bAt_get t i hil
      have hb128 : bAt t i < 128 := HV.out i hil
      have hnx : ∀ ty, (Instr.next (.pointer (some ⟨k, 0, none⟩)) true ty).run Tryz.prog wr = .ok (.tuple #[.bool true, .int .i64 i, .int .i32 (bAt t i : Nat)]) (wr.iterAt k t (i + 1)) := fun ty => by
        rw [Lib.run_next_ascii_at wr k t i ty HI.out.1.h hil (by rw [hget]; exact hb128), hget]
      have HS : Hid _ := HI.out.1.step HI.out.2.1 HI.out.2.2.1 HI.out.2.2.2 (i + 1)
      obtain ⟨c, hc⟩ : ∃ c, bAt t i = c := ⟨_, rfl⟩
      rw [hc] at hnx hb128
      have HC : Hid (bAt t i = c) := hc
      clear hget hc
      go_wp2_with fail
      generalize wr.iterAt k t (i + 1) = U2 at HS ⊢
      refine (HS.out.2.1.byte (by rw [List.length_append, List.length_append, List.length_take]; omega) c).mono ?_
      rintro en u2 ⟨rfl, v2, r2, e2⟩
      have HR2 : Hid _ := r2
      have HE2 : Hid _ := e2
      clear r2 e2 hnx
      go_wp2_with fail
      have hI2 := HS.out.1.we HE2.out
      go_roundw
      case rel =>
        refine ⟨i + 1, v2, by omega, hI2, ?_, HS.out.2.2.trans HE2.out, HI.out.2.2.2⟩
        rw [natsOf_take_succ t i (by rw [HN.out]; exact hlt), ← List.append_assoc, HC.out]
        exact HR2.out
      case measure =>
        have h1 := hI2.pos
        have h2 := HP.out
        omega
    · have hil : ¬ i < t.size := by omega
      have hnx : ∀ ty, (Instr.next (.pointer (some ⟨k, 0, none⟩)) true ty).run Tryz.prog wr = .ok (.tuple #[.bool false]) wr := fun ty => Lib.run_next_end_at wr k t i ty HI.out.1.h hil
      go_wp2_with fail
      refine bodyPost_ret (v := .tuple #[]) (by simp [results, Tryz.results121, go_sem]) rfl ?_
      refine ⟨rfl, v', ?_, HI.out.2.2.1⟩
      have h2 := HI.out.2.1
      rw [List.take_of_length_le (by rw [natsOf_len, HN.out]; omega)] at h2
      unfold encStr
      rw [HN.out, ← List.append_assoc]
      exact h2
end Go.Proofs.Qxb6500275aGreatDoor
