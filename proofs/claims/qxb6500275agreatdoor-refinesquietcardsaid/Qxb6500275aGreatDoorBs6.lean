import Derived.Test.Qxb6500275aGreatDoorBs0
import Derived.Test.Qxb6500275aGreatDoorBb2
set_option maxRecDepth 100000
set_option linter.unusedVariables false
set_option linter.unusedSimpArgs false
namespace Go.Proofs.Qxb6500275aGreatDoor
open Go Go.RowKit
def intC (l : List Int) : List Value := l.map (fun x => .int .i64 x)
theorem u203s : Tryz.prog.underlying 203 = some (.slice 3) := by kernel_rfl
theorem i3q : (Tryz.prog.info? 3).map (fun i => (i.zero.map (fun z => z.cells.size), i.size, i.bytes)) = some (some 1, 1, 8) := by kernel_rfl
/- the types' numbers of the functions: a slice of its own -/
def Tn (w : World) (v : Value) (l : List Int) : Prop := OR w 3 1 v l.length (intC l)
def FuP (o : R (List Int)) (b : Nat) (s : ByteArray) (e : Nat) (er : Int) (a : Nat) (w : World) (en : Ending) (w' : World) : Prop :=
  ∃ l v q er' a', en = .returned v ∧ Tn w' v l ∧ (∀ k, v.ownBlock = some k → w.heap.size ≤ k) ∧ l.length ≤ 8 ∧ Rc w' b s q e er' a' ∧ Kp (· = b) w w' ∧ Hid (Cu o er a l q er' a')
section
variable {w w' : World} {b : Nat} {s : ByteArray} {p e : Nat} {er : Int} {a : Nat} {mb : Nat} {m : MT}
theorem vecS_b {mx : Int} {α : Type} (row : Nat → R α) : vecS s p e mx row = bindQ (countS s p e mx) fun x => rowsL row x.1.toNat x.2 [] := by
  unfold vecS
  rw [bindR_Q]
set_option maxHeartbeats 4000000 in
theorem funcs_m (h : Rc w b s p e er a) : Calls Tryz.prog 185 #[.pointer (some ⟨b, 0, none⟩)] w (FuP (vecS s p e 8 (tiRow s e)) b s e er a w) := by
  have hlt : b < w.heap.size := lt_of_cell h.c0
  have HC := count_m h 8 (by decide)
  obtain ⟨X, hX⟩ : ∃ X, vecS s p e 8 (tiRow s e) = X := ⟨_, rfl⟩
  rw [hX]
  have HX : Hid _ := hX
  clear h hX
  go_enter Tryz.func185, Tryz.ntmps185
  go_wp2_with fail
  refine HC.mono ?_
  rintro en w2 ⟨nn, q, er', a', rfl, hR, hK, hB, hC⟩
  obtain ⟨n, hn⟩ : ∃ n : Nat, nn = n := ⟨nn.toNat, by omega⟩
  subst hn
  have hn8 : n ≤ 8 := by omega
  unfold encI8
  have HZ : Hid (∀ l2 q2 er2 a2, Cu (rowsL (tiRow s e) n q []) er' a' l2 q2 er2 a2 → Cu X er a l2 q2 er2 a2) := fun l2 q2 er2 a2 hz => by
    rw [← HX.out, vecS_b]
    exact hC.out.trans hz
  have HR : Hid _ := hR
  have HK : Hid _ := hK
  clear hR hK HX hC hB HC
  go_wp2
  go_loopw [3, 5] (fun tt ii w1 => ∃ (i q1 a1 : Nat) (er1 : Int) (l : List Int), i ≤ n ∧ l.length = i ∧ ii = .int .i64 (i : Int) ∧ Rc w1 b s q1 e er1 a1 ∧ Hid (Tn w1 tt l) ∧ Hid (∀ k, tt.ownBlock = some k → w.heap.size ≤ k) ∧ Kp (· = b) w w1 ∧ Hid (∀ l2 q2 er2 a2, Cu (rowsL (tiRow s e) (n - i) q1 l) er1 a1 l2 q2 er2 a2 → Cu X er a l2 q2 er2 a2)) (fun _ ii _ => n - (intOf ii).toNat)
  case atStart => exact ⟨0, q, a', er', [], by omega, rfl, rfl, HR.out, OR.nil _ _ _, (fun k h => by simp [Value.ownBlock] at h), HK.out, HZ.out⟩
  case round =>
    obtain ⟨i, q1, a1, er1, l, hi, hll, rfl, hR1, hT1, hF1, hK1, hZ1⟩ := hrel
    have c3 := hR1.c3
    have HR1 : Hid _ := hR1
    have HK1 : Hid _ := hK1
    have HLL : Hid _ := hll
    obtain ⟨sa, sc, hsv⟩ := hT1.out.slice
    subst hsv
    clear hR1 hK1 hll HR HK HZ
    by_cases hgo : er1 = 0 ∧ i < n
    · obtain ⟨he1, hi1⟩ := hgo
      subst he1
      have hlti : (i : Int) < (n : Int) := by omega
      have HU := u32_m HR1.out
      go_wp2_with fail
      refine HU.mono ?_
      rintro en w3 ⟨fv, q3, er3, a3, rfl, hR3, hK3, hB3, hC3⟩
      obtain ⟨ti, z, i1, i2, i3, i4, i5⟩ := infoOf i3q
      have hsz1 := HK1.out.size
      have hT3 : Tn w3 (.slice sa l.length sc) l := OR.keep hT1.out hK3 (fun k h1 h2 => by
        have := hF1.out k h1
        have h3 : k = b := h2
        omega)
      obtain ⟨v', w6, r1, r2, r3, r4⟩ := OR.pushN hT3 u203s i1 i2 i4 (by omega) i3 (by decide) (by have := HLL.out; omega) #[.int .i64 fv] rfl (by intro u hu; simp at hu; subst hu; rfl)
      obtain ⟨ra, rc, hvo⟩ := r2.slice
      have HO : Hid (OwnO w3 (.slice sa l.length sc) v') := r4
      have HR6 : Hid (Rc w6 b s q3 e er3 a3) := hR3.keep r3 (fun h => by
        have := hF1.out b h
        omega)
      have HK6 : Hid (Kp (· = b) w w6) := (HK1.out.trans hK3).later r3 (fun j hj => .inr (hF1.out j hj))
      have HT6 : Hid (Tn w6 v' (l ++ [fv])) := by
        show OR w6 3 1 v' (l ++ [fv]).length (intC (l ++ [fv]))
        rw [List.length_append]
        unfold intC
        rw [List.map_append]
        exact r2
      have HS6 : Hid (w.heap.size ≤ w3.heap.size) := Nat.le_trans hsz1 hK3.size
      clear hR3 hK3 hT3 r2 r3 r4 HU c3 hB3 hsz1
      subst hvo
      unfold encI8
      go_wp2_with (at_builtin; refine wpList_app rfl _ _ 203 rfl r1 ?_)
      have hll2 := HLL.out
      refine ⟨⟨i + 1, q3, a3, er3, l ++ [fv], by omega, by rw [List.length_append, hll2]; rfl, by go_num, HR6.out, HT6.out, fun k hk => ?_, HK6.out, fun l2 qq er2 a2 hz => hZ1.out _ _ _ _ (Cu.row (by omega) hC3.out (by rw [show n - i - 1 = n - (i + 1) by omega]; exact hz))⟩, by simp [intOf]; omega⟩
      rcases HO.out k hk with h5 | h5
      · exact hF1.out k h5
      · have := HS6.out; omega
    · by_cases hi1 : i < n
      · have he1 : er1 ≠ 0 := fun h => hgo ⟨h, hi1⟩
        have heb : (er1 == 0) = false := by rw [beq_eq_false_iff_ne]; exact he1
        have hlti : (i : Int) < (n : Int) := by omega
        go_wp2
        go_ret
        exact ⟨l, .slice sa l.length sc, q1, er1, a1, rfl, hT1.out, hF1.out, by have := HLL.out; omega, HR1.out, HK1.out, hZ1.out _ _ _ _ (Cu.stay _ _ he1)⟩
      · have hlti : ¬ (i : Int) < (n : Int) := by omega
        go_wp2
        go_ret
        refine ⟨l, .slice sa l.length sc, q1, er1, a1, rfl, hT1.out, hF1.out, by have := HLL.out; omega, HR1.out, HK1.out, hZ1.out _ _ _ _ ?_⟩
        rw [show n - i = 0 by omega]
        exact Cu.pure _ _
end
end Go.Proofs.Qxb6500275aGreatDoor
