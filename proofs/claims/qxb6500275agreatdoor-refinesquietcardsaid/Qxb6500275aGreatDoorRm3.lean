import Derived.Test.Qxb6500275aGreatDoorRm2
import Derived.Test.Qxb6500275aGreatDoorXp3
import Derived.Test.Qxb6500275aGreatDoorVa4
import Derived.Test.Qxb6500275aGreatDoorMe5
set_option maxRecDepth 100000
set_option linter.unusedVariables false
set_option linter.unusedSimpArgs false
namespace Go.Proofs.Qxb6500275aGreatDoor
open Go Go.RowKit
section
variable {w w' : World} {sb : Nat} {vm vt vg : Value} {S : Sm} {P : Nat → Prop}
set_option maxHeartbeats 8000000 in
theorem memSig_pq (op : Nat) (ho : 40 ≤ op ∧ op ≤ 62) (w : World) : Calls Tryz.prog 256 #[.int .i64 op] w (Pq w (encM (memSig op))) := by
  go_enter Tryz.func256, Tryz.ntmps256
  go_wp2
  all_goals
    go_ret3
    go_light
    refine ⟨?_, rfl⟩
    simp only [beq_eq_false_iff_ne, beq_iff_eq, ne_eq] at *
    unfold memSig
    repeat (first | rw [if_pos (by omega)] | rw [if_neg (by omega)])
    rfl
theorem memSig_ld (op : Nat) (h1 : 40 ≤ op) (h2 : op ≤ 53) : (memSig op).1 = widL op ∧ 1 ≤ widL op ∧ widL op ≤ 8 ∧ (memSig op).2.1 < 256 ∧ ((memSig op).2.2 = true → widL op ≤ 4) := by
  rcases (by omega : op = 40 ∨ op = 41 ∨ op = 42 ∨ op = 43 ∨ op = 44 ∨ op = 45 ∨ op = 46 ∨ op = 47 ∨ op = 48 ∨ op = 49 ∨ op = 50 ∨ op = 51 ∨ op = 52 ∨ op = 53) with rfl | rfl | rfl | rfl | rfl | rfl | rfl | rfl | rfl | rfl | rfl | rfl | rfl | rfl <;> decide
theorem memSig_st (op : Nat) (h1 : 54 ≤ op) (h2 : op ≤ 62) : (memSig op).1 = widS op ∧ (widS op = 1 ∨ widS op = 2 ∨ widS op = 4 ∨ widS op = 8) := by
  rcases (by omega : op = 54 ∨ op = 55 ∨ op = 56 ∨ op = 57 ∨ op = 58 ∨ op = 59 ∨ op = 60 ∨ op = 61 ∨ op = 62) with rfl | rfl | rfl | rfl | rfl | rfl | rfl | rfl | rfl <;> decide
theorem halfM_lt {k : Nat} (h : k ≤ 4) : halfM k ≤ 2147483648 := by
  unfold halfM
  have : 256 ^ (k - 1) ≤ 256 ^ 3 := Nat.pow_le_pow_right (by decide) (by omega)
  omega
set_option maxHeartbeats 2000000 in
theorem halfOf_m (k : Nat) (h1 : 1 ≤ k) (h2 : k ≤ 4) (w : World) : Calls Tryz.prog 292 #[.int .i64 k] w (Pq w (.int .u64 ((halfM k : Nat) : Int))) := by
  go_enter Tryz.func292, Tryz.ntmps292
  go_wp2
  go_loopw [3, 4] (fun hh ii w1 => ∃ i : Nat, 1 ≤ i ∧ i ≤ k ∧ ii = .int .i64 i ∧ hh = .int .u64 ((halfM i : Nat) : Int) ∧ w1 = w) (fun _ ii _ => (k - intOf ii).toNat)
  case atStart => exact ⟨1, by omega, h1, rfl, rfl, rfl⟩
  case round =>
    obtain ⟨i, i1, i2, rfl, rfl, rfl⟩ := hrel
    by_cases hlt : i < k
    · have hi : (i : Int) < (k : Int) := by omega
      have hb := halfM_lt (k := i) (by omega)
      have hs : halfM (i + 1) = halfM i * 256 := by
        unfold halfM
        rw [show i + 1 - 1 = (i - 1) + 1 by omega, Nat.pow_succ, Nat.mul_assoc]
      have HS : Hid _ := hs
      clear hs
      generalize hx : halfM i = x at hb
      have HX : Hid _ := hx
      clear hx
      go_wp2
      refine ⟨⟨i + 1, by omega, by omega, by go_num, ?_, trivial⟩, by simp [intOf]; omega⟩
      rw [HS.out, HX.out]
      congr 1
    · have hi : ¬ ((i : Int) < (k : Int)) := by omega
      have he : i = k := by omega
      subst he
      go_wp2
      refine bodyPost_ret (v := .int .u64 ((halfM i : Nat) : Int)) (by simp [results, Tryz.results292, go_sem]) rfl ?_
      exact ⟨rfl, rfl⟩
theorem pow_256 {k : Nat} (h : k < 8) : (256 ^ k) % 18446744073709551616 = 256 ^ k ∧ 256 ^ k * 256 ≤ 18446744073709551616 := by
  have h8 : 256 ^ (k + 1) ≤ 256 ^ 8 := Nat.pow_le_pow_right (by decide) (by omega)
  rw [Nat.pow_succ] at h8
  have : (256 : Nat) ^ 8 = 18446744073709551616 := by decide
  have hp : 0 < 256 ^ k := Nat.pow_pos (by decide)
  exact ⟨Nat.mod_eq_of_lt (by omega), by omega⟩
set_option maxHeartbeats 4000000 in
theorem mload_m (h : Ms w sb vm vt vg S) (hS : SmOk S) (op a o : Nat) (h1 : 40 ≤ op) (h2 : op ≤ 53) (ha : a < 4294967296) (ho : o < 4294967296) : Calls Tryz.prog 282 #[.pointer (some ⟨sb, 0, none⟩), .int .i64 op, .int .u32 a, .int .u32 o] w (Qm w (encLd (loadS S op a o))) := by
  obtain ⟨_, c1, _⟩ := h.c
  obtain ⟨e1, e2, e3, e4, e5⟩ := memSig_ld op h1 h2
  have hsig := memSig_pq op ⟨h1, by omega⟩
  obtain ⟨X, hX⟩ : ∃ X, encLd (loadS S op a o) = X := ⟨_, rfl⟩
  rw [hX]
  unfold loadS at hX
  have hm := hS.m
  have h53 : (op : Int) ≤ 53 := by omega
  have hl0 : ∀ f, loadV op f = _ := fun f => rfl
  have hle := load_le op h1 h2
  unfold loadN at hle
  obtain ⟨ms, hms⟩ : ∃ ms, memSig op = ms := ⟨_, rfl⟩
  obtain ⟨k, t, sg⟩ := ms
  rw [hms] at hsig e1 e4 e5 hle
  dsimp only at e1 e4 e5 hle
  unfold encM at hsig
  dsimp only at hsig
  subst e1
  generalize hk : widL op = k at *
  have hk0 : ((k : Int) == 0) = false := by simp; omega
  have HK : Hid _ := hk
  clear hl0 hms hk
  by_cases hf : a + o + k ≤ S.bs.length
  · rw [if_pos hf] at hX
    obtain ⟨g, cap, rfl, g1, g2, g3, g4, g5⟩ := h.m.ptr (by omega)
    have hbs := byS_lt hS
    have hg : ∀ j, j < k → w.cell? ⟨g, a + o + j, none⟩ = some (.int .u8 (byS S (a + o + j) : Int)) := fun j hj => g4 _ _ (rowB_get (byS_at (by omega)))
    clear g4 g5
    rw [hle _ (fun i => hbs _)] at hX
    obtain ⟨f, hfe⟩ : ∃ f : Nat → Nat, (fun i => byS S (a + o + i)) = f := ⟨_, rfl⟩
    rw [hfe] at hX
    have hf2 : ∀ j, byS S (a + o + j) = f j := fun j => congrFun hfe j
    have hfb : ∀ j, f j < 256 := fun j => by rw [← hf2]; exact hbs _
    have HG : Hid (∀ j, j < k → w.cell? ⟨g, a + o + j, none⟩ = some (.int .u8 (f j : Int))) := fun j hj => by rw [← hf2]; exact hg j hj
    have HX : Hid _ := hX
    have HF : Hid (∀ j, f j < 256) := hfb
    clear hX hg hf2 hfb hfe hle hbs
    generalize S.bs.length = m at *
    clear h hS
    go_enter Tryz.func282, Tryz.ntmps282
    go_wp2_with (go_at_call 256; refine (hsig _).mono ?_; rintro en w2 ⟨rfl, rfl⟩; clear hsig)
    go_loopw [14, 15, 16] (fun vv pp ii u => ∃ i : Nat, i ≤ k ∧ ii = .int .i64 i ∧ vv = .int .u64 ((leN f i : Nat) : Int) ∧ pp = .int .u64 ((256 ^ i % 18446744073709551616 : Nat) : Int) ∧ u = w2) (fun _ _ ii _ => (k - intOf ii).toNat)
    case atStart => exact ⟨0, by omega, rfl, rfl, rfl, by first | rfl | assumption⟩
    case round =>
      obtain ⟨i, hi, rfl, rfl, rfl, rfl⟩ := hrel
      have hlb := leN_lt f HF.out i
      by_cases hlt : i < k
      · have hii : (i : Int) < (k : Int) := by omega
        obtain ⟨p1, p2⟩ := pow_256 (show i < 8 by omega)
        have hcell := HG.out i hlt
        have hbi := HF.out i
        have hs : leN f (i + 1) = leN f i + f i * 256 ^ i := rfl
        have hp : 256 ^ (i + 1) = 256 ^ i * 256 := Nat.pow_succ _ _
        rw [p1]
        have hmul : f i * 256 ^ i + 256 ^ i ≤ 256 ^ i * 256 := by
          have := Nat.mul_le_mul_right (256 ^ i) (show f i + 1 ≤ 256 by omega)
          rw [Nat.add_mul, Nat.one_mul, Nat.mul_comm 256] at this
          exact this
        obtain ⟨z, hz⟩ : ∃ z, f i * 256 ^ i = z := ⟨_, rfl⟩
        rw [hz] at hs hmul
        have hzi : ((f i : Nat) : Int) * ((256 ^ i : Nat) : Int) = (z : Int) := by rw [← hz, Int.natCast_mul]
        have HS : Hid (_ = _) := hs
        have HP : Hid (_ = _) := hp
        clear hs hz hp p1
        generalize hq : 256 ^ i = q at *
        generalize hL : leN f i = L at *
        have HQ : Hid (_ = _) := hq
        have HL : Hid (_ = _) := hL
        clear hq hL
        generalize hB : f i = B at *
        have HB : Hid (_ = _) := hB
        clear hB
        have hzw : IntKind.u64.wrap ((B : Int) * (q : Int)) = (z : Int) := by rw [hzi, wrap_u64]; omega
        go_wp2
        refine ⟨⟨i + 1, by omega, by go_num, ?_, ?_, by first | rfl | trivial⟩, by simp [intOf]; omega⟩
        · rw [HS.out, Int.natCast_add]
        · rw [HP.out, Int.natCast_emod, Int.natCast_mul]
          first | rfl | (rw [wrap_u64]; rfl)
      · have hii : ¬ ((i : Int) < (k : Int)) := by omega
        have he : i = k := by omega
        subst he
        have hi8 : 256 ^ i ≤ 18446744073709551616 := by
          have h8 : 256 ^ i ≤ 256 ^ 8 := Nat.pow_le_pow_right (by decide) (by omega)
          exact Nat.le_trans h8 (by decide)
        have hL : leN f i < 18446744073709551616 := by omega
        have hcut : ∀ n : Nat, n < 18446744073709551616 → ∀ w, Calls Tryz.prog 46 #[.int .u8 t, .int .u64 n] w (Qm w (.int .u64 ((if t = 127 ∨ t = 125 then n % 4294967296 else n : Nat) : Int))) := fun n hn w => by
          have := cut_calls2 w t e4 (n : Int) (by omega)
          unfold cutB at this
          split at this
          · rename_i hc; rw [if_pos hc]; exact this
          · rename_i hc; rw [if_neg hc]; exact this
        obtain ⟨CU, hCU⟩ : ∃ CU : Nat → Nat, ∀ n, (if t = 127 ∨ t = 125 then n % 4294967296 else n) = CU n := ⟨_, fun _ => rfl⟩
        rw [hCU] at HX
        simp only [hCU] at hcut
        clear hlb hi8 hCU
        generalize leN f i = L at *
        cases sg with
        | false =>
          have hE : extM i false L = L := by unfold extM; rw [if_neg (by simp)]
          rw [hE] at HX
          clear hE
          go_wp2_with (go_at_call 46; refine (hcut L hL _).mono ?_; rintro en w3 ⟨rfl, rfl⟩)
          refine bodyPost_ret (v := .tuple #[.int .u64 ((CU L : Nat) : Int), .int .i64 0]) (by simp [results, Tryz.results282, go_sem]) rfl ?_
          exact ⟨by rw [← HX.out]; rfl, rfl⟩
        | true =>
          have hk4 : i ≤ 4 := e5 rfl
          have hH := halfOf_m i e2 hk4
          have hHb := halfM_lt hk4
          have hext : extM i true L = if halfM i ≤ L then (L + 18446744073709551616 - 2 * halfM i) % 18446744073709551616 else L := by
            unfold extM
            by_cases hc : halfM i ≤ L
            · rw [if_pos ⟨rfl, hc⟩, if_pos hc]
            · rw [if_neg (fun e => hc e.2), if_neg hc]
          rw [hext] at HX
          clear hext
          generalize halfM i = H at *
          by_cases hc : H ≤ L
          · rw [if_pos hc] at HX
            have hci : (H : Int) ≤ (L : Int) := by omega
            have hval : IntKind.u64.wrap ((L : Int) + IntKind.u64.wrap (-(2 * (H : Int)))) = (((L + 18446744073709551616 - 2 * H) % 18446744073709551616 : Nat) : Int) := by
              rw [wrap_u64, wrap_u64]; omega
            have hn := hcut ((L + 18446744073709551616 - 2 * H) % 18446744073709551616) (Nat.mod_lt _ (by decide))
            generalize (L + 18446744073709551616 - 2 * H) % 18446744073709551616 = Z at *
            go_wp2_with (go_at_call 292; refine (hH _).mono ?_; rintro en w3 ⟨rfl, rfl⟩)
            refine (hn _).mono ?_
            rintro en w3 ⟨rfl, rfl⟩
            go_wp2
            refine bodyPost_ret (v := .tuple #[.int .u64 ((CU Z : Nat) : Int), .int .i64 0]) (by simp [results, Tryz.results282, go_sem]) rfl ?_
            exact ⟨by rw [← HX.out]; rfl, rfl⟩
          · rw [if_neg hc] at HX
            have hci : ¬ (H : Int) ≤ (L : Int) := by omega
            go_wp2_with (first | (go_at_call 292; refine (hH _).mono ?_; rintro en w3 ⟨rfl, rfl⟩) | (go_at_call 46; refine (hcut L hL _).mono ?_; rintro en w3 ⟨rfl, rfl⟩))
            refine bodyPost_ret (v := .tuple #[.int .u64 ((CU L : Nat) : Int), .int .i64 0]) (by simp [results, Tryz.results282, go_sem]) rfl ?_
            exact ⟨by rw [← HX.out]; rfl, rfl⟩
  · rw [if_neg hf] at hX
    obtain ⟨b, cap, rfl⟩ := h.m.slice
    have HX : Hid _ := hX
    clear hX hle
    generalize S.bs.length = m at *
    have hni : (m : Int) < (a : Int) + (o : Int) + (k : Int) := by omega
    clear h hS
    go_enter Tryz.func282, Tryz.ntmps282
    go_wp2_with (go_at_call 256; refine (hsig _).mono ?_; rintro en w2 ⟨rfl, rfl⟩; clear hsig)
    refine bodyPost_ret (v := .tuple #[.int .u64 0, .int .i64 42]) (by simp [results, Tryz.results282, go_sem]) rfl ?_
    exact ⟨by rw [← HX.out]; rfl, rfl⟩
/- bytes laid one by one, the value divided -/
theorem putB_set : ∀ (n : Nat) (l : List Nat) (i v : Nat), putB (n + 1) l i v = putB n (l.set i (v % 256)) (i + 1) (v / 256) := fun _ _ _ _ => rfl
theorem putB_mod : ∀ (n : Nat) (l : List Nat) (i v : Nat), putB n l i (v % 256 ^ n) = putB n l i v
  | 0, _, _, _ => rfl
  | n + 1, l, i, v => by
    rw [putB_set, putB_set, Nat.pow_succ, Nat.mul_comm, Nat.mod_mul, ← putB_mod n _ _ (v / 256)]
    congr 1
    · congr 1; omega
    · have := Nat.mod_lt v (show 0 < 256 by decide)
      omega
theorem putB_cut {n : Nat} (h : n = 1 ∨ n = 2 ∨ n = 4 ∨ n = 8) (l : List Nat) (i v : Nat) : putB n l i (cutS n v) = putB n l i v := by
  rcases h with rfl | rfl | rfl | rfl
  · rfl
  · exact putB_mod 2 l i v
  · exact putB_mod 4 l i v
  · rfl
/- the store that Save answers -/
set_option maxHeartbeats 4000000 in
theorem msave_m (h : Ms w sb vm vt vg S) (hS : SmOk S) (op a o v : Nat) (h1 : 54 ≤ op) (h2 : op ≤ 62) (ha : a < 4294967296) (ho : o < 4294967296) (hv : v < 18446744073709551616) : Calls Tryz.prog 283 #[.pointer (some ⟨sb, 0, none⟩), .int .i64 op, .int .u32 a, .int .u32 o, .int .u64 v] w (Sr sb vm vt vg w (match saveS S op a o v with | none => (42, S) | some T => (0, T))) := by
  obtain ⟨_, c1, _⟩ := h.c
  obtain ⟨e1, e2⟩ := memSig_st op h1 h2
  have hsig := memSig_pq op ⟨by omega, h2⟩
  obtain ⟨X, hX⟩ : ∃ X, (match saveS S op a o v with | none => (42, S) | some T => (0, T)) = X := ⟨_, rfl⟩
  rw [hX]
  unfold saveS at hX
  have hm := hS.m
  have h53 : ¬ (op : Int) < 54 := by omega
  obtain ⟨ms, hms⟩ : ∃ ms, memSig op = ms := ⟨_, rfl⟩
  obtain ⟨k, t, sg⟩ := ms
  rw [hms] at hsig e1
  dsimp only at e1
  unfold encM at hsig
  dsimp only at hsig
  subst e1
  generalize hk : widS op = k at *
  have hk0 : ((k : Int) == 0) = false := by simp; omega
  have hk8 : k ≤ 8 := by omega
  have hk1 : 1 ≤ k := by omega
  rw [putB_cut e2] at hX
  have HK : Hid _ := hk
  clear hms hk e2
  by_cases hf : a + o + k ≤ S.bs.length
  · rw [if_pos hf] at hX
    obtain ⟨g, cap, hvm, g1, g2, g3, g4, g5⟩ := h.m.ptr (n := S.bs.length) (by omega)
    have hob : vm.ownBlock = some g := by rw [hvm]; rfl
    have HM : Hid (Ms w sb vm vt vg S) := h
    have HX : Hid _ := hX
    have HO : Hid _ := hob
    have HV : Hid _ := hvm
    rw [hvm] at c1
    clear hX h hS g4 g5 hob hvm
    obtain ⟨m, hml⟩ : ∃ m, S.bs.length = m := ⟨_, rfl⟩
    rw [hml] at hm hf c1 g2
    have HL : Hid _ := hml
    clear hml
    go_enter Tryz.func283, Tryz.ntmps283
    go_wp2_with (go_at_call 256; refine (hsig _).mono ?_; rintro en w2 ⟨rfl, rfl⟩; clear hsig)
    go_loopw [4, 15] (fun vv ii u => ∃ i : Nat, i ≤ k ∧ ii = .int .i64 i ∧ ∃ v1 : Nat, v1 < 18446744073709551616 ∧ vv = .int .u64 v1 ∧ ∃ l : List Nat, Hid (l.length = m) ∧ Hid (putB (k - i) l (a + o + i) v1 = putB k S.bs (a + o) v) ∧ Hid (Kp (Mt sb vm vt vg) w2 u) ∧ Hid (Ms u sb vm vt vg { S with bs := l })) (fun _ ii _ => (k - intOf ii).toNat)
    case atStart => exact ⟨0, by omega, rfl, v, hv, rfl, S.bs, HL.out, by rfl, Kp.refl _ _, HM.out⟩
    case round =>
      obtain ⟨i, hi, rfl, v1, hv1, rfl, l, hll, hlp, hkp, hms⟩ := hrel
      by_cases hlt : i < k
      · have hii : (i : Int) < (k : Int) := by omega
        obtain ⟨_, d1, _⟩ := hms.out.c
        rw [HV.out, HL.out] at d1
        obtain ⟨g', cap', hvm', q1, q2, q3, q4, q5⟩ := hms.out.m.ptr (n := l.length) (by have := hll.out; omega)
        rw [HV.out] at hvm'
        injection hvm' with x1 x2 x3
        injection x1 with x1
        injection x1 with x1
        subst x1 x3
        have ct := q4 (a + o + i) _ (rowB_get (l := l) (List.getElem?_eq_getElem (by have := hll.out; omega)))
        have fz := q5 (a + o + i)
        have HN := hms.out.setB HO.out (i := a + o + i) (by have := hll.out; show _ < l.length; omega) (v1 % 256)
        have HN : Hid _ := HN
        have HQ : Hid (Kp (Mt sb vm vt vg) wr (wr.setCell ⟨g, a + o + i, none⟩ (.int .u8 ((v1 % 256 : Nat) : Int)))) := kp_set1 wr _ (.inr (.inl HO.out))
        clear q4 q5 x2
        have hw8 : IntKind.u8.wrap ((v1 : Int) % 256) = ((v1 % 256 : Nat) : Int) := by simp [IntKind.wrap, IntKind.bits, IntKind.signed]
        go_wp2
        refine ⟨⟨i + 1, by omega, by go_num, v1 / 256, by omega, by go_num, l.set (a + o + i) (v1 % 256), by show _ = _; rw [List.length_set]; exact hll.out, ?_, ?_, ?_⟩, by simp [intOf]; omega⟩
        · show _ = _
          rw [← hlp.out, show k - i = (k - (i + 1)) + 1 by omega, putB_set]
          rfl
        · have := hkp.out.trans HQ.out
          rw [Int.natCast_emod] at this
          exact this
        · have := HN.out
          rw [Int.natCast_emod] at this
          exact this
      · have hii : ¬ ((i : Int) < (k : Int)) := by omega
        have he : i = k := by omega
        subst he
        go_wp2
        refine bodyPost_ret (v := .int .i64 0) (by simp [results, Tryz.results283, go_sem]) rfl ?_
        rw [← HX.out]
        refine ⟨rfl, hkp.out, ?_⟩
        have := hlp.out
        rw [Nat.sub_self] at this
        dsimp only
        rw [← this]
        exact hms.out
  · rw [if_neg hf] at hX
    have HM : Hid (Ms w sb vm vt vg S) := h
    have HX : Hid _ := hX
    obtain ⟨b, cap, hvm⟩ := h.m.slice
    rw [hvm] at c1
    clear hX h hS hvm
    generalize S.bs.length = m at hm hf c1
    have hni : (m : Int) < (a : Int) + (o : Int) + (k : Int) := by omega
    go_enter Tryz.func283, Tryz.ntmps283
    go_wp2_with (go_at_call 256; refine (hsig _).mono ?_; rintro en w2 ⟨rfl, rfl⟩; clear hsig)
    refine bodyPost_ret (v := .int .i64 42) (by simp [results, Tryz.results283, go_sem]) rfl ?_
    rw [← HX.out]
    exact ⟨rfl, Kp.refl _ _, HM.out⟩
end
end Go.Proofs.Qxb6500275aGreatDoor
