import Derived.Test.Qxb6500275aGreatDoorMe1
set_option maxRecDepth 100000
set_option linter.unusedVariables false
set_option linter.unusedSimpArgs false
namespace Go.Proofs.Qxb6500275aGreatDoor
open Go Go.RowKit
/- api.Cut -/
theorem andM (q : Int) (h : 0 ≤ q ∧ q < 18446744073709551616) : bits .and .u64 q 4294967295 = q % 4294967296 := by
  unfold bits
  obtain ⟨n, rfl⟩ : ∃ n : Nat, q = n := ⟨q.toNat, by omega⟩
  have e : (BitVec.ofInt IntKind.u64.bits (n : Int) &&& BitVec.ofInt IntKind.u64.bits 4294967295).toNat = n % 4294967296 := by
    have e1 : (BitVec.ofInt IntKind.u64.bits (n : Int)).toNat = n := by
      simp [BitVec.toNat_ofInt, IntKind.bits]
      omega
    rw [BitVec.toNat_and, e1]
    show n &&& 4294967295 = n % 4294967296
    exact Nat.and_two_pow_sub_one_eq_mod n 32
  simp only [e]
  simp [IntKind.wrap, IntKind.bits, IntKind.signed]
  omega
def cutB (t : Nat) (v : Int) : Int := if t = 127 ∨ t = 125 then v % 4294967296 else v
theorem cutB_r {t : Nat} {v : Int} (h : 0 ≤ v ∧ v < 18446744073709551616) : 0 ≤ cutB t v ∧ cutB t v < 18446744073709551616 := by
  unfold cutB
  split <;> omega
theorem cut_calls2 (w : World) (t : Nat) (ht : t < 256) (v : Int) (hv : 0 ≤ v ∧ v < 18446744073709551616) : Calls Tryz.prog 46 #[.int .u8 t, .int .u64 v] w (Qm w (.int .u64 (cutB t v))) := by
  have ha := andM v hv
  obtain ⟨X, hX⟩ : ∃ X, cutB t v = X := ⟨_, rfl⟩
  rw [hX]
  unfold cutB at hX
  by_cases h1 : t = 127
  · subst h1
    rw [if_pos (.inl rfl)] at hX
    have HX : Hid _ := hX
    clear hX
    go_enter Tryz.func46, Tryz.ntmps46
    go_wp2
    refine bodyPost_ret (v := .int .u64 (v % 4294967296)) (by simp [results, Tryz.results46, go_sem, ha]) rfl ?_
    rw [HX.out]
    exact ⟨rfl, rfl⟩
  · by_cases h2 : t = 125
    · subst h2
      rw [if_pos (.inr rfl)] at hX
      have HX : Hid _ := hX
      clear hX
      go_enter Tryz.func46, Tryz.ntmps46
      go_wp2
      refine bodyPost_ret (v := .int .u64 (v % 4294967296)) (by simp [results, Tryz.results46, go_sem, ha]) rfl ?_
      rw [HX.out]
      exact ⟨rfl, rfl⟩
    · rw [if_neg (by omega)] at hX
      subst hX
      have h1' : ((t : Int) == 127) = false := by simp; omega
      have h2' : ((t : Int) == 125) = false := by simp; omega
      go_enter Tryz.func46, Tryz.ntmps46
      go_wp2
      refine bodyPost_ret (v := .int .u64 v) (by simp [results, Tryz.results46, go_sem]) rfl ?_
      exact ⟨rfl, rfl⟩
/- a branch's Y -/
theorem height_calls (w : World) (k h : Nat) (hk : k ≤ 1) (hh : h ≤ 10) : Calls Tryz.prog 105 #[.int .u64 ((k : Int) * 4294967296 + (h : Int))] w (Qm w (.int .i64 h)) := by
  have ha := andM ((k : Int) * 4294967296 + (h : Int)) (by omega)
  have e : ((k : Int) * 4294967296 + (h : Int)) % 4294967296 = h := by omega
  rw [e] at ha
  go_enter Tryz.func105, Tryz.ntmps105
  go_wp2
  refine bodyPost_ret (v := .int .i64 h) (by simp [results, Tryz.results105, go_sem, ha]) rfl ?_
  exact ⟨rfl, rfl⟩
theorem keep_calls (w : World) (k h : Nat) (hk : k ≤ 1) (hh : h ≤ 10) : Calls Tryz.prog 106 #[.int .u64 ((k : Int) * 4294967296 + (h : Int))] w (Qm w (.int .i64 k)) := by
  have e : ((k : Int) * 4294967296 + (h : Int)) / 4294967296 = k := by omega
  go_enter Tryz.func106, Tryz.ntmps106
  go_wp2
  refine bodyPost_ret (v := .int .i64 k) (by simp [results, Tryz.results106, go_sem, e]) rfl ?_
  exact ⟨rfl, rfl⟩
/- which operators take two -/
def twoS (op : Nat) : Bool := decide ((70 ≤ op ∧ op ≤ 79) ∨ (81 ≤ op ∧ op ≤ 102) ∨ (106 ≤ op ∧ op ≤ 120) ∨ (124 ≤ op ∧ op ≤ 138) ∨ (146 ≤ op ∧ op ≤ 152) ∨ (160 ≤ op ∧ op ≤ 166))
set_option maxHeartbeats 4000000 in
theorem two_calls (w : World) (op : Nat) (h1 : 69 ≤ op) (h2 : op ≤ 191) : Calls Tryz.prog 103 #[.int .u8 op] w (Qm w (.bool (twoS op))) := by
  by_cases c0 : op ≤ 69
  · have ht : twoS op = false := by unfold twoS; simp; omega
    rw [ht]
    have l70 : ¬ ((70 : Int) ≤ (op : Int)) := by omega
    have g79 : ((op : Int) ≤ 79) := by omega
    have l81 : ¬ ((81 : Int) ≤ (op : Int)) := by omega
    have g102 : ((op : Int) ≤ 102) := by omega
    have l106 : ¬ ((106 : Int) ≤ (op : Int)) := by omega
    have g120 : ((op : Int) ≤ 120) := by omega
    have l124 : ¬ ((124 : Int) ≤ (op : Int)) := by omega
    have g138 : ((op : Int) ≤ 138) := by omega
    have l146 : ¬ ((146 : Int) ≤ (op : Int)) := by omega
    have g152 : ((op : Int) ≤ 152) := by omega
    have l160 : ¬ ((160 : Int) ≤ (op : Int)) := by omega
    have g166 : ((op : Int) ≤ 166) := by omega
    clear ht
    go_enter Tryz.func103, Tryz.ntmps103
    go_wp2
    refine bodyPost_ret (v := .bool false) (by simp [results, Tryz.results103, go_sem]) rfl ?_
    exact ⟨rfl, rfl⟩
  by_cases c1 : op ≤ 79
  · have ht : twoS op = true := by unfold twoS; simp; omega
    rw [ht]
    have l70 : ((70 : Int) ≤ (op : Int)) := by omega
    have g79 : ((op : Int) ≤ 79) := by omega
    have l81 : ¬ ((81 : Int) ≤ (op : Int)) := by omega
    have g102 : ((op : Int) ≤ 102) := by omega
    have l106 : ¬ ((106 : Int) ≤ (op : Int)) := by omega
    have g120 : ((op : Int) ≤ 120) := by omega
    have l124 : ¬ ((124 : Int) ≤ (op : Int)) := by omega
    have g138 : ((op : Int) ≤ 138) := by omega
    have l146 : ¬ ((146 : Int) ≤ (op : Int)) := by omega
    have g152 : ((op : Int) ≤ 152) := by omega
    have l160 : ¬ ((160 : Int) ≤ (op : Int)) := by omega
    have g166 : ((op : Int) ≤ 166) := by omega
    clear ht
    go_enter Tryz.func103, Tryz.ntmps103
    go_wp2
    refine bodyPost_ret (v := .bool true) (by simp [results, Tryz.results103, go_sem]) rfl ?_
    exact ⟨rfl, rfl⟩
  by_cases c2 : op ≤ 80
  · have ht : twoS op = false := by unfold twoS; simp; omega
    rw [ht]
    have l70 : ((70 : Int) ≤ (op : Int)) := by omega
    have g79 : ¬ ((op : Int) ≤ 79) := by omega
    have l81 : ¬ ((81 : Int) ≤ (op : Int)) := by omega
    have g102 : ((op : Int) ≤ 102) := by omega
    have l106 : ¬ ((106 : Int) ≤ (op : Int)) := by omega
    have g120 : ((op : Int) ≤ 120) := by omega
    have l124 : ¬ ((124 : Int) ≤ (op : Int)) := by omega
    have g138 : ((op : Int) ≤ 138) := by omega
    have l146 : ¬ ((146 : Int) ≤ (op : Int)) := by omega
    have g152 : ((op : Int) ≤ 152) := by omega
    have l160 : ¬ ((160 : Int) ≤ (op : Int)) := by omega
    have g166 : ((op : Int) ≤ 166) := by omega
    clear ht
    go_enter Tryz.func103, Tryz.ntmps103
    go_wp2
    refine bodyPost_ret (v := .bool false) (by simp [results, Tryz.results103, go_sem]) rfl ?_
    exact ⟨rfl, rfl⟩
  by_cases c3 : op ≤ 102
  · have ht : twoS op = true := by unfold twoS; simp; omega
    rw [ht]
    have l70 : ((70 : Int) ≤ (op : Int)) := by omega
    have g79 : ¬ ((op : Int) ≤ 79) := by omega
    have l81 : ((81 : Int) ≤ (op : Int)) := by omega
    have g102 : ((op : Int) ≤ 102) := by omega
    have l106 : ¬ ((106 : Int) ≤ (op : Int)) := by omega
    have g120 : ((op : Int) ≤ 120) := by omega
    have l124 : ¬ ((124 : Int) ≤ (op : Int)) := by omega
    have g138 : ((op : Int) ≤ 138) := by omega
    have l146 : ¬ ((146 : Int) ≤ (op : Int)) := by omega
    have g152 : ((op : Int) ≤ 152) := by omega
    have l160 : ¬ ((160 : Int) ≤ (op : Int)) := by omega
    have g166 : ((op : Int) ≤ 166) := by omega
    clear ht
    go_enter Tryz.func103, Tryz.ntmps103
    go_wp2
    refine bodyPost_ret (v := .bool true) (by simp [results, Tryz.results103, go_sem]) rfl ?_
    exact ⟨rfl, rfl⟩
  by_cases c4 : op ≤ 105
  · have ht : twoS op = false := by unfold twoS; simp; omega
    rw [ht]
    have l70 : ((70 : Int) ≤ (op : Int)) := by omega
    have g79 : ¬ ((op : Int) ≤ 79) := by omega
    have l81 : ((81 : Int) ≤ (op : Int)) := by omega
    have g102 : ¬ ((op : Int) ≤ 102) := by omega
    have l106 : ¬ ((106 : Int) ≤ (op : Int)) := by omega
    have g120 : ((op : Int) ≤ 120) := by omega
    have l124 : ¬ ((124 : Int) ≤ (op : Int)) := by omega
    have g138 : ((op : Int) ≤ 138) := by omega
    have l146 : ¬ ((146 : Int) ≤ (op : Int)) := by omega
    have g152 : ((op : Int) ≤ 152) := by omega
    have l160 : ¬ ((160 : Int) ≤ (op : Int)) := by omega
    have g166 : ((op : Int) ≤ 166) := by omega
    clear ht
    go_enter Tryz.func103, Tryz.ntmps103
    go_wp2
    refine bodyPost_ret (v := .bool false) (by simp [results, Tryz.results103, go_sem]) rfl ?_
    exact ⟨rfl, rfl⟩
  by_cases c5 : op ≤ 120
  · have ht : twoS op = true := by unfold twoS; simp; omega
    rw [ht]
    have l70 : ((70 : Int) ≤ (op : Int)) := by omega
    have g79 : ¬ ((op : Int) ≤ 79) := by omega
    have l81 : ((81 : Int) ≤ (op : Int)) := by omega
    have g102 : ¬ ((op : Int) ≤ 102) := by omega
    have l106 : ((106 : Int) ≤ (op : Int)) := by omega
    have g120 : ((op : Int) ≤ 120) := by omega
    have l124 : ¬ ((124 : Int) ≤ (op : Int)) := by omega
    have g138 : ((op : Int) ≤ 138) := by omega
    have l146 : ¬ ((146 : Int) ≤ (op : Int)) := by omega
    have g152 : ((op : Int) ≤ 152) := by omega
    have l160 : ¬ ((160 : Int) ≤ (op : Int)) := by omega
    have g166 : ((op : Int) ≤ 166) := by omega
    clear ht
    go_enter Tryz.func103, Tryz.ntmps103
    go_wp2
    refine bodyPost_ret (v := .bool true) (by simp [results, Tryz.results103, go_sem]) rfl ?_
    exact ⟨rfl, rfl⟩
  by_cases c6 : op ≤ 123
  · have ht : twoS op = false := by unfold twoS; simp; omega
    rw [ht]
    have l70 : ((70 : Int) ≤ (op : Int)) := by omega
    have g79 : ¬ ((op : Int) ≤ 79) := by omega
    have l81 : ((81 : Int) ≤ (op : Int)) := by omega
    have g102 : ¬ ((op : Int) ≤ 102) := by omega
    have l106 : ((106 : Int) ≤ (op : Int)) := by omega
    have g120 : ¬ ((op : Int) ≤ 120) := by omega
    have l124 : ¬ ((124 : Int) ≤ (op : Int)) := by omega
    have g138 : ((op : Int) ≤ 138) := by omega
    have l146 : ¬ ((146 : Int) ≤ (op : Int)) := by omega
    have g152 : ((op : Int) ≤ 152) := by omega
    have l160 : ¬ ((160 : Int) ≤ (op : Int)) := by omega
    have g166 : ((op : Int) ≤ 166) := by omega
    clear ht
    go_enter Tryz.func103, Tryz.ntmps103
    go_wp2
    refine bodyPost_ret (v := .bool false) (by simp [results, Tryz.results103, go_sem]) rfl ?_
    exact ⟨rfl, rfl⟩
  by_cases c7 : op ≤ 138
  · have ht : twoS op = true := by unfold twoS; simp; omega
    rw [ht]
    have l70 : ((70 : Int) ≤ (op : Int)) := by omega
    have g79 : ¬ ((op : Int) ≤ 79) := by omega
    have l81 : ((81 : Int) ≤ (op : Int)) := by omega
    have g102 : ¬ ((op : Int) ≤ 102) := by omega
    have l106 : ((106 : Int) ≤ (op : Int)) := by omega
    have g120 : ¬ ((op : Int) ≤ 120) := by omega
    have l124 : ((124 : Int) ≤ (op : Int)) := by omega
    have g138 : ((op : Int) ≤ 138) := by omega
    have l146 : ¬ ((146 : Int) ≤ (op : Int)) := by omega
    have g152 : ((op : Int) ≤ 152) := by omega
    have l160 : ¬ ((160 : Int) ≤ (op : Int)) := by omega
    have g166 : ((op : Int) ≤ 166) := by omega
    clear ht
    go_enter Tryz.func103, Tryz.ntmps103
    go_wp2
    refine bodyPost_ret (v := .bool true) (by simp [results, Tryz.results103, go_sem]) rfl ?_
    exact ⟨rfl, rfl⟩
  by_cases c8 : op ≤ 145
  · have ht : twoS op = false := by unfold twoS; simp; omega
    rw [ht]
    have l70 : ((70 : Int) ≤ (op : Int)) := by omega
    have g79 : ¬ ((op : Int) ≤ 79) := by omega
    have l81 : ((81 : Int) ≤ (op : Int)) := by omega
    have g102 : ¬ ((op : Int) ≤ 102) := by omega
    have l106 : ((106 : Int) ≤ (op : Int)) := by omega
    have g120 : ¬ ((op : Int) ≤ 120) := by omega
    have l124 : ((124 : Int) ≤ (op : Int)) := by omega
    have g138 : ¬ ((op : Int) ≤ 138) := by omega
    have l146 : ¬ ((146 : Int) ≤ (op : Int)) := by omega
    have g152 : ((op : Int) ≤ 152) := by omega
    have l160 : ¬ ((160 : Int) ≤ (op : Int)) := by omega
    have g166 : ((op : Int) ≤ 166) := by omega
    clear ht
    go_enter Tryz.func103, Tryz.ntmps103
    go_wp2
    refine bodyPost_ret (v := .bool false) (by simp [results, Tryz.results103, go_sem]) rfl ?_
    exact ⟨rfl, rfl⟩
  by_cases c9 : op ≤ 152
  · have ht : twoS op = true := by unfold twoS; simp; omega
    rw [ht]
    have l70 : ((70 : Int) ≤ (op : Int)) := by omega
    have g79 : ¬ ((op : Int) ≤ 79) := by omega
    have l81 : ((81 : Int) ≤ (op : Int)) := by omega
    have g102 : ¬ ((op : Int) ≤ 102) := by omega
    have l106 : ((106 : Int) ≤ (op : Int)) := by omega
    have g120 : ¬ ((op : Int) ≤ 120) := by omega
    have l124 : ((124 : Int) ≤ (op : Int)) := by omega
    have g138 : ¬ ((op : Int) ≤ 138) := by omega
    have l146 : ((146 : Int) ≤ (op : Int)) := by omega
    have g152 : ((op : Int) ≤ 152) := by omega
    have l160 : ¬ ((160 : Int) ≤ (op : Int)) := by omega
    have g166 : ((op : Int) ≤ 166) := by omega
    clear ht
    go_enter Tryz.func103, Tryz.ntmps103
    go_wp2
    refine bodyPost_ret (v := .bool true) (by simp [results, Tryz.results103, go_sem]) rfl ?_
    exact ⟨rfl, rfl⟩
  by_cases c10 : op ≤ 159
  · have ht : twoS op = false := by unfold twoS; simp; omega
    rw [ht]
    have l70 : ((70 : Int) ≤ (op : Int)) := by omega
    have g79 : ¬ ((op : Int) ≤ 79) := by omega
    have l81 : ((81 : Int) ≤ (op : Int)) := by omega
    have g102 : ¬ ((op : Int) ≤ 102) := by omega
    have l106 : ((106 : Int) ≤ (op : Int)) := by omega
    have g120 : ¬ ((op : Int) ≤ 120) := by omega
    have l124 : ((124 : Int) ≤ (op : Int)) := by omega
    have g138 : ¬ ((op : Int) ≤ 138) := by omega
    have l146 : ((146 : Int) ≤ (op : Int)) := by omega
    have g152 : ¬ ((op : Int) ≤ 152) := by omega
    have l160 : ¬ ((160 : Int) ≤ (op : Int)) := by omega
    have g166 : ((op : Int) ≤ 166) := by omega
    clear ht
    go_enter Tryz.func103, Tryz.ntmps103
    go_wp2
    refine bodyPost_ret (v := .bool false) (by simp [results, Tryz.results103, go_sem]) rfl ?_
    exact ⟨rfl, rfl⟩
  by_cases c11 : op ≤ 166
  · have ht : twoS op = true := by unfold twoS; simp; omega
    rw [ht]
    have l70 : ((70 : Int) ≤ (op : Int)) := by omega
    have g79 : ¬ ((op : Int) ≤ 79) := by omega
    have l81 : ((81 : Int) ≤ (op : Int)) := by omega
    have g102 : ¬ ((op : Int) ≤ 102) := by omega
    have l106 : ((106 : Int) ≤ (op : Int)) := by omega
    have g120 : ¬ ((op : Int) ≤ 120) := by omega
    have l124 : ((124 : Int) ≤ (op : Int)) := by omega
    have g138 : ¬ ((op : Int) ≤ 138) := by omega
    have l146 : ((146 : Int) ≤ (op : Int)) := by omega
    have g152 : ¬ ((op : Int) ≤ 152) := by omega
    have l160 : ((160 : Int) ≤ (op : Int)) := by omega
    have g166 : ((op : Int) ≤ 166) := by omega
    clear ht
    go_enter Tryz.func103, Tryz.ntmps103
    go_wp2
    refine bodyPost_ret (v := .bool true) (by simp [results, Tryz.results103, go_sem]) rfl ?_
    exact ⟨rfl, rfl⟩
  · have ht : twoS op = false := by unfold twoS; simp; omega
    rw [ht]
    have l70 : ((70 : Int) ≤ (op : Int)) := by omega
    have g79 : ¬ ((op : Int) ≤ 79) := by omega
    have l81 : ((81 : Int) ≤ (op : Int)) := by omega
    have g102 : ¬ ((op : Int) ≤ 102) := by omega
    have l106 : ((106 : Int) ≤ (op : Int)) := by omega
    have g120 : ¬ ((op : Int) ≤ 120) := by omega
    have l124 : ((124 : Int) ≤ (op : Int)) := by omega
    have g138 : ¬ ((op : Int) ≤ 138) := by omega
    have l146 : ((146 : Int) ≤ (op : Int)) := by omega
    have g152 : ¬ ((op : Int) ≤ 152) := by omega
    have l160 : ((160 : Int) ≤ (op : Int)) := by omega
    have g166 : ¬ ((op : Int) ≤ 166) := by omega
    clear ht
    go_enter Tryz.func103, Tryz.ntmps103
    go_wp2
    refine bodyPost_ret (v := .bool false) (by simp [results, Tryz.results103, go_sem]) rfl ?_
    exact ⟨rfl, rfl⟩
end Go.Proofs.Qxb6500275aGreatDoor
