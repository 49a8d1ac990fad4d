import Derived.Test.Qxb6500275aGreatDoorNoe
set_option maxRecDepth 100000
set_option linter.unusedVariables false
set_option linter.unusedSimpArgs false
namespace Go.Proofs.Qxb6500275aGreatDoor
open Go Go.RowKit
/- TWO CONTRACTS ON ONE CALL SPEAK OF ONE END -/
theorem calls_ret {P : Program} {f : FuncId} {args : Array Value} {w : World} {v v' : Value} {R R' : World → Prop}
    (h : Calls P f args w fun e w' => e = .returned v ∧ R w') (h' : Calls P f args w fun e w' => e = .returned v' ∧ R' w') (hi : P.inits.idxOf? f = none) : v = v' := by
  have g : Calls P f args w fun | .returned u, w' => u = v ∧ R w' | _, _ => False := h.mono fun e w' ⟨he, q⟩ => by subst he; exact ⟨rfl, q⟩
  have g' : Calls P f args w fun | .returned u, w' => u = v' ∧ R' w' | _, _ => False := h'.mono fun e w' ⟨he, q⟩ => by subst he; exact ⟨rfl, q⟩
  obtain ⟨n, u, w1, e1, r1⟩ := g.done hi
  obtain ⟨m, u', w2, e2, r2⟩ := g'.done hi
  have a := runN_ended e1 m
  have b := runN_ended e2 n
  rw [Nat.add_comm, a] at b
  injection b with ho hw
  injection ho with hv
  rw [← r1.1, ← r2.1, hv]
theorem spG_lt (w : World) (o : Nat) (h1 : 139 ≤ o) (h2 : o ≤ 152) (x y : Nat) (hx : x < 4294967296) (hy : y < 4294967296) : spG Ieee.single 127 2143289344 139 o x y < 4294967296 := by
  obtain ⟨c, c1, c2, hc⟩ := float32s_all (o : Int) (by omega) (by omega) (x : Int) (y : Int) (by omega) (by omega)
  have h := calls_ret (rf32_all o h1 h2 x y hx hy w) (hc w) (by kernel_rfl)
  injection h with _ h
  omega
theorem divM_lt (q : Bool) (a b : Nat) (ha : a < 4294967296) : (divM q 32 a b).1 < 4294967296 := by
  have hm : ∀ k : Nat, k % 2 ^ 32 < 4294967296 := fun k => Nat.mod_lt _ (by decide)
  unfold divM
  by_cases h0 : b = 0
  · rw [if_pos h0]; show 0 < 4294967296; decide
  · rw [if_neg h0]
    cases q
    · rw [if_neg (by decide)]
      by_cases h1 : 2 ^ (32 - 1) ≤ a
      · rw [if_pos h1]; exact hm _
      · rw [if_neg h1]
        show magN 32 a % magN 32 b < 4294967296
        refine Nat.lt_of_le_of_lt (Nat.mod_le _ _) ?_
        unfold magN
        rw [if_neg h1]
        exact ha
    · rw [if_pos rfl]
      split
      · by_cases h1 : 2 ^ (32 - 1) ≤ magN 32 a / magN 32 b
        · rw [if_pos h1]; show 0 < 4294967296; decide
        · rw [if_neg h1]
          show magN 32 a / magN 32 b < 4294967296
          have : (2 : Nat) ^ (32 - 1) = 2147483648 := by decide
          omega
      · exact hm _
theorem shrs_lt (a c : Nat) (ha : a < 4294967296) (hc : c < 32) : shrsM 32 a c < 4294967296 := by
  have h := sh_32 a c ha hc
  omega
theorem ibin_lt (k a b : Nat) (ha : a < 4294967296) (hb : b < 4294967296) : (ibinM 32 k a b).1 < 4294967296 := by
  have hm : ∀ k : Nat, k % 2 ^ 32 < 4294967296 := fun k => Nat.mod_lt _ (by decide)
  unfold ibinM
  by_cases c0 : k = 0
  · rw [if_pos c0]; exact hm _
  rw [if_neg c0]
  by_cases c1 : k = 1
  · rw [if_pos c1]; exact hm _
  rw [if_neg c1]
  by_cases c2 : k = 2
  · rw [if_pos c2]; exact hm _
  rw [if_neg c2]
  by_cases c3 : k = 3
  · rw [if_pos c3]; exact divM_lt _ a b ha
  rw [if_neg c3]
  by_cases c4 : k = 4
  · rw [if_pos c4]
    split
    · show 0 < 4294967296; decide
    · exact Nat.lt_of_le_of_lt (Nat.div_le_self _ _) ha
  rw [if_neg c4]
  by_cases c5 : k = 5
  · rw [if_pos c5]; exact divM_lt _ a b ha
  rw [if_neg c5]
  by_cases c6 : k = 6
  · rw [if_pos c6]
    split
    · show 0 < 4294967296; decide
    · exact Nat.lt_of_le_of_lt (Nat.mod_le _ _) ha
  rw [if_neg c6]
  by_cases c7 : k = 7
  · rw [if_pos c7]; exact Nat.lt_of_le_of_lt Nat.and_le_left ha
  rw [if_neg c7]
  by_cases c8 : k = 8
  · rw [if_pos c8]; exact Nat.or_lt_two_pow (n := 32) ha hb
  rw [if_neg c8]
  by_cases c9 : k = 9
  · rw [if_pos c9]; exact Nat.xor_lt_two_pow (n := 32) ha hb
  rw [if_neg c9]
  by_cases c10 : k = 10
  · rw [if_pos c10]; exact hm _
  rw [if_neg c10]
  by_cases c11 : k = 11
  · rw [if_pos c11]; exact shrs_lt a _ ha (Nat.mod_lt _ (by decide))
  rw [if_neg c11]
  by_cases c12 : k = 12
  · rw [if_pos c12]; exact Nat.lt_of_le_of_lt (Nat.div_le_self _ _) ha
  rw [if_neg c12]
  by_cases c13 : k = 13
  · rw [if_pos c13]; exact hm _
  rw [if_neg c13]
  exact hm _
theorem ctz_le : ∀ n a, ctzF n a ≤ n
  | 0, a => by rw [ctzF]; omega
  | n + 1, a => by
    rw [ctzF]
    have := ctz_le n (a / 2)
    split <;> omega
theorem spE_lt (o : Nat) (h1 : 103 ≤ o) (h2 : o ≤ 120) (x y : Nat) (hx : x < 4294967296) (hy : y < 4294967296) : (spE 32 103 o x y).1 < 4294967296 := by
  unfold spE
  split
  · unfold iunM
    have p1 := pop_le x 32
    have p2 := ctz_le 32 x
    have p3 : clzN 32 x ≤ 32 := by unfold clzN; split <;> omega
    dsimp only
    split
    · omega
    · split <;> omega
  · exact ibin_lt _ x y hx hy
theorem flag_f (b : Bool) (w : World) : Calls Tryz.prog 167 #[.bool b] w fun e w' => e = .returned (.int .u64 ((flagN b : Nat) : Int)) ∧ w' = w := by
  cases b
  · exact flag_no w
  · exact flag_yes w
set_option maxHeartbeats 4000000 in
theorem applyR_a (o : Nat) (h1 : 69 ≤ o) (h2 : o ≤ 79) (a b : Nat) (ha : a < 18446744073709551616) (hb : b < 18446744073709551616) (w : World) : Calls Tryz.prog 104 #[.int .i64 (o : Int), .int .u64 (a : Int), .int .u64 (b : Int)] w fun e' w' => e' = .returned (.tuple #[.int .u64 (((numP o a b).1 : Nat) : Int), .int .i64 (((numP o a b).2 : Nat) : Int)]) ∧ sameWorld w w' := by
  obtain ⟨x, hx⟩ : ∃ x : Nat, a % 4294967296 = x := ⟨_, rfl⟩
  obtain ⟨y, hy⟩ : ∃ y : Nat, b % 4294967296 = y := ⟨_, rfl⟩
  have hxl : x < 4294967296 := by rw [← hx]; exact Nat.mod_lt _ (by decide)
  have hyl : y < 4294967296 := by rw [← hy]; exact Nat.mod_lt _ (by decide)
  have hxi : (a : Int) % 4294967296 = (x : Int) := by omega
  have hyi : (b : Int) % 4294967296 = (y : Int) := by omega
  have hsp : numP o a b = (flagN (spA 32 69 o x y), 0) := by
    have hs : numSig o = (if o = 69 then 1 else 2, 127, 127) := by
      unfold numSig
      by_cases ho : o = 69
      · rw [ho]; rfl
      · repeat (first | rw [if_pos (by omega)] | rw [if_neg (by omega)])
    have hcut : ∀ a, cut32 o a = a % 4294967296 := fun a => by unfold cut32; rw [hs]; rw [if_pos (by simp)]
    unfold numP spA
    rw [hcut a, hcut b, hx, hy]
    by_cases ho : o = 69
    · rw [if_pos (by omega), if_pos ho]
    · rw [if_neg (by omega), if_neg ho]
      repeat (first | rw [if_pos (by omega)] | rw [if_neg (by omega)])
  rw [hsp]
  have hr := fun w => rr32_all o h1 h2 x y hxl hyl w
  generalize spA 32 69 o x y = B at hr ⊢
  dsimp only
  have h0 : ¬ (o : Int) < 69 := by omega
  have h9 : ¬ (191 : Int) < (o : Int) := by omega
  have gg79 : (o : Int) ≤ 79 := by omega
  clear hsp h1 h2 hx hy
  go_enter Tryz.func104, Tryz.ntmps104
  go_wp2_with (first | (go_at_call 168; refine (hr _).mono ?_; rintro e w' ⟨rfl, rfl⟩) | (go_at_call 167; refine (flag_f _ _).mono ?_; rintro e w' ⟨rfl, rfl⟩))
  go_ret2
  exact ⟨rfl, sw_refl _⟩
set_option maxHeartbeats 4000000 in
theorem applyR_b (o : Nat) (h1 : 80 ≤ o) (h2 : o ≤ 90) (a b : Nat) (ha : a < 18446744073709551616) (hb : b < 18446744073709551616) (w : World) : Calls Tryz.prog 104 #[.int .i64 (o : Int), .int .u64 (a : Int), .int .u64 (b : Int)] w fun e' w' => e' = .returned (.tuple #[.int .u64 (((numP o a b).1 : Nat) : Int), .int .i64 (((numP o a b).2 : Nat) : Int)]) ∧ sameWorld w w' := by
  have hsp : numP o a b = (flagN (spA 64 80 o a b), 0) := by
    have hs : numSig o = (if o = 80 then 1 else 2, 126, 127) := by
      unfold numSig
      by_cases ho : o = 80
      · rw [ho]; rfl
      · repeat (first | rw [if_pos (by omega)] | rw [if_neg (by omega)])
    have hcut : ∀ a, cut32 o a = a := fun a => by unfold cut32; rw [hs]; rw [if_neg (by simp)]
    unfold numP spA
    rw [hcut a, hcut b]
    by_cases ho : o = 80
    · rw [if_pos (by omega), if_pos ho]
    · rw [if_neg (by omega), if_neg ho]
      repeat (first | rw [if_pos (by omega)] | rw [if_neg (by omega)])
  rw [hsp]
  have hr := fun w => rr64_all o h1 h2 a b ha hb w
  generalize spA 64 80 o a b = B at hr ⊢
  dsimp only
  have h0 : ¬ (o : Int) < 69 := by omega
  have h9 : ¬ (191 : Int) < (o : Int) := by omega
  have g79 : ¬ (o : Int) ≤ 79 := by omega
  have gg90 : (o : Int) ≤ 90 := by omega
  clear hsp h1 h2
  go_enter Tryz.func104, Tryz.ntmps104
  go_wp2_with (first | (go_at_call 169; refine (hr _).mono ?_; rintro e w' ⟨rfl, rfl⟩) | (go_at_call 167; refine (flag_f _ _).mono ?_; rintro e w' ⟨rfl, rfl⟩))
  go_ret2
  exact ⟨rfl, sw_refl _⟩
set_option maxHeartbeats 4000000 in
theorem applyR_c (o : Nat) (h1 : 91 ≤ o) (h2 : o ≤ 96) (a b : Nat) (ha : a < 18446744073709551616) (hb : b < 18446744073709551616) (w : World) : Calls Tryz.prog 104 #[.int .i64 (o : Int), .int .u64 (a : Int), .int .u64 (b : Int)] w fun e' w' => e' = .returned (.tuple #[.int .u64 (((numP o a b).1 : Nat) : Int), .int .i64 (((numP o a b).2 : Nat) : Int)]) ∧ sameWorld w w' := by
  obtain ⟨x, hx⟩ : ∃ x : Nat, a % 4294967296 = x := ⟨_, rfl⟩
  obtain ⟨y, hy⟩ : ∃ y : Nat, b % 4294967296 = y := ⟨_, rfl⟩
  have hxl : x < 4294967296 := by rw [← hx]; exact Nat.mod_lt _ (by decide)
  have hyl : y < 4294967296 := by rw [← hy]; exact Nat.mod_lt _ (by decide)
  have hxi : (a : Int) % 4294967296 = (x : Int) := by omega
  have hyi : (b : Int) % 4294967296 = (y : Int) := by omega
  have hsp : numP o a b = (flagN (cmpM Ieee.single (o - 91) x y), 0) := by
    have hs : numSig o = (2, 125, 127) := by
      unfold numSig
      repeat (first | rw [if_pos (by omega)] | rw [if_neg (by omega)])
    have hcut : ∀ a, cut32 o a = a % 4294967296 := fun a => by unfold cut32; rw [hs]; rw [if_pos (by simp)]
    unfold numP
    rw [hcut a, hcut b, hx, hy]
    repeat (first | rw [if_pos (by omega)] | rw [if_neg (by omega)])
  rw [hsp]
  have hr := fun w => rl32_all o h1 h2 x y hxl hyl w
  generalize cmpM Ieee.single (o - 91) x y = B at hr ⊢
  dsimp only
  have h0 : ¬ (o : Int) < 69 := by omega
  have h9 : ¬ (191 : Int) < (o : Int) := by omega
  have g79 : ¬ (o : Int) ≤ 79 := by omega
  have g90 : ¬ (o : Int) ≤ 90 := by omega
  have gg96 : (o : Int) ≤ 96 := by omega
  clear hsp h1 h2 hx hy
  go_enter Tryz.func104, Tryz.ntmps104
  go_wp2_with (first | (go_at_call 170; refine (hr _).mono ?_; rintro e w' ⟨rfl, rfl⟩) | (go_at_call 167; refine (flag_f _ _).mono ?_; rintro e w' ⟨rfl, rfl⟩) | simp only [c136, Int.toNat_natCast])
  go_ret2
  exact ⟨rfl, sw_refl _⟩
set_option maxHeartbeats 4000000 in
theorem applyR_d (o : Nat) (h1 : 97 ≤ o) (h2 : o ≤ 102) (a b : Nat) (ha : a < 18446744073709551616) (hb : b < 18446744073709551616) (w : World) : Calls Tryz.prog 104 #[.int .i64 (o : Int), .int .u64 (a : Int), .int .u64 (b : Int)] w fun e' w' => e' = .returned (.tuple #[.int .u64 (((numP o a b).1 : Nat) : Int), .int .i64 (((numP o a b).2 : Nat) : Int)]) ∧ sameWorld w w' := by
  have hsp : numP o a b = (flagN (cmpM Ieee.double (o - 97) a b), 0) := by
    have hs : numSig o = (2, 124, 127) := by
      unfold numSig
      repeat (first | rw [if_pos (by omega)] | rw [if_neg (by omega)])
    have hcut : ∀ a, cut32 o a = a := fun a => by unfold cut32; rw [hs]; rw [if_neg (by simp)]
    unfold numP
    rw [hcut a, hcut b]
    repeat (first | rw [if_pos (by omega)] | rw [if_neg (by omega)])
  rw [hsp]
  have hr := fun w => rl64_all o h1 h2 a b ha hb w
  generalize cmpM Ieee.double (o - 97) a b = B at hr ⊢
  dsimp only
  have h0 : ¬ (o : Int) < 69 := by omega
  have h9 : ¬ (191 : Int) < (o : Int) := by omega
  have g79 : ¬ (o : Int) ≤ 79 := by omega
  have g90 : ¬ (o : Int) ≤ 90 := by omega
  have g96 : ¬ (o : Int) ≤ 96 := by omega
  have gg102 : (o : Int) ≤ 102 := by omega
  clear hsp h1 h2
  go_enter Tryz.func104, Tryz.ntmps104
  go_wp2_with (first | (go_at_call 172; refine (hr _).mono ?_; rintro e w' ⟨rfl, rfl⟩) | (go_at_call 167; refine (flag_f _ _).mono ?_; rintro e w' ⟨rfl, rfl⟩) | simp only [c138, Int.toNat_natCast])
  go_ret2
  exact ⟨rfl, sw_refl _⟩
set_option maxHeartbeats 4000000 in
theorem applyR_e (o : Nat) (h1 : 103 ≤ o) (h2 : o ≤ 120) (a b : Nat) (ha : a < 18446744073709551616) (hb : b < 18446744073709551616) (w : World) : Calls Tryz.prog 104 #[.int .i64 (o : Int), .int .u64 (a : Int), .int .u64 (b : Int)] w fun e' w' => e' = .returned (.tuple #[.int .u64 (((numP o a b).1 : Nat) : Int), .int .i64 (((numP o a b).2 : Nat) : Int)]) ∧ sameWorld w w' := by
  obtain ⟨x, hx⟩ : ∃ x : Nat, a % 4294967296 = x := ⟨_, rfl⟩
  obtain ⟨y, hy⟩ : ∃ y : Nat, b % 4294967296 = y := ⟨_, rfl⟩
  have hxl : x < 4294967296 := by rw [← hx]; exact Nat.mod_lt _ (by decide)
  have hyl : y < 4294967296 := by rw [← hy]; exact Nat.mod_lt _ (by decide)
  have hxi : (a : Int) % 4294967296 = (x : Int) := by omega
  have hyi : (b : Int) % 4294967296 = (y : Int) := by omega
  have hsp : numP o a b = spE 32 103 o x y := by
    have hs : (numSig o).2.1 = 127 := by
      unfold numSig
      by_cases ho : o ≤ 105
      · repeat (first | rw [if_pos (by omega)] | rw [if_neg (by omega)])
      · repeat (first | rw [if_pos (by omega)] | rw [if_neg (by omega)])
    have hcut : ∀ a, cut32 o a = a % 4294967296 := fun a => by unfold cut32; rw [hs]; rw [if_pos (by simp)]
    unfold numP spE
    rw [hcut a, hcut b, hx, hy]
    by_cases ho : o ≤ 105
    · repeat (first | rw [if_pos (by omega)] | rw [if_neg (by omega)])
    · repeat (first | rw [if_pos (by omega)] | rw [if_neg (by omega)])
  rw [hsp]
  have hr := fun w => ri32_all o h1 h2 x y hxl hyl w
  have hbd := spE_lt o h1 h2 x y hxl hyl
  generalize spE 32 103 o x y = X at *
  obtain ⟨x1, x2⟩ := X
  dsimp only at *
  have h0 : ¬ (o : Int) < 69 := by omega
  have h9 : ¬ (191 : Int) < (o : Int) := by omega
  have g79 : ¬ (o : Int) ≤ 79 := by omega
  have g90 : ¬ (o : Int) ≤ 90 := by omega
  have g96 : ¬ (o : Int) ≤ 96 := by omega
  have g102 : ¬ (o : Int) ≤ 102 := by omega
  have gg120 : (o : Int) ≤ 120 := by omega
  clear hsp h1 h2 hx hy
  go_enter Tryz.func104, Tryz.ntmps104
  go_wp2_with (go_at_call 174; refine (hr _).mono ?_; rintro e w' ⟨rfl, rfl⟩)
  go_ret2
  first | exact ⟨rfl, sw_refl _⟩ | exact ⟨ret2_eq (by rw [wrap_u64]; omega) rfl, sw_refl _⟩ | exact ⟨ret2_eq (by omega) rfl, sw_refl _⟩
set_option maxHeartbeats 4000000 in
theorem applyR_f (o : Nat) (h1 : 121 ≤ o) (h2 : o ≤ 138) (a b : Nat) (ha : a < 18446744073709551616) (hb : b < 18446744073709551616) (w : World) : Calls Tryz.prog 104 #[.int .i64 (o : Int), .int .u64 (a : Int), .int .u64 (b : Int)] w fun e' w' => e' = .returned (.tuple #[.int .u64 (((numP o a b).1 : Nat) : Int), .int .i64 (((numP o a b).2 : Nat) : Int)]) ∧ sameWorld w w' := by
  have hsp : numP o a b = spE 64 121 o a b := by
    have hs : (numSig o).2.1 = 126 := by
      unfold numSig
      by_cases ho : o ≤ 123
      · repeat (first | rw [if_pos (by omega)] | rw [if_neg (by omega)])
      · repeat (first | rw [if_pos (by omega)] | rw [if_neg (by omega)])
    have hcut : ∀ a, cut32 o a = a := fun a => by unfold cut32; rw [hs]; rw [if_neg (by simp)]
    unfold numP spE
    rw [hcut a, hcut b]
    by_cases ho : o ≤ 123
    · repeat (first | rw [if_pos (by omega)] | rw [if_neg (by omega)])
    · repeat (first | rw [if_pos (by omega)] | rw [if_neg (by omega)])
  rw [hsp]
  have hr := fun w => ri64_all o h1 h2 a b ha hb w
  generalize spE 64 121 o a b = X at *
  obtain ⟨x1, x2⟩ := X
  dsimp only at *
  have h0 : ¬ (o : Int) < 69 := by omega
  have h9 : ¬ (191 : Int) < (o : Int) := by omega
  have g79 : ¬ (o : Int) ≤ 79 := by omega
  have g90 : ¬ (o : Int) ≤ 90 := by omega
  have g96 : ¬ (o : Int) ≤ 96 := by omega
  have g102 : ¬ (o : Int) ≤ 102 := by omega
  have g120 : ¬ (o : Int) ≤ 120 := by omega
  have gg138 : (o : Int) ≤ 138 := by omega
  clear hsp h1 h2
  go_enter Tryz.func104, Tryz.ntmps104
  go_wp2_with (go_at_call 175; refine (hr _).mono ?_; rintro e w' ⟨rfl, rfl⟩)
  go_ret2
  first | exact ⟨rfl, sw_refl _⟩ | exact ⟨ret2_eq (by rw [wrap_u64]; omega) rfl, sw_refl _⟩ | exact ⟨ret2_eq (by omega) rfl, sw_refl _⟩
set_option maxHeartbeats 4000000 in
theorem applyR_g (o : Nat) (h1 : 139 ≤ o) (h2 : o ≤ 152) (a b : Nat) (ha : a < 18446744073709551616) (hb : b < 18446744073709551616) (w : World) : Calls Tryz.prog 104 #[.int .i64 (o : Int), .int .u64 (a : Int), .int .u64 (b : Int)] w fun e' w' => e' = .returned (.tuple #[.int .u64 (((numP o a b).1 : Nat) : Int), .int .i64 (((numP o a b).2 : Nat) : Int)]) ∧ sameWorld w w' := by
  obtain ⟨x, hx⟩ : ∃ x : Nat, a % 4294967296 = x := ⟨_, rfl⟩
  obtain ⟨y, hy⟩ : ∃ y : Nat, b % 4294967296 = y := ⟨_, rfl⟩
  have hxl : x < 4294967296 := by rw [← hx]; exact Nat.mod_lt _ (by decide)
  have hyl : y < 4294967296 := by rw [← hy]; exact Nat.mod_lt _ (by decide)
  have hxi : (a : Int) % 4294967296 = (x : Int) := by omega
  have hyi : (b : Int) % 4294967296 = (y : Int) := by omega
  have hsp : numP o a b = (spG Ieee.single 127 2143289344 139 o x y, 0) := by
    have hs : (numSig o).2.1 = 125 := by
      unfold numSig
      by_cases ho : o ≤ 145
      · repeat (first | rw [if_pos (by omega)] | rw [if_neg (by omega)])
      · repeat (first | rw [if_pos (by omega)] | rw [if_neg (by omega)])
    have hcut : ∀ a, cut32 o a = a % 4294967296 := fun a => by unfold cut32; rw [hs]; rw [if_pos (by simp)]
    unfold numP spG
    rw [hcut a, hcut b, hx, hy]
    by_cases ho : o ≤ 145
    · repeat (first | rw [if_pos (by omega)] | rw [if_neg (by omega)])
    · repeat (first | rw [if_pos (by omega)] | rw [if_neg (by omega)])
  rw [hsp]
  have hr := fun w => rf32_all o h1 h2 x y hxl hyl w
  have hbd := spG_lt w o h1 h2 x y hxl hyl
  generalize spG Ieee.single 127 2143289344 139 o x y = X at *
  dsimp only
  have h0 : ¬ (o : Int) < 69 := by omega
  have h9 : ¬ (191 : Int) < (o : Int) := by omega
  have g79 : ¬ (o : Int) ≤ 79 := by omega
  have g90 : ¬ (o : Int) ≤ 90 := by omega
  have g96 : ¬ (o : Int) ≤ 96 := by omega
  have g102 : ¬ (o : Int) ≤ 102 := by omega
  have g120 : ¬ (o : Int) ≤ 120 := by omega
  have g138 : ¬ (o : Int) ≤ 138 := by omega
  have gg152 : (o : Int) ≤ 152 := by omega
  clear hsp h1 h2 hx hy
  go_enter Tryz.func104, Tryz.ntmps104
  go_wp2_with (go_at_call 176; refine (hr _).mono ?_; rintro e w1 ⟨rfl, hsw⟩)
  go_ret2
  first | exact ⟨rfl, hsw⟩ | exact ⟨ret2_eq (by rw [wrap_u64]; omega) rfl, hsw⟩ | exact ⟨ret2_eq (by omega) rfl, hsw⟩
set_option maxHeartbeats 4000000 in
theorem applyR_h (o : Nat) (h1 : 153 ≤ o) (h2 : o ≤ 166) (a b : Nat) (ha : a < 18446744073709551616) (hb : b < 18446744073709551616) (w : World) : Calls Tryz.prog 104 #[.int .i64 (o : Int), .int .u64 (a : Int), .int .u64 (b : Int)] w fun e' w' => e' = .returned (.tuple #[.int .u64 (((numP o a b).1 : Nat) : Int), .int .i64 (((numP o a b).2 : Nat) : Int)]) ∧ sameWorld w w' := by
  have hsp : numP o a b = (spG Ieee.double 1023 9221120237041090560 153 o a b, 0) := by
    have hs : (numSig o).2.1 = 124 := by
      unfold numSig
      by_cases ho : o ≤ 159
      · repeat (first | rw [if_pos (by omega)] | rw [if_neg (by omega)])
      · repeat (first | rw [if_pos (by omega)] | rw [if_neg (by omega)])
    have hcut : ∀ a, cut32 o a = a := fun a => by unfold cut32; rw [hs]; rw [if_neg (by simp)]
    unfold numP spG
    rw [hcut a, hcut b]
    by_cases ho : o ≤ 159
    · repeat (first | rw [if_pos (by omega)] | rw [if_neg (by omega)])
    · repeat (first | rw [if_pos (by omega)] | rw [if_neg (by omega)])
  rw [hsp]
  have hr := fun w => rf64_all o h1 h2 a b ha hb w
  generalize spG Ieee.double 1023 9221120237041090560 153 o a b = X at *
  dsimp only
  have h0 : ¬ (o : Int) < 69 := by omega
  have h9 : ¬ (191 : Int) < (o : Int) := by omega
  have g79 : ¬ (o : Int) ≤ 79 := by omega
  have g90 : ¬ (o : Int) ≤ 90 := by omega
  have g96 : ¬ (o : Int) ≤ 96 := by omega
  have g102 : ¬ (o : Int) ≤ 102 := by omega
  have g120 : ¬ (o : Int) ≤ 120 := by omega
  have g138 : ¬ (o : Int) ≤ 138 := by omega
  have g152 : ¬ (o : Int) ≤ 152 := by omega
  have gg166 : (o : Int) ≤ 166 := by omega
  clear hsp h1 h2
  go_enter Tryz.func104, Tryz.ntmps104
  go_wp2_with (go_at_call 177; refine (hr _).mono ?_; rintro e w1 ⟨rfl, hsw⟩)
  go_ret2
  first | exact ⟨rfl, hsw⟩ | exact ⟨ret2_eq (by rw [wrap_u64]; omega) rfl, hsw⟩ | exact ⟨ret2_eq (by omega) rfl, hsw⟩
set_option maxHeartbeats 4000000 in
theorem applyR_i (o : Nat) (h1 : 167 ≤ o) (h2 : o ≤ 191) (a b : Nat) (ha : a < 18446744073709551616) (hb : b < 18446744073709551616) (w : World) : Calls Tryz.prog 104 #[.int .i64 (o : Int), .int .u64 (a : Int), .int .u64 (b : Int)] w fun e' w' => e' = .returned (.tuple #[.int .u64 (((numP o a b).1 : Nat) : Int), .int .i64 (((numP o a b).2 : Nat) : Int)]) ∧ sameWorld w w' := by
  have hsp : numP o a b = convM o (cut32 o a) := by
    unfold numP
    repeat (first | rw [if_pos (by omega)] | rw [if_neg (by omega)])
  rw [hsp]
  have hr := fun w => rc_all o h1 h2 a ha w
  generalize convM o (cut32 o a) = X at *
  obtain ⟨x1, x2⟩ := X
  dsimp only at *
  have h0 : ¬ (o : Int) < 69 := by omega
  have h9 : ¬ (191 : Int) < (o : Int) := by omega
  have g79 : ¬ (o : Int) ≤ 79 := by omega
  have g90 : ¬ (o : Int) ≤ 90 := by omega
  have g96 : ¬ (o : Int) ≤ 96 := by omega
  have g102 : ¬ (o : Int) ≤ 102 := by omega
  have g120 : ¬ (o : Int) ≤ 120 := by omega
  have g138 : ¬ (o : Int) ≤ 138 := by omega
  have g152 : ¬ (o : Int) ≤ 152 := by omega
  have g166 : ¬ (o : Int) ≤ 166 := by omega
  clear hsp h1 h2
  go_enter Tryz.func104, Tryz.ntmps104
  go_wp2_with (go_at_call 178; refine (hr _).mono ?_; rintro e w1 ⟨rfl, hsw⟩)
  go_ret2
  exact ⟨rfl, hsw⟩
/- NUM.APPLY, EXPLICIT -/
theorem applyR_all (o : Nat) (h1 : 69 ≤ o) (h2 : o ≤ 191) (a b : Nat) (ha : a < 18446744073709551616) (hb : b < 18446744073709551616) (w : World) : Calls Tryz.prog 104 #[.int .i64 (o : Int), .int .u64 (a : Int), .int .u64 (b : Int)] w fun e' w' => e' = .returned (.tuple #[.int .u64 (((numP o a b).1 : Nat) : Int), .int .i64 (((numP o a b).2 : Nat) : Int)]) ∧ sameWorld w w' := by
  by_cases c79 : o ≤ 79
  · exact applyR_a o (by omega) c79 a b ha hb w
  by_cases c90 : o ≤ 90
  · exact applyR_b o (by omega) c90 a b ha hb w
  by_cases c96 : o ≤ 96
  · exact applyR_c o (by omega) c96 a b ha hb w
  by_cases c102 : o ≤ 102
  · exact applyR_d o (by omega) c102 a b ha hb w
  by_cases c120 : o ≤ 120
  · exact applyR_e o (by omega) c120 a b ha hb w
  by_cases c138 : o ≤ 138
  · exact applyR_f o (by omega) c138 a b ha hb w
  by_cases c152 : o ≤ 152
  · exact applyR_g o (by omega) c152 a b ha hb w
  by_cases c166 : o ≤ 166
  · exact applyR_h o (by omega) c166 a b ha hb w
  exact applyR_i o (by omega) h2 a b ha hb w
end Go.Proofs.Qxb6500275aGreatDoor
