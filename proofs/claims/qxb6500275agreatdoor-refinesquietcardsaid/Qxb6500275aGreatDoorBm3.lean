import Derived.Test.Qxb6500275aGreatDoorBm2
set_option maxRecDepth 100000
set_option linter.unusedVariables false
set_option linter.unusedSimpArgs false
namespace Go.Proofs.Qxb6500275aGreatDoor
open Go Go.RowKit
def encQ8 (n : Int) : Value := .int .u64 n
theorem leb_g1 {vv c sh : Nat} (h : vv + c % 128 * 2 ^ sh < 18446744073709551616) : IntKind.u64.wrap ((vv : Int) + IntKind.u64.wrap ((c : Int) % 128 * 2 ^ sh)) = ((vv + c % 128 * 2 ^ sh : Nat) : Int) := by
  have e : ((c : Int) % 128 * 2 ^ sh) = ((c % 128 * 2 ^ sh : Nat) : Int) := by push_cast; rfl
  rw [e]
  generalize c % 128 * 2 ^ sh = z at *
  rw [IntKind.wrap_u64, IntKind.wrap_u64]
  omega
theorem leb_g2 {n V sh : Nat} (hn : n = 32 ∨ n = 64) (hs : sh + 7 ≤ n) (h63 : sh + 7 ≤ 63) (hV : V < 2 ^ (sh + 7)) :
    IntKind.u64.wrap ((V : Int) + IntKind.u64.wrap (IntKind.u64.wrap (IntKind.u64.wrap (IntKind.u64.wrap (2 ^ (n - 1)) - 1) + IntKind.u64.wrap (2 ^ (n - 1))) - IntKind.u64.wrap (IntKind.u64.wrap (2 ^ (sh + 7)) - 1))) = ((V + (2 ^ n - 2 ^ (sh + 7)) : Nat) : Int) := by
  have hp : 2 ^ (sh + 7) ≤ 2 ^ 63 := Nat.pow_le_pow_right (by decide) h63
  have hpn : 2 ^ (sh + 7) ≤ 2 ^ n := Nat.pow_le_pow_right (by decide) hs
  have e63 : (2 : Nat) ^ 63 = 9223372036854775808 := by decide
  have e : (2 : Int) ^ (sh + 7) = ((2 ^ (sh + 7) : Nat) : Int) := by push_cast; rfl
  have h1 : 1 ≤ 2 ^ (sh + 7) := Nat.one_le_two_pow
  rw [e]
  generalize 2 ^ (sh + 7) = T at *
  rcases hn with rfl | rfl
  · have e1 : (2 : Int) ^ (32 - 1) = 2147483648 := by decide
    have e2 : (2 : Nat) ^ 32 = 4294967296 := by decide
    rw [e1, e2] at *
    simp only [IntKind.wrap_u64]
    omega
  · have e1 : (2 : Int) ^ (64 - 1) = 9223372036854775808 := by decide
    have e2 : (2 : Nat) ^ 64 = 18446744073709551616 := by decide
    rw [e1, e2] at *
    simp only [IntKind.wrap_u64]
    omega
theorem leb_b {V T N : Nat} (h1 : V < T) (h2 : T ≤ N) (h3 : N ≤ 2 ^ 64) : 0 ≤ ((V + (N - T) : Nat) : Int) ∧ ((V + (N - T) : Nat) : Int) < (N : Int) := by
  omega
theorem leb_b2 {V T N : Nat} (h1 : V < T) (h2 : T ≤ N) : 0 ≤ (V : Int) ∧ (V : Int) < (N : Int) := by omega
section
variable {w w' : World} {b : Nat} {s : ByteArray} {p e : Nat} {er : Int} {a : Nat}
theorem leb_bad {X : R Int} {n k vv m q q2 c a1 a2 : Nat} {sg : Bool} {er2 : Int} (hL : lebL s e p n sg (m + 1) k vv q = X) (hC : Cu (nextS s q e) er a1 c q2 er2 a2) (he2 : er2 ≠ 0) (ha : er ≠ 0 → a1 = a) : Cu X er a 0 q2 er2 a2 := by
  constructor
  · intro he
    rcases hC.1 he with ⟨_, h1⟩ | ⟨ho, h1⟩
    · exact absurd h1 he2
    · refine .inr ⟨?_, h1⟩
      unfold nextS at ho
      split at ho
      · simp at ho
      · rename_i hq
        rw [lebL, if_neg hq] at hL
        rw [← hL]
        simpa using ho
  · intro he
    obtain ⟨h1, h2⟩ := hC.2 he
    exact ⟨h1, h2.trans (ha he)⟩
theorem next_good {q q2 c a1 a2 : Nat} (hC : Cu (nextS s q e) er a1 c q2 0 a2) : er = 0 ∧ q < e ∧ bAt s q = c ∧ q2 = q + 1 := by
  have he : er = 0 := Classical.byContradiction (fun h => h ((hC.2 h).1.symm))
  rcases hC.1 he with ⟨ho, _⟩ | ⟨ho, h1⟩
  · unfold nextS at ho
    split at ho
    · rename_i hq
      simp at ho
      exact ⟨he, hq, ho.1, ho.2.symm⟩
    · simp at ho
  · exact absurd rfl h1
theorem leb_z {vv c sh : Nat} (h : vv + c * 2 ^ sh < 18446744073709551616) : IntKind.u64.wrap ((vv : Int) + IntKind.u64.wrap ((c : Int) * 2 ^ sh)) = ((vv + c * 2 ^ sh : Nat) : Int) := by
  have e : ((c : Int) * 2 ^ sh) = ((c * 2 ^ sh : Nat) : Int) := by push_cast; rfl
  rw [e]
  generalize c * 2 ^ sh = z at *
  rw [IntKind.wrap_u64, IntKind.wrap_u64]
  omega
set_option maxHeartbeats 4000000 in
theorem leb_m (h : Rc w b s p e er a) {n L : Nat} {sg : Bool} (hn : n = 32 ∧ L = 4 ∨ n = 64 ∧ L = 9) : Calls Tryz.prog 240 #[.pointer (some ⟨b, 0, none⟩), .int .i64 n, .bool sg] w (Cm encQ8 (fun v => 0 ≤ v ∧ v < ((2 ^ n : Nat) : Int)) (lebL s e p n sg (L + 1) 0 0 p) b s e er a w) := by
  obtain ⟨c0, c1, c2, c3, c4, ⟨⟨f1, f2⟩, f3, f4⟩, le, es, sz, al⟩ := id h
  have HR : Hid _ := h
  have HN : Hid _ := hn
  have hn7 : n ≤ 64 := by omega
  obtain ⟨X, hX⟩ : ∃ X, lebL s e p n sg (L + 1) 0 0 p = X := ⟨_, rfl⟩
  rw [hX]
  have HX : Hid _ := hX
  clear h hn hX
  go_enter Tryz.func240, Tryz.ntmps240
  go_wp2
  go_loopw [8, 9] (fun v sh w1 => ∃ (k q vv a1 : Nat), k ≤ L ∧ v = .int .u64 (vv : Int) ∧ sh = .int .i64 ((7 * k : Nat) : Int) ∧ Rc w1 b s q e er a1 ∧ Hid (er ≠ 0 → a1 = a) ∧ Kp (· = b) w w1 ∧ Hid (vv < 2 ^ (7 * k)) ∧ Hid (lebL s e p n sg (L - k + 1) k vv q = X)) (fun _ sh _ => 70 - (intOf sh).toNat)
  case atStart => exact ⟨0, p, 0, a, by omega, rfl, rfl, HR.out, fun _ => rfl, Kp.refl _ _, by show 0 < 2 ^ (7 * 0); decide, HX.out⟩
  case round =>
    obtain ⟨k, q, vv, a1, hk, rfl, rfl, hR, ha1, hK, hv, hL⟩ := hrel
    have HK : Hid _ := hK
    have HRq : Hid _ := hR
    clear hK c0 c1 c2 c3 c4 f1 f2 f3 f4 HR
    have HB := byte_m HRq.out
    by_cases hkl : k = L
    · rcases HN.out with ⟨rfl, rfl⟩ | ⟨rfl, rfl⟩
      · subst hkl
        clear HX HN hR
        have hvv : vv < 268435456 := hv.out
        go_wp2_with fail
        refine HB.mono ?_
        rintro en w2 ⟨c, q2, er2, a2, rfl, hR2, hK2, hc, hC⟩
        have h3 := hR2.c3
        have HR2 : Hid _ := hR2
        by_cases he2 : er2 = 0
        · subst he2
          unfold encN8
          clear hR2
          have HF2 := fail_m HR2.out 4 p (by omega)
          have HG : Hid (er = 0 ∧ X = lebEnd 4 p 4 vv c q sg ∧ q2 = q + 1) := by
            obtain ⟨g1, g2, g3, g4⟩ := next_good hC.out
            refine ⟨g1, ?_, g4⟩
            rw [← hL.out, lebL, if_pos g2, if_pos (by decide), g3]
          have HOk : Hid (∀ r : Nat, r = (if sg = true ∧ c % 16 / 8 = 1 then 7 else 0) → c / 16 = r → ∀ z : Int, z = (vv : Int) + (c : Int) % 16 * 268435456 → Cm encQ8 (fun v => 0 ≤ v ∧ v < ((2 ^ 32 : Nat) : Int)) X b s e er a w (.returned (.int .u64 z)) w2) := fun r hr hcr z hz => by
            obtain ⟨g1, g2, g3⟩ := HG.out
            rw [lebEnd, if_pos (by rw [hcr, hr])] at g2
            have hz2 : z = ((vv + c % 2 ^ 4 * 2 ^ (7 * 4) : Nat) : Int) := by
              rw [hz, show (2 : Nat) ^ 4 = 16 from rfl, show (2 : Nat) ^ (7 * 4) = 268435456 from rfl]
              omega
            refine ⟨z, q2, 0, a2, rfl, HR2.out, HK.out.trans hK2, by constructor <;> omega, ⟨fun _ => .inl ⟨by rw [g2, g3, hz2], rfl⟩, fun h => absurd g1 h⟩⟩
          have HEr : Hid (∀ r : Nat, r = (if sg = true ∧ c % 16 / 8 = 1 then 7 else 0) → c / 16 ≠ r → ∀ (u : World) (er' : Int) (a' : Nat), Rc u b s q2 e er' a' → Kp (· = b) w2 u → Hid (Flq 0 a2 4 p er' a') → Cm encQ8 (fun v => 0 ≤ v ∧ v < ((2 ^ 32 : Nat) : Int)) X b s e er a w (.returned (.int .u64 0)) u) := fun r hr hcr u er' a' hu hku hf => by
            obtain ⟨g1, g2, g3⟩ := HG.out
            rw [lebEnd, if_neg (by intro hh; exact hcr (by rw [hr]; exact hh))] at g2
            obtain ⟨f1, f2⟩ := hf.out.1 rfl
            subst f1 f2
            exact ⟨0, q2, 4, a', rfl, hu, (HK.out.trans hK2).trans hku, by decide, ⟨fun _ => .inr ⟨g2, by decide⟩, fun h => absurd g1 h⟩⟩
          clear HG hC hL hv
          cases sg with
          | false =>
            by_cases hr : c / 16 = 0
            · have hri : (c : Int) / 16 = 0 := by omega
              have HO := HOk.out 0 (by simp) hr
              have HO2 : Hid (∀ z : Int, _ → _) := HO
              clear HO HOk HEr hr
              go_wp2
              go_ret
              exact HO2.out _ (by first | rfl | omega)
            · have hri : ((c : Int) / 16 == 0) = false := by rw [beq_eq_false_iff_ne]; omega
              have hE := HEr.out 0 (by simp) hr
              have HE2 : Hid _ := hE
              clear hE HOk HEr hr
              go_wp2_with fail
              refine HF2.mono ?_
              rintro en u2 ⟨er', a', rfl, hR3, hK3, hC3⟩
              go_wp2
              go_ret
              exact HE2.out _ _ _ hR3 hK3 hC3
          | true =>
            by_cases hw : c % 16 / 8 = 1
            · have hwi : (c : Int) % 16 / 8 = 1 := by omega
              by_cases hr : c / 16 = 7
              · have hri : (c : Int) / 16 = 7 := by omega
                have HO := HOk.out 7 (by rw [if_pos ⟨rfl, hw⟩]) hr
                have HO2 : Hid (∀ z : Int, _ → _) := HO
                clear HO HOk HEr hr hw
                go_wp2
                go_ret
                exact HO2.out _ (by first | rfl | omega)
              · have hri : ((c : Int) / 16 == 7) = false := by rw [beq_eq_false_iff_ne]; omega
                have hE := HEr.out 7 (by rw [if_pos ⟨rfl, hw⟩]) hr
                have HE2 : Hid _ := hE
                clear hE HOk HEr hr hw
                go_wp2_with fail
                refine HF2.mono ?_
                rintro en u2 ⟨er', a', rfl, hR3, hK3, hC3⟩
                go_wp2
                go_ret
                exact HE2.out _ _ _ hR3 hK3 hC3
            · have hwi : ((c : Int) % 16 / 8 == 1) = false := by rw [beq_eq_false_iff_ne]; omega
              by_cases hr : c / 16 = 0
              · have hri : (c : Int) / 16 = 0 := by omega
                have HO := HOk.out 0 (by rw [if_neg (fun h => hw h.2)]) hr
                have HO2 : Hid (∀ z : Int, _ → _) := HO
                clear HO HOk HEr hr hw
                go_wp2
                go_ret
                exact HO2.out _ (by first | rfl | omega)
              · have hri : ((c : Int) / 16 == 0) = false := by rw [beq_eq_false_iff_ne]; omega
                have hE := HEr.out 0 (by rw [if_neg (fun h => hw h.2)]) hr
                have HE2 : Hid _ := hE
                clear hE HOk HEr hr hw
                go_wp2_with fail
                refine HF2.mono ?_
                rintro en u2 ⟨er', a', rfl, hR3, hK3, hC3⟩
                go_wp2
                go_ret
                exact HE2.out _ _ _ hR3 hK3 hC3
        · have heb : (er2 == 0) = false := by rw [beq_eq_false_iff_ne]; exact he2
          have HX2 : Hid _ := leb_bad hL.out hC.out he2 ha1.out
          go_wp2
          go_ret
          exact ⟨0, q2, er2, a2, rfl, HR2.out, HK.out.trans hK2, ⟨by decide, Int.ofNat_lt.2 (Nat.two_pow_pos _)⟩, HX2.out⟩
      · subst hkl
        clear HX HN hR
        have hvv : vv < 9223372036854775808 := hv.out
        go_wp2_with fail
        refine HB.mono ?_
        rintro en w2 ⟨c, q2, er2, a2, rfl, hR2, hK2, hc, hC⟩
        have h3 := hR2.c3
        have HR2 : Hid _ := hR2
        by_cases he2 : er2 = 0
        · subst he2
          unfold encN8
          clear hR2
          have HF2 := fail_m HR2.out 4 p (by omega)
          have HG : Hid (er = 0 ∧ X = lebEnd 1 p 9 vv c q sg ∧ q2 = q + 1) := by
            obtain ⟨g1, g2, g3, g4⟩ := next_good hC.out
            refine ⟨g1, ?_, g4⟩
            rw [← hL.out, lebL, if_pos g2, if_pos (by decide), g3]
          have HOk : Hid (∀ r : Nat, r = (if sg = true ∧ c % 2 / 1 = 1 then 63 else 0) → c / 2 = r → ∀ z : Int, z = (vv : Int) + (c : Int) % 2 * 9223372036854775808 → Cm encQ8 (fun v => 0 ≤ v ∧ v < ((2 ^ 64 : Nat) : Int)) X b s e er a w (.returned (.int .u64 z)) w2) := fun r hr hcr z hz => by
            obtain ⟨g1, g2, g3⟩ := HG.out
            rw [lebEnd, if_pos (by rw [hcr, hr])] at g2
            have hz2 : z = ((vv + c % 2 ^ 1 * 2 ^ (7 * 9) : Nat) : Int) := by
              rw [hz, show (2 : Nat) ^ 1 = 2 from rfl, show (2 : Nat) ^ (7 * 9) = 9223372036854775808 from rfl]
              omega
            refine ⟨z, q2, 0, a2, rfl, HR2.out, HK.out.trans hK2, by constructor <;> omega, ⟨fun _ => .inl ⟨by rw [g2, g3, hz2], rfl⟩, fun h => absurd g1 h⟩⟩
          have HEr : Hid (∀ r : Nat, r = (if sg = true ∧ c % 2 / 1 = 1 then 63 else 0) → c / 2 ≠ r → ∀ (u : World) (er' : Int) (a' : Nat), Rc u b s q2 e er' a' → Kp (· = b) w2 u → Hid (Flq 0 a2 4 p er' a') → Cm encQ8 (fun v => 0 ≤ v ∧ v < ((2 ^ 64 : Nat) : Int)) X b s e er a w (.returned (.int .u64 0)) u) := fun r hr hcr u er' a' hu hku hf => by
            obtain ⟨g1, g2, g3⟩ := HG.out
            rw [lebEnd, if_neg (by intro hh; exact hcr (by rw [hr]; exact hh))] at g2
            obtain ⟨f1, f2⟩ := hf.out.1 rfl
            subst f1 f2
            exact ⟨0, q2, 4, a', rfl, hu, (HK.out.trans hK2).trans hku, by decide, ⟨fun _ => .inr ⟨g2, by decide⟩, fun h => absurd g1 h⟩⟩
          clear HG hC hL hv
          cases sg with
          | false =>
            by_cases hr : c / 2 = 0
            · have hri : (c : Int) / 2 = 0 := by omega
              have HO := HOk.out 0 (by simp) hr
              have HO2 : Hid (∀ z : Int, _ → _) := HO
              clear HO HOk HEr hr
              go_wp2
              go_ret
              exact HO2.out _ (by first | rfl | omega)
            · have hri : ((c : Int) / 2 == 0) = false := by rw [beq_eq_false_iff_ne]; omega
              have hE := HEr.out 0 (by simp) hr
              have HE2 : Hid _ := hE
              clear hE HOk HEr hr
              go_wp2_with fail
              refine HF2.mono ?_
              rintro en u2 ⟨er', a', rfl, hR3, hK3, hC3⟩
              go_wp2
              go_ret
              exact HE2.out _ _ _ hR3 hK3 hC3
          | true =>
            by_cases hw : c % 2 / 1 = 1
            · have hwi : (c : Int) % 2 / 1 = 1 := by omega
              by_cases hr : c / 2 = 63
              · have hri : (c : Int) / 2 = 63 := by omega
                have HO := HOk.out 63 (by rw [if_pos ⟨rfl, hw⟩]) hr
                have HO2 : Hid (∀ z : Int, _ → _) := HO
                clear HO HOk HEr hr hw
                go_wp2
                go_ret
                exact HO2.out _ (by first | rfl | omega)
              · have hri : ((c : Int) / 2 == 63) = false := by rw [beq_eq_false_iff_ne]; omega
                have hE := HEr.out 63 (by rw [if_pos ⟨rfl, hw⟩]) hr
                have HE2 : Hid _ := hE
                clear hE HOk HEr hr hw
                go_wp2_with fail
                refine HF2.mono ?_
                rintro en u2 ⟨er', a', rfl, hR3, hK3, hC3⟩
                go_wp2
                go_ret
                exact HE2.out _ _ _ hR3 hK3 hC3
            · have hwi : ((c : Int) % 2 / 1 == 1) = false := by rw [beq_eq_false_iff_ne]; omega
              by_cases hr : c / 2 = 0
              · have hri : (c : Int) / 2 = 0 := by omega
                have HO := HOk.out 0 (by rw [if_neg (fun h => hw h.2)]) hr
                have HO2 : Hid (∀ z : Int, _ → _) := HO
                clear HO HOk HEr hr hw
                go_wp2
                go_ret
                exact HO2.out _ (by first | rfl | omega)
              · have hri : ((c : Int) / 2 == 0) = false := by rw [beq_eq_false_iff_ne]; omega
                have hE := HEr.out 0 (by rw [if_neg (fun h => hw h.2)]) hr
                have HE2 : Hid _ := hE
                clear hE HOk HEr hr hw
                go_wp2_with fail
                refine HF2.mono ?_
                rintro en u2 ⟨er', a', rfl, hR3, hK3, hC3⟩
                go_wp2
                go_ret
                exact HE2.out _ _ _ hR3 hK3 hC3
        · have heb : (er2 == 0) = false := by rw [beq_eq_false_iff_ne]; exact he2
          have HX2 : Hid _ := leb_bad hL.out hC.out he2 ha1.out
          go_wp2
          go_ret
          exact ⟨0, q2, er2, a2, rfl, HR2.out, HK.out.trans hK2, ⟨by decide, Int.ofNat_lt.2 (Nat.two_pow_pos _)⟩, HX2.out⟩
    · have hkn : 7 * k + 7 ≤ n := by have := HN.out; omega
      have hk7 : k + 1 ≤ L := by omega
      have hn3 : n = 32 ∨ n = 64 := by have := HN.out; omega
      have hL9 : L ≤ 9 := by have := HN.out; omega
      have HN3 : Hid _ := hn3
      obtain ⟨sh, hsh⟩ : ∃ sh, 7 * k = sh := ⟨_, rfl⟩
      have HS : Hid _ := hsh
      rw [hsh] at hv hkn ⊢
      have hlt : ((sh : Int) < (n : Int)) := by omega
      clear HX hR hsh hn3
      go_wp2_with fail
      refine HB.mono ?_
      rintro en w2 ⟨c, q2, er2, a2, rfl, hR2, hK2, hc, hC⟩
      have h3 := hR2.c3
      have HR2 : Hid _ := hR2
      by_cases he2 : er2 = 0
      · subst he2
        clear hR2
        unfold encN8
        have HG : Hid (er = 0 ∧ (q < e ∧ bAt s q = c ∧ q2 = q + 1) ∧ a2 ≤ 1024 ∧ vv + c % 128 * 2 ^ sh < 2 ^ (sh + 7) ∧ sh + 7 ≤ 63) := by
          have he : er = 0 := Classical.byContradiction (fun h => h ((hC.out.2 h).1.symm))
          have h7 : sh + 7 ≤ 63 := by have := HS.out; omega
          have hg := grp (b := c) (k := k) (v := vv) (by rw [HS.out]; exact hv.out)
          rw [HS.out, show 7 * (k + 1) = sh + 7 by have := HS.out; omega] at hg
          rcases hC.out.1 he with ⟨ho, _⟩ | ⟨ho, h1⟩
          · unfold nextS at ho
            split at ho
            · rename_i hq
              simp at ho
              exact ⟨he, ⟨hq, ho.1, ho.2.symm⟩, HR2.out.al, hg, h7⟩
            · simp at ho
          · exact absurd rfl h1
        have HLc : Hid (lebL s e p n sg (L - k + 1) k vv q = if c < 128 then .ok (((if sg = true ∧ 64 ≤ c then vv + c % 128 * 2 ^ sh + (2 ^ n - 2 ^ (sh + 7)) else vv + c % 128 * 2 ^ sh : Nat) : Int), q2) else lebL s e p n sg (L - k) (k + 1) (vv + c % 128 * 2 ^ sh) q2) := by
          obtain ⟨_, ⟨h1, h2, h3⟩, _⟩ := HG.out
          show lebL s e p n sg (L - k + 1) k vv q = _
          have := HS.out
          rw [lebL, if_pos h1, if_neg (show ¬ n - 7 * k < 7 by omega), h2, this, h3]
        by_cases hc128 : c < 128
        · by_cases hsg : sg = true ∧ 64 ≤ c
          · obtain ⟨rfl, h64⟩ := hsg
            go_wp2
            go_ret
            obtain ⟨g1, g2, g3, g4, g5⟩ := HG.out
            have hX := hL.out
            rw [HLc.out, if_pos hc128, if_pos ⟨trivial, h64⟩] at hX
            have h63 : 2 ^ (sh + 7) ≤ 2 ^ 63 := Nat.pow_le_pow_right (by decide) g5
            have e63 : (2 : Nat) ^ 63 = 9223372036854775808 := by decide
            have z1 := leb_g1 (vv := vv) (c := c) (sh := sh) (by omega)
            have a2' := leb_g2 (n := n) (V := vv + c % 128 * 2 ^ sh) (sh := sh) HN3.out (by have := HN.out; have := HS.out; omega) g5 g4
            refine ⟨_, q2, 0, a2, ?_, HR2.out, HK.out.trans hK2, ?_, ⟨fun _ => .inl ⟨hX.symm, rfl⟩, fun h => absurd g1 h⟩⟩
            · refine congrArg (fun x => Ending.returned (.int .u64 x)) ?_
              rw [z1]
              exact a2'
            · have hn2 : 2 ^ n ≤ 2 ^ 64 := Nat.pow_le_pow_right (by decide) (by omega)
              have e64 : (2 : Nat) ^ 64 = 18446744073709551616 := by decide
              have hp : 2 ^ (sh + 7) ≤ 2 ^ n := Nat.pow_le_pow_right (by decide) (by have := HN.out; have := HS.out; omega)
              clear a2' z1
              exact leb_b g4 hp hn2
          · have hfin : ∀ u : World, u = w2 → Cm encQ8 (fun v => 0 ≤ v ∧ v < ((2 ^ n : Nat) : Int)) X b s e er a w (.returned (.int .u64 (IntKind.u64.wrap ((vv : Int) + IntKind.u64.wrap ((c : Int) % 128 * 2 ^ sh))))) u := fun u hu => by
              subst hu
              obtain ⟨g1, g2, g3, g4, g5⟩ := HG.out
              have hX := hL.out
              rw [HLc.out, if_pos hc128, if_neg hsg] at hX
              have h63 : 2 ^ (sh + 7) ≤ 2 ^ 63 := Nat.pow_le_pow_right (by decide) g5
              have e63 : (2 : Nat) ^ 63 = 9223372036854775808 := by decide
              have z1 := leb_g1 (vv := vv) (c := c) (sh := sh) (by omega)
              refine ⟨_, q2, 0, a2, ?_, HR2.out, HK.out.trans hK2, ?_, ⟨fun _ => .inl ⟨hX.symm, rfl⟩, fun h => absurd g1 h⟩⟩
              · exact congrArg (fun x => Ending.returned (.int .u64 x)) z1
              · clear z1
                exact leb_b2 g4 (Nat.pow_le_pow_right (by decide) (by have := HN.out; have := HS.out; omega))
            have HFin : Hid _ := hfin
            clear hfin
            cases sg with
            | false =>
              clear hsg
              go_wp2
              go_ret
              exact HFin.out _ rfl
            | true =>
              have h64 : ¬ (64 : Int) ≤ (c : Int) := by simp at hsg; omega
              clear hsg
              go_wp2
              go_ret
              exact HFin.out _ rfl
        · go_wp2
          obtain ⟨g1, g2, g3, g4, g5⟩ := HG.out
          have hX := hL.out
          rw [HLc.out, if_neg hc128] at hX
          have h63 : 2 ^ (sh + 7) ≤ 2 ^ 63 := Nat.pow_le_pow_right (by decide) g5
          have e63 : (2 : Nat) ^ 63 = 9223372036854775808 := by decide
          have z1 := leb_g1 (vv := vv) (c := c) (sh := sh) (by omega)
          have hs := HS.out
          refine ⟨⟨k + 1, q2, vv + c % 128 * 2 ^ sh, a2, by omega, congrArg (Value.int .u64) z1, congrArg (Value.int .i64) (by omega), ?_, fun h => absurd g1 h, HK.out.trans hK2, ?_, ?_⟩, ?_⟩
          · rw [g1]
            exact HR2.out
          · show _ < _
            rw [show 7 * (k + 1) = sh + 7 by omega]
            exact g4
          · show lebL s e p n sg (L - (k + 1) + 1) (k + 1) _ _ = X
            rw [show L - (k + 1) + 1 = L - k by omega]
            exact hX
          · simp [intOf]; omega
      · have heb : (er2 == 0) = false := by rw [beq_eq_false_iff_ne]; exact he2
        have HX2 : Hid _ := leb_bad hL.out hC.out he2 ha1.out
        go_wp2
        go_ret
        exact ⟨0, q2, er2, a2, rfl, HR2.out, HK.out.trans hK2, ⟨by decide, Int.ofNat_lt.2 (Nat.two_pow_pos _)⟩, HX2.out⟩
end
end Go.Proofs.Qxb6500275aGreatDoor
