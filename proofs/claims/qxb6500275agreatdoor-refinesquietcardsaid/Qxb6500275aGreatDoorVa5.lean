import Derived.Test.Qxb6500275aGreatDoorVa4
import Derived.Test.Qxb6500275aGreatDoorSec0
set_option maxRecDepth 100000
set_option linter.unusedVariables false
set_option linter.unusedSimpArgs false
namespace Go.Proofs.Qxb6500275aGreatDoor
open Go Go.RowKit
/- a list's rows, cell by cell -/
theorem Ls.at_ {α : Type} {R : Rel α} {sz n0 : Nat} {w : World} {v : Value} {l : List α} (h : Ls R sz n0 w v l) : ∃ a, v = .slice a l.length l.length ∧ ∀ i x, l[i]? = some x → ∃ k f, a = some ⟨k, 0, none⟩ ∧ n0 ≤ k ∧ (∀ c, c < sz → w.cell? ⟨k, i * sz + c, none⟩ = some (f c)) ∧ R n0 w x f := by
  obtain ⟨G, ⟨a, h1, h2, h3⟩, h4⟩ := h
  refine ⟨a, h1, fun i x hx => ?_⟩
  have hi := (List.getElem?_eq_some_iff.1 hx).1
  obtain ⟨k, hk, ha, hB⟩ := h3 (by omega)
  refine ⟨k, fun c => G (i * sz + c), ha, hk, fun c hc => hB.cell ?_, h4 i x hx⟩
  have : (i + 1) * sz ≤ l.length * sz := Nat.mul_le_mul_right _ hi
  rw [Nat.succ_mul] at this
  omega
/- the module's lists -/
structure MdC (w : World) (mb : Nat) (M : Mod) (ta ia fa : Option Addr) : Prop where
  c0 : w.cell? ⟨mb, 0, none⟩ = some (.slice ta M.types.length M.types.length)
  c1 : w.cell? ⟨mb, 1, none⟩ = some (.slice ia M.imports.length M.imports.length)
  c2 : w.cell? ⟨mb, 2, none⟩ = some (.slice fa M.funcs.length M.funcs.length)
  tat : ∀ i t, M.types[i]? = some t → ∃ k, ta = some ⟨k, 0, none⟩ ∧ w.cell? ⟨k, i, none⟩ = some (.string t.text)
  iat : ∀ i t, M.imports[i]? = some t → ∃ k, ia = some ⟨k, 0, none⟩ ∧ w.cell? ⟨k, i * 3 + 2, none⟩ = some (.int .i64 t.ty)
  fat : ∀ i t, M.funcs[i]? = some t → ∃ k, fa = some ⟨k, 0, none⟩ ∧ w.cell? ⟨k, i * 4, none⟩ = some (.int .i64 t.ty)
theorem Md.lists {w : World} {mb : Nat} {M : Mod} (h : Md w mb M) : ∃ ta ia fa, MdC w mb M ta ia fa := by
  obtain ⟨F, hB, hF⟩ := h.is
  obtain ⟨ta, t1, t2⟩ := hF.t.at_
  obtain ⟨ia, i1, i2⟩ := hF.i.at_
  obtain ⟨fa, f1, f2⟩ := hF.f.at_
  refine ⟨ta, ia, fa, by rw [hB.cell (by decide), t1], by rw [hB.cell (by decide), i1], by rw [hB.cell (by decide), f1], fun i t ht => ?_, fun i t ht => ?_, fun i t ht => ?_⟩
  · obtain ⟨k, f, ha, _, hc, hR⟩ := t2 i t ht
    refine ⟨k, ha, ?_⟩
    have := hc 0 (by decide)
    rw [Nat.add_zero, Nat.mul_one] at this
    rw [this, hR]
  · obtain ⟨k, f, ha, _, hc, hR⟩ := i2 i t ht
    exact ⟨k, ha, by rw [hc 2 (by decide), hR.2.2]⟩
  · obtain ⟨k, f, ha, _, hc, hR⟩ := f2 i t ht
    refine ⟨k, ha, ?_⟩
    have := hc 0 (by decide)
    rw [Nat.add_zero] at this
    rw [this, hR.1.1]
def encT (o : Option Ty) : Value := match o with
  | some t => .tuple #[.string t.text, .bool true]
  | none => .tuple #[.string ⟨#[]⟩, .bool false]
theorem Mod.typeAt_some {M : Mod} {t : Nat} {y : Ty} (h : M.types[t]? = some y) : M.typeAt t = some y := by
  unfold Mod.typeAt
  have := (List.getElem?_eq_some_iff.1 h).1
  rw [if_neg (by omega), Int.toNat_natCast, h]
theorem Mod.tyIdx_imp {M : Mod} {i : Nat} {y : Imp} (h : M.imports[i]? = some y) : M.tyIdx i = y.ty := by
  unfold Mod.tyIdx
  have := (List.getElem?_eq_some_iff.1 h).1
  rw [if_pos (by omega), Int.toNat_natCast, h]
theorem Mod.tyIdx_fn {M : Mod} {j : Nat} {y : Fn} (h : M.funcs[j]? = some y) : M.tyIdx ((M.imports.length : Int) + j) = y.ty := by
  unfold Mod.tyIdx
  have := (List.getElem?_eq_some_iff.1 h).1
  rw [if_neg (by omega), if_pos (by omega), show ((M.imports.length : Int) + j - M.imports.length).toNat = j by omega, h]
theorem Mod.tyIdx_no {M : Mod} {f : Int} (h : f < 0 ∨ (M.imports.length : Int) + M.funcs.length ≤ f) : M.tyIdx f = -1 := by
  unfold Mod.tyIdx
  rw [if_neg (by omega), if_neg (by omega)]
section
variable {w : World} {mb : Nat} {M : Mod}
set_option maxHeartbeats 4000000 in
theorem typeOf_A1 (hM : ModOk M) (h : Md w mb M) (i : Nat) {y : Imp} (hy : M.imports[i]? = some y) (k : Nat) {t : Ty} (ht : M.types[k]? = some t) (hk : y.ty = (k : Int)) : Calls Tryz.prog 85 #[.pointer (some ⟨mb, 0, none⟩), .int .i64 (i : Int)] w (Pure w (.tuple #[.string t.text, .bool true])) := by
  obtain ⟨ta, ia, fa, c0, c1, c2, tat, iat, fat⟩ := h.lists
  have hni := hM.ni
  have hnf := hM.nf
  have hnt := hM.nt
  have hlt := (List.getElem?_eq_some_iff.1 hy).1
  obtain ⟨ik, rfl, ci⟩ := iat i y hy
  have hyr := (hM.imports y (List.mem_of_getElem? hy)).ty
  unfold u32R at hyr
  obtain ⟨tk, rfl, ct⟩ := tat k t ht
  have hkl := (List.getElem?_eq_some_iff.1 ht).1
  rw [hk] at ci hyr
  obtain ⟨ni, hni'⟩ : ∃ n, M.imports.length = n := ⟨_, rfl⟩
  obtain ⟨nf, hnf'⟩ : ∃ n, M.funcs.length = n := ⟨_, rfl⟩
  obtain ⟨nt, hnt'⟩ : ∃ n, M.types.length = n := ⟨_, rfl⟩
  rw [hni'] at c1 hni hlt
  rw [hnf'] at c2 hnf
  rw [hnt'] at c0 hnt hkl
  have g1 : (i : Int) < (ni : Int) := by omega
  have g4 : (k : Int) < (nt : Int) := by omega
  have g5 : decide ((nt : Int) ≤ (k : Int)) = false := decide_eq_false (by omega)
  clear hyr hk hy ht tat iat fat h hM hlt
  clear hni' hnf' hnt'
  go_enter Tryz.func85, Tryz.ntmps85
  go_wp2
  go_ret2
  go_light
  exact ⟨rfl, Kp.refl _ _⟩
set_option maxHeartbeats 4000000 in
theorem typeOf_A0 (hM : ModOk M) (h : Md w mb M) (i : Nat) {y : Imp} (hy : M.imports[i]? = some y) (hk : y.ty < 0 ∨ (M.types.length : Int) ≤ y.ty) : Calls Tryz.prog 85 #[.pointer (some ⟨mb, 0, none⟩), .int .i64 (i : Int)] w (Pure w (.tuple #[.string ⟨#[]⟩, .bool false])) := by
  obtain ⟨ta, ia, fa, c0, c1, c2, tat, iat, fat⟩ := h.lists
  have hni := hM.ni
  have hnf := hM.nf
  have hnt := hM.nt
  have hlt := (List.getElem?_eq_some_iff.1 hy).1
  obtain ⟨ik, rfl, ci⟩ := iat i y hy
  have hyr := (hM.imports y (List.mem_of_getElem? hy)).ty
  unfold u32R at hyr
  obtain ⟨ni, hni'⟩ : ∃ n, M.imports.length = n := ⟨_, rfl⟩
  obtain ⟨nf, hnf'⟩ : ∃ n, M.funcs.length = n := ⟨_, rfl⟩
  obtain ⟨nt, hnt'⟩ : ∃ n, M.types.length = n := ⟨_, rfl⟩
  rw [hni'] at c1 hni hlt
  rw [hnf'] at c2 hnf
  rw [hnt'] at c0 hnt hk
  have g1 : (i : Int) < (ni : Int) := by omega
  clear hy tat iat fat h hM hlt
  clear hni' hnf' hnt'
  have hk2 : (nt : Int) ≤ y.ty := by omega
  generalize y.ty = T at *
  clear hk
  go_enter Tryz.func85, Tryz.ntmps85
  go_wp2
  go_ret2
  go_light
  exact ⟨rfl, Kp.refl _ _⟩
set_option maxHeartbeats 4000000 in
theorem typeOf_B1 (hM : ModOk M) (h : Md w mb M) (j : Nat) {y : Fn} (hy : M.funcs[j]? = some y) (F : Int) (hF : F = (M.imports.length : Int) + (j : Int)) (k : Nat) {t : Ty} (ht : M.types[k]? = some t) (hk : y.ty = (k : Int)) : Calls Tryz.prog 85 #[.pointer (some ⟨mb, 0, none⟩), .int .i64 F] w (Pure w (.tuple #[.string t.text, .bool true])) := by
  obtain ⟨ta, ia, fa, c0, c1, c2, tat, iat, fat⟩ := h.lists
  have hni := hM.ni
  have hnf := hM.nf
  have hnt := hM.nt
  have hlt := (List.getElem?_eq_some_iff.1 hy).1
  obtain ⟨fk, rfl, ci⟩ := fat j y hy
  have hyr := (hM.funcs y (List.mem_of_getElem? hy)).ty
  unfold u32R at hyr
  obtain ⟨tk, rfl, ct⟩ := tat k t ht
  have hkl := (List.getElem?_eq_some_iff.1 ht).1
  rw [hk] at ci hyr
  obtain ⟨ni, hni'⟩ : ∃ n, M.imports.length = n := ⟨_, rfl⟩
  obtain ⟨nf, hnf'⟩ : ∃ n, M.funcs.length = n := ⟨_, rfl⟩
  obtain ⟨nt, hnt'⟩ : ∃ n, M.types.length = n := ⟨_, rfl⟩
  rw [hni'] at c1 hni
  rw [hnf'] at c2 hnf hlt
  rw [hnt'] at c0 hnt hkl
  rw [hni'] at hF
  have g0 : (0 : Int) ≤ F := by omega
  have g1 : decide (F < (ni : Int)) = false := decide_eq_false (by omega)
  have g2 : (j : Int) < (nf : Int) := by omega
  have g3 : F - (ni : Int) = (j : Int) := by omega
  have g6 : (ni : Int) ≤ F := by omega
  have g7 : F ≤ 12 := by omega
  clear hF
  have g4 : (k : Int) < (nt : Int) := by omega
  have g5 : decide ((nt : Int) ≤ (k : Int)) = false := decide_eq_false (by omega)
  clear hyr hk hy ht tat iat fat h hM hlt
  clear hni' hnf' hnt'
  go_enter Tryz.func85, Tryz.ntmps85
  go_wp2_with fail
  go_quiet (fail)
  go_wp2_with fail
  go_quiet (fail)
  go_wp2
  go_ret2
  go_light
  exact ⟨rfl, (Kp.refl _ _).drewM _⟩
set_option maxHeartbeats 4000000 in
theorem typeOf_B0 (hM : ModOk M) (h : Md w mb M) (j : Nat) {y : Fn} (hy : M.funcs[j]? = some y) (F : Int) (hF : F = (M.imports.length : Int) + (j : Int)) (hk : y.ty < 0 ∨ (M.types.length : Int) ≤ y.ty) : Calls Tryz.prog 85 #[.pointer (some ⟨mb, 0, none⟩), .int .i64 F] w (Pure w (.tuple #[.string ⟨#[]⟩, .bool false])) := by
  obtain ⟨ta, ia, fa, c0, c1, c2, tat, iat, fat⟩ := h.lists
  have hni := hM.ni
  have hnf := hM.nf
  have hnt := hM.nt
  have hlt := (List.getElem?_eq_some_iff.1 hy).1
  obtain ⟨fk, rfl, ci⟩ := fat j y hy
  have hyr := (hM.funcs y (List.mem_of_getElem? hy)).ty
  unfold u32R at hyr
  obtain ⟨ni, hni'⟩ : ∃ n, M.imports.length = n := ⟨_, rfl⟩
  obtain ⟨nf, hnf'⟩ : ∃ n, M.funcs.length = n := ⟨_, rfl⟩
  obtain ⟨nt, hnt'⟩ : ∃ n, M.types.length = n := ⟨_, rfl⟩
  rw [hni'] at c1 hni
  rw [hnf'] at c2 hnf hlt
  rw [hnt'] at c0 hnt hk
  rw [hni'] at hF
  have g0 : (0 : Int) ≤ F := by omega
  have g1 : decide (F < (ni : Int)) = false := decide_eq_false (by omega)
  have g2 : (j : Int) < (nf : Int) := by omega
  have g3 : F - (ni : Int) = (j : Int) := by omega
  have g6 : (ni : Int) ≤ F := by omega
  have g7 : F ≤ 12 := by omega
  clear hF
  clear hy tat iat fat h hM hlt
  clear hni' hnf' hnt'
  have hk2 : (nt : Int) ≤ y.ty := by omega
  generalize y.ty = T at *
  clear hk
  go_enter Tryz.func85, Tryz.ntmps85
  go_wp2_with fail
  go_quiet (fail)
  go_wp2_with fail
  go_quiet (fail)
  go_wp2
  go_ret2
  go_light
  exact ⟨rfl, (Kp.refl _ _).drewM _⟩
set_option maxHeartbeats 4000000 in
theorem typeOf_C0 (hM : ModOk M) (h : Md w mb M) (f : Int) (hf : f = -1) : Calls Tryz.prog 85 #[.pointer (some ⟨mb, 0, none⟩), .int .i64 f] w (Pure w (.tuple #[.string ⟨#[]⟩, .bool false])) := by
  obtain ⟨ta, ia, fa, c0, c1, c2, tat, iat, fat⟩ := h.lists
  have hni := hM.ni
  have hnf := hM.nf
  have hnt := hM.nt
  obtain ⟨ni, hni'⟩ : ∃ n, M.imports.length = n := ⟨_, rfl⟩
  obtain ⟨nf, hnf'⟩ : ∃ n, M.funcs.length = n := ⟨_, rfl⟩
  obtain ⟨nt, hnt'⟩ : ∃ n, M.types.length = n := ⟨_, rfl⟩
  rw [hni'] at c1 hni
  rw [hnf'] at c2 hnf
  rw [hnt'] at c0 hnt
  subst hf
  have g0 : decide ((ni : Int) ≤ -1) = false := decide_eq_false (by omega)
  clear hni' hnf' hnt' tat iat fat h hM
  go_enter Tryz.func85, Tryz.ntmps85
  go_wp2_with fail
  go_quiet (fail)
  go_wp2
  go_ret2
  go_light
  exact ⟨rfl, (Kp.refl _ _).drewM _⟩
set_option maxHeartbeats 4000000 in
theorem typeOf_C1 (hM : ModOk M) (h : Md w mb M) (f : Int) (hf : (M.imports.length : Int) + M.funcs.length ≤ f) (hf2 : f < 4294967296) : Calls Tryz.prog 85 #[.pointer (some ⟨mb, 0, none⟩), .int .i64 f] w (Pure w (.tuple #[.string ⟨#[]⟩, .bool false])) := by
  obtain ⟨ta, ia, fa, c0, c1, c2, tat, iat, fat⟩ := h.lists
  have hni := hM.ni
  have hnf := hM.nf
  have hnt := hM.nt
  obtain ⟨ni, hni'⟩ : ∃ n, M.imports.length = n := ⟨_, rfl⟩
  obtain ⟨nf, hnf'⟩ : ∃ n, M.funcs.length = n := ⟨_, rfl⟩
  obtain ⟨nt, hnt'⟩ : ∃ n, M.types.length = n := ⟨_, rfl⟩
  rw [hni'] at c1 hni
  rw [hnf'] at c2 hnf
  rw [hnt'] at c0 hnt
  rw [hni', hnf'] at hf
  have g0 : (0 : Int) ≤ f := by omega
  have g1 : decide (f < (ni : Int)) = false := decide_eq_false (by omega)
  have g2 : (ni : Int) ≤ f := by omega
  have g3 : decide (f - (ni : Int) < (nf : Int)) = false := decide_eq_false (by omega)
  clear hni' hnf' hnt' tat iat fat h hM
  go_enter Tryz.func85, Tryz.ntmps85
  go_wp2_with fail
  go_quiet (fail)
  go_wp2
  go_ret2
  go_light
  exact ⟨rfl, (Kp.refl _ _).drewM _⟩
theorem typeOf_calls (hM : ModOk M) (h : Md w mb M) (f : Int) (hf : -1 ≤ f ∧ f < 4294967296) : Calls Tryz.prog 85 #[.pointer (some ⟨mb, 0, none⟩), .int .i64 f] w (Pure w (encT (M.typeOf f))) := by
  have good : ∀ {t : Int}, u32R t → (t < 0 ∨ (M.types.length : Int) ≤ t) ∨ ∃ (k : Nat) (y : Ty), M.types[k]? = some y ∧ t = k := fun {t} ht => by
    unfold u32R at ht
    by_cases hc : (M.types.length : Int) ≤ t
    · exact .inl (.inr hc)
    · exact .inr ⟨t.toNat, M.types[t.toNat]'(by omega), List.getElem?_eq_getElem _, by omega⟩
  by_cases h1 : f < 0
  · have hN : M.typeOf f = none := by unfold Mod.typeOf; rw [Mod.tyIdx_no (.inl h1)]; rfl
    rw [hN]
    exact typeOf_C0 hM h f (by omega)
  by_cases h2 : f < M.imports.length
  · obtain ⟨i, rfl⟩ : ∃ i : Nat, f = i := ⟨f.toNat, by omega⟩
    obtain ⟨y, hy⟩ : ∃ y, M.imports[i]? = some y := ⟨_, List.getElem?_eq_getElem (by omega)⟩
    have hyr := (hM.imports y (List.mem_of_getElem? hy)).ty
    have hT : M.typeOf i = M.typeAt y.ty := by unfold Mod.typeOf; rw [Mod.tyIdx_imp hy]
    rw [hT]
    rcases good hyr with hb | ⟨k, t, ht, hk⟩
    · have hN : M.typeAt y.ty = none := if_pos hb
      rw [hN]
      exact typeOf_A0 hM h i hy hb
    · rw [hk, Mod.typeAt_some ht]
      exact typeOf_A1 hM h i hy k ht hk
  by_cases h3 : f < (M.imports.length : Int) + M.funcs.length
  · obtain ⟨j, rfl⟩ : ∃ j : Nat, f = (M.imports.length : Int) + j := ⟨(f - M.imports.length).toNat, by omega⟩
    obtain ⟨y, hy⟩ : ∃ y, M.funcs[j]? = some y := ⟨_, List.getElem?_eq_getElem (by omega)⟩
    have hyr := (hM.funcs y (List.mem_of_getElem? hy)).ty
    have hT : M.typeOf ((M.imports.length : Int) + j) = M.typeAt y.ty := by unfold Mod.typeOf; rw [Mod.tyIdx_fn hy]
    rw [hT]
    rcases good hyr with hb | ⟨k, t, ht, hk⟩
    · have hN : M.typeAt y.ty = none := if_pos hb
      rw [hN]
      exact typeOf_B0 hM h j hy _ rfl hb
    · rw [hk, Mod.typeAt_some ht]
      exact typeOf_B1 hM h j hy _ rfl k ht hk
  · have hN : M.typeOf f = none := by unfold Mod.typeOf; rw [Mod.tyIdx_no (.inr (by omega))]; rfl
    rw [hN]
    exact typeOf_C1 hM h f (by omega) hf.2
end
end Go.Proofs.Qxb6500275aGreatDoor
