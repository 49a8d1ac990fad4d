import Derived.Test.Qxb6500275aGreatDoorVb9
import Derived.Test.Qxb6500275aGreatDoorVc2
set_option maxRecDepth 100000
set_option linter.unusedVariables false
set_option linter.unusedSimpArgs false
namespace Go.Proofs.Qxb6500275aGreatDoor
open Go Go.RowKit
theorem typesV_err {M : Mod} : ∀ (n i a : Nat) (e : Int), typesV M n i = some (a, e) → e = 14
  | 0, i, a, e, h => by simp [typesV] at h
  | n + 1, i, a, e, h => by
    rw [typesV] at h
    rcases ite_or h with h | h
    · exact typesV_err n _ _ _ h
    · simp at h; omega
theorem typesV_all {M : Mod} : ∀ (n i : Nat), typesV M n i = none → ∀ j, i ≤ j → j < i + n → (M.typeOf j).isSome = true
  | 0, i, h, j, h1, h2 => by omega
  | n + 1, i, h, j, h1, h2 => by
    rw [typesV] at h
    by_cases hc : (M.typeOf i).isSome = true
    · rw [if_pos hc] at h
      by_cases e : j = i
      · subst e; exact hc
      · exact typesV_all n (i + 1) h j (by omega) (by omega)
    · rw [if_neg hc] at h; simp at h
theorem globsV_err : ∀ (l : List Glob) (i a : Nat) (e : Int), globsV l i = some (a, e) → e = 27
  | [], i, a, e, h => by simp [globsV] at h
  | x :: xs, i, a, e, h => by
    rw [globsV] at h
    rcases ite_or h with h | h
    · exact globsV_err xs _ _ _ h
    · simp at h; omega
theorem elmsV_err {M : Mod} : ∀ (l : List Elm) (i a : Nat) (e : Int), elmsV M l i = some (a, e) → e = 21 ∨ e = 27 ∨ e = 15
  | [], i, a, e, h => by simp [elmsV] at h
  | x :: xs, i, a, e, h => by
    rw [elmsV] at h
    rcases ite_or h with h | h
    · simp at h; omega
    rcases ite_or h with h | h
    · simp at h; omega
    rcases ite_or h with h | h
    · simp at h; omega
    · exact elmsV_err xs _ _ _ h
theorem datsV_err {M : Mod} : ∀ (l : List Dat) (i a : Nat) (e : Int), datsV M l i = some (a, e) → e = 20 ∨ e = 27
  | [], i, a, e, h => by simp [datsV] at h
  | x :: xs, i, a, e, h => by
    rw [datsV] at h
    rcases ite_or h with h | h
    · simp at h; omega
    rcases ite_or h with h | h
    · simp at h; omega
    · exact datsV_err xs _ _ _ h
theorem startV_err {M : Mod} {a : Nat} {e : Int} (h : startV M = some (a, e)) : e = 15 ∨ e = 19 := by
  unfold startV at h
  rcases ite_or h with h | h
  · simp at h
  · split at h
    · simp at h; omega
    · rcases ite_or h with h | h
      · simp at h
      · simp at h; omega
theorem partsV_err {M : Mod} {a : Nat} {e : Int} (h : partsV M = some (a, e)) : 0 < e ∧ e < 100 := by
  unfold partsV at h
  split at h
  · rename_i r hr
    simp at h; subst h
    have := typesV_err _ _ _ _ hr; omega
  · rcases ite_or h with h | h
    · simp at h; omega
    rcases ite_or h with h | h
    · simp at h; omega
    split at h
    · rename_i r hr
      simp at h; subst h
      have := globsV_err _ _ _ _ hr; omega
    split at h
    · rename_i r hr
      simp at h; subst h
      have := expsV_err _ _ _ _ _ hr; omega
    split at h
    · rename_i r hr
      simp at h; subst h
      have := startV_err hr; omega
    split at h
    · rename_i r hr
      simp at h; subst h
      have := elmsV_err _ _ _ _ hr; omega
    · have := datsV_err _ _ _ _ h; omega
theorem partsV_types {M : Mod} (h : partsV M = none) (j : Nat) (hj : j < M.imports.length + M.funcs.length) : ∃ t, M.typeOf j = some t := by
  unfold partsV at h
  split at h
  · simp at h
  · rename_i hr
    exact typeOf_isSome (typesV_all _ _ hr j (by omega) (by omega))
def encV (o : Int × Nat × Int) : Value := .tuple #[.int .i64 o.1, .int .i64 o.2.1, .int .i64 o.2.2]
section
variable {w : World} {vb mb : Nat} {M : Mod} {v : VS}
set_option maxHeartbeats 8000000 in
theorem validate_calls (h : SV w vb mb M v) (hI : VI v) : Calls Tryz.prog 37 #[.pointer (some ⟨vb, 0, none⟩), .pointer (some ⟨mb, 0, none⟩)] w (fun en w' => en = .returned (encV (validV M)) ∧ Kp (· = vb) w w' ∧ ∃ v', Vd w' vb v' ∧ VI v') := by
  obtain ⟨X, hX⟩ : ∃ X, validV M = X := ⟨_, rfl⟩
  rw [hX]
  unfold validV at hX
  have HS : Hid _ := hX.symm
  have H : Hid _ := h
  have HI : Hid _ := hI
  have hpc := parts_calls h.ok h.md
  have hpe := fun a e => partsV_err (M := M) (a := a) (e := e)
  have hpt := partsV_types (M := M)
  have hbt : ∀ (k : Nat) (fn : Fn), M.funcs[k]? = some fn → partsV M = none → ∃ t, M.typeAt fn.ty = some t ∧ TyOk t := fun k fn hk hn => by
    have hl := (List.getElem?_eq_some_iff.1 hk).1
    obtain ⟨t, ht⟩ := hpt hn (M.imports.length + k) (by omega)
    have : M.typeOf ((M.imports.length + k : Nat) : Int) = M.typeAt fn.ty := by
      unfold Mod.typeOf
      rw [show ((M.imports.length + k : Nat) : Int) = (M.imports.length : Int) + k by omega, Mod.tyIdx_fn hk]
    rw [this] at ht
    refine ⟨t, ht, ?_⟩
    unfold Mod.typeAt at ht
    rcases ite_or ht with h1 | h1
    · simp at h1
    · exact h.ok.types t (List.mem_of_getElem? h1)
  have HBT : Hid _ := hbt
  clear hbt hpt hX h hI
  generalize partsV M = ox at *
  cases ox with
  | some r =>
    obtain ⟨a, e⟩ := r
    have he := hpe a e rfl
    have heb : (e != 0) = true := by rw [bne_iff_ne]; omega
    dsimp only at HS
    clear hpe
    go_enter Tryz.func37, Tryz.ntmps37
    go_wp2_with (go_at_call 83; refine hpc.mono ?_; rintro en w2 ⟨rfl, hk2⟩; rw [encP_s])
    refine bodyPost_ret (v := encV X) (by rw [HS.out]; simp [results, Tryz.results37, go_sem, encV]) rfl ⟨rfl, hk2.none, v, H.out.vd.keep hk2 (fun h => h), HI.out⟩
  | none =>
    dsimp only at HS
    have HS2 : Hid (X = bodiesV M (M.funcs.drop 0) 0) := HS.out
    clear HS hpe
    have hnf : M.funcs.length ≤ 8 := H.out.ok.nf
    obtain ⟨nf, hnf'⟩ : ∃ nf, M.funcs.length = nf := ⟨_, rfl⟩
    rw [hnf'] at hnf
    have HNF : Hid _ := hnf'
    clear hnf'
    go_enter Tryz.func37, Tryz.ntmps37
    go_wp2_with (go_at_call 83; refine hpc.mono ?_; rintro en w2 ⟨rfl, hk2⟩; rw [encP_n])
    clear hpc
    go_loopw [9] (fun kk w1 => ∃ (k : Nat) (v : VS), k ≤ nf ∧ kk = .int .i64 k ∧ SV w1 vb mb M v ∧ VI v ∧ Kp (· = vb) w w1 ∧ Hid (X = bodiesV M (M.funcs.drop k) k)) (fun kk _ => nf + 1 - (intOf kk).toNat)
    case atStart => exact ⟨0, v, by omega, rfl, H.out.new hk2, HI.out, hk2.none, HS2⟩
    case round =>
      clear HS2 hk2
      obtain ⟨k, v1, hk, rfl, hV, hI, hK, HS⟩ := hrel
      obtain ⟨fa, m2, fat⟩ := hV.md.fn
      rw [HNF.out] at m2
      have HV : Hid _ := hV
      have HI1 : Hid _ := hI
      have HK : Hid _ := hK
      clear hV hI hK
      by_cases hlt : k < nf
      · obtain ⟨fn, hfn⟩ : ∃ fn, M.funcs[k]? = some fn := ⟨_, List.getElem?_eq_getElem (by rw [HNF.out]; exact hlt)⟩
        obtain ⟨fk, rfl, hfc⟩ := fat k fn hfn
        obtain ⟨t, ht, htk⟩ := HBT.out k fn hfn (by trivial)
        have hbc := vbody_calls HV.out hfc (HV.out.ok.funcs fn (List.mem_of_getElem? hfn)) ht htk
        rw [drop_cons hfn, bodiesV] at HS
        have hkb : (k : Int) < (nf : Int) := by omega
        generalize bodyV M fn = o at *
        obtain ⟨v2, p, e⟩ := o
        dsimp only at HS hbc
        clear fat hfc hfn ht htk
        by_cases he : e = 0
        · rw [if_pos he] at HS
          subst he
          go_wp2_with (go_at_call 84; refine hbc.mono ?_; rintro en w3 ⟨⟨rfl, hv3, hk3⟩, hi3⟩)
          go_light
          exact ⟨⟨k + 1, v2, by omega, by go_num, HV.out.step hk3 hv3, hi3, HK.out.trans hk3, HS⟩, by simp [intOf]; omega⟩
        · rw [if_neg he] at HS
          have heb : (e != 0) = true := by rw [bne_iff_ne]; exact he
          go_wp2_with (go_at_call 84; refine hbc.mono ?_; rintro en w3 ⟨⟨rfl, hv3, hk3⟩, hi3⟩)
          refine bodyPost_ret (v := encV X) (by rw [HS.out]; simp [results, Tryz.results37, go_sem, encV]) rfl ⟨rfl, HK.out.trans hk3, v2, hv3, hi3⟩
      · have hkn : k = nf := by omega
        subst hkn
        rw [List.drop_of_length_le (by rw [HNF.out]; exact Nat.le_refl _), bodiesV, HNF.out] at HS
        clear fat
        go_wp2
        refine bodyPost_ret (v := encV X) (by rw [HS.out]; simp [results, Tryz.results37, go_sem, encV]) rfl ⟨rfl, HK.out, v1, HV.out.vd, HI1.out⟩
end
end Go.Proofs.Qxb6500275aGreatDoor
