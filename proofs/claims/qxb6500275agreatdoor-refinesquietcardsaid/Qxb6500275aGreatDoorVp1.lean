import Derived.Test.Qxb6500275aGreatDoorMr1
import Derived.Test.Qxb6500275aGreatDoorVm2
import Derived.Test.Qxb6500275aGreatDoorKf
set_option maxRecDepth 1000000
set_option linter.unusedVariables false
set_option linter.unusedSimpArgs false
namespace Go.Proofs.Qxb6500275aGreatDoor
open Go Go.RowKit
def lpsOf : Code → List Code
  | .loop c => [c]
  | .seq a b => lpsOf a ++ lpsOf b
  | .block _ c => lpsOf c
  | .scope c => lpsOf c
  | .cond _ a b => lpsOf a ++ lpsOf b
  | _ => []
def fr188 (m nf : Value) (u : Nat → Value) : Array Value := #[m, u 1, u 2, u 3, nf, u 5, u 6, u 7, u 8, u 9, u 10, u 11, u 12, u 13, u 14, u 15, u 16, u 17, u 18, u 19, u 20, u 21, u 22, u 23, u 24, u 25, u 26, u 27, u 28, u 29, u 30, u 31, u 32, u 33, u 34, u 35, u 36, u 37, u 38, u 39, u 40, u 41, u 42, u 43, u 44, u 45, u 46, u 47, u 48, u 49, u 50, u 51, u 52, u 53, u 54, u 55, u 56, u 57, u 58, u 59, u 60, u 61, u 62, u 63, u 64, u 65, u 66, u 67, u 68, u 69, u 70, u 71, u 72, u 73, u 74, u 75, u 76, u 77, u 78, u 79, u 80, u 81, u 82, u 83, u 84, u 85, u 86, u 87, u 88, u 89, u 90, u 91, u 92, u 93, u 94, u 95, u 96, u 97, u 98, u 99, u 100, u 101, u 102, u 103, u 104, u 105, u 106, u 107, u 108, u 109, u 110, u 111, u 112, u 113, u 114, u 115, u 116, u 117, u 118, u 119, u 120, u 121, u 122, u 123, u 124, u 125, u 126, u 127, u 128, u 129, u 130, u 131, u 132, u 133, u 134, u 135, u 136, u 137, u 138, u 139, u 140, u 141, u 142, u 143, u 144, u 145, u 146, u 147, u 148, u 149, u 150, u 151, u 152, u 153, u 154, u 155, u 156, u 157, u 158, u 159, u 160, u 161, u 162, u 163, u 164, u 165, u 166, u 167, u 168, u 169, u 170, u 171, u 172, u 173, u 174, u 175, u 176, u 177, u 178, u 179, u 180, u 181, u 182, u 183, u 184, u 185, u 186, u 187, u 188, u 189, u 190, u 191, u 192, u 193, u 194, u 195, u 196, u 197, u 198, u 199, u 200, u 201, u 202, u 203, u 204, u 205, u 206, u 207, u 208, u 209, u 210, u 211, u 212, u 213, u 214, u 215, u 216, u 217, u 218, u 219, u 220, u 221, u 222, u 223, u 224, u 225, u 226, u 227, u 228, u 229, u 230, u 231, u 232, u 233, u 234, u 235, u 236, u 237, u 238, u 239, u 240, u 241, u 242, u 243, u 244, u 245, u 246, u 247, u 248, u 249, u 250, u 251, u 252, u 253, u 254, u 255, u 256, u 257, u 258, u 259, u 260, u 261, u 262, u 263, u 264, u 265, u 266, u 267, u 268, u 269, u 270, u 271, u 272, u 273, u 274, u 275, u 276, u 277, u 278, u 279, u 280, u 281, u 282, u 283, u 284, u 285, u 286, u 287, u 288, u 289, u 290, u 291, u 292, u 293, u 294, u 295, u 296, u 297, u 298, u 299, u 300, u 301, u 302, u 303, u 304, u 305, u 306, u 307, u 308, u 309, u 310, u 311, u 312, u 313, u 314, u 315, u 316, u 317, u 318, u 319, u 320, u 321, u 322, u 323, u 324, u 325, u 326, u 327, u 328, u 329, u 330, u 331, u 332, u 333, u 334, u 335, u 336, u 337, u 338, u 339, u 340]
/- how a loop of 'parts' may end: on, or home with an error -/
def On188 (w0 : World) (mb : Nat) (nf : Nat) (l : Nat) (P : Prop) (Q : Exit → Act → World → Prop) : Prop :=
  ∀ tmps' w', tmps' = fr188 (.pointer (some ⟨mb, 0, none⟩)) (.int .i64 (nf : Int)) (fun j => tmps'.getD j undef) → Kp (fun _ => False) w0 w' → P → Q (.exit l) ⟨tmps', []⟩ w'
def Ho188 (w0 : World) (X : Option (Nat × Int)) (Q : Exit → Act → World → Prop) : Prop :=
  ∀ tmps' w' (i : Nat) (e : Int), X = some (i, e) → tmps'.getD 2 undef = .int .i64 (i : Int) → tmps'.getD 3 undef = .int .i64 e → Kp (fun _ => False) w0 w' → Q .ret ⟨tmps', []⟩ w'
section
variable {m : MT}
theorem typeOf_imp {i : Nat} {x : Imp} (hx : m.imports[i]? = some x) : m.mod.typeOf (i : Int) = m.mod.typeAt x.ty := by
  have hlt := (List.getElem?_eq_some_iff.1 hx).1
  unfold Mod.typeOf Mod.tyIdx
  rw [if_pos (show (0 : Int) ≤ (i : Int) ∧ (i : Int) < (m.mod.imports.length : Int) from ⟨by omega, by show (i : Int) < (m.imports.length : Int); omega⟩)]
  show m.mod.typeAt (match m.imports[(i : Int).toNat]? with | some i => i.ty | none => -1) = _
  rw [Int.toNat_natCast, hx]
theorem typeOf_fn {j : Nat} {x : Fn × Value × Value} (hx : m.fs[j]? = some x) : m.mod.typeOf ((m.imports.length + j : Nat) : Int) = m.mod.typeAt x.1.ty := by
  have hlt := (List.getElem?_eq_some_iff.1 hx).1
  unfold Mod.typeOf Mod.tyIdx
  have h1 : ¬ ((0 : Int) ≤ ((m.imports.length + j : Nat) : Int) ∧ ((m.imports.length + j : Nat) : Int) < (m.mod.imports.length : Int)) := by
    show ¬ ((0 : Int) ≤ ((m.imports.length + j : Nat) : Int) ∧ ((m.imports.length + j : Nat) : Int) < (m.imports.length : Int))
    omega
  have hfl : m.mod.funcs.length = m.fs.length := by unfold MT.mod; simp
  have e : (((m.imports.length + j : Nat) : Int) - (m.mod.imports.length : Int)).toNat = j := by
    show (((m.imports.length + j : Nat) : Int) - (m.imports.length : Int)).toNat = j
    omega
  rw [if_neg h1, if_pos (by
    rw [hfl]
    show (m.imports.length : Int) ≤ ((m.imports.length + j : Nat) : Int) ∧ ((m.imports.length + j : Nat) : Int) - (m.imports.length : Int) < (m.fs.length : Int)
    omega), e]
  have hq : m.mod.funcs[j]? = some x.1 := by unfold MT.mod; dsimp only; rw [List.getElem?_map, hx]; rfl
  rw [hq]
theorem typeAt_some {z : Int} (h0 : 0 ≤ z) : (m.mod.typeAt z).isSome = decide (z < (m.types.length : Int)) := by
  unfold Mod.typeAt
  by_cases h : z < (m.types.length : Int)
  · rw [if_neg (by show ¬ (z < 0 ∨ (m.types.length : Int) ≤ z); omega), decide_eq_true h]
    show (m.types[z.toNat]?).isSome = true
    rw [List.getElem?_eq_getElem (by omega)]
    rfl
  · rw [if_pos (by show z < 0 ∨ (m.types.length : Int) ≤ z; omega), decide_eq_false h]
    rfl
end
theorem bytes_xt {a b : ByteArray} (h : a.toList = b.toList) : a = b := by
  rw [Go.ByteArray.toList_eq, Go.ByteArray.toList_eq] at h
  exact ByteArray.ext (Array.toList_inj.1 h)
theorem dropC {α : Type} {l : List α} {i : Nat} {x : α} (h : l[i]? = some x) : l.drop i = x :: l.drop (i + 1) := by
  have hl := List.getElem?_eq_some_iff.1 h
  rw [List.drop_eq_getElem_cons hl.1, hl.2]
theorem takeC {α : Type} {l : List α} {i : Nat} {x : α} (h : l[i]? = some x) : l.take (i + 1) = l.take i ++ [x] := by
  have hl := List.getElem?_eq_some_iff.1 h
  rw [List.take_succ_eq_append_getElem hl.1, hl.2]
set_option maxHeartbeats 8000000 in
theorem parts_l1 {w0 w1 : World} {mb : Nat} {m : MT} {nf : Nat} {X : Option (Nat × Int)} {tmps : Array Value} {Q : Exit → Act → World → Prop} (hM : ModOk m.mod) (hm : Mw w0 mb m) (hk : Kp (fun _ => False) w0 w1) 
    (ht : tmps = fr188 (.pointer (some ⟨mb, 0, none⟩)) (.int .i64 (nf : Int)) (fun j => tmps.getD j undef)) (h0 : tmps.getD 5 undef = .int .i64 0) (hX : typesV m.mod (m.imports.length + m.fs.length) 0 = X) (hE : On188 w0 mb nf 0 (typesV m.mod m.fs.length m.imports.length = X) Q) (hR : Ho188 w0 X Q) :
    Code.wp Tryz.prog (.loop ((((Tryz.f188.body.map lpsOf).getD [])[0]?).getD .skip)) Q ⟨tmps, []⟩ w1 := by
  have HM : Hid (ModOk m.mod) := hM
  have HW : Hid (Mw w0 mb m) := hm
  have HK0 : Hid (Kp (fun _ => False) w0 w1) := hk
  have HE : Hid (On188 w0 mb nf 0 (typesV m.mod m.fs.length m.imports.length = X) Q) := hE
  have HR : Hid (Ho188 w0 X Q) := hR
  have HX : Hid (typesV m.mod (m.imports.length + m.fs.length) 0 = X) := hX
  clear hM hm hk hE hR hX
  generalize (fun j => tmps.getD j undef) = u at ht
  have h0' : u 5 = .int .i64 0 := by rw [ht] at h0; exact h0
  clear h0
  subst ht
  unfold fr188
  dsimp only
  rw [h0']
  conv => arg 2; arg 1; whnf
  obtain ⟨n, hn⟩ : ∃ n, m.imports.length = n := ⟨_, rfl⟩
  have HN : Hid (m.imports.length = n) := hn
  have k1 : n ≤ 4 := hn ▸ HM.out.ni
  rw [hn] at HX
  obtain ⟨nt, hnt⟩ : ∃ n, m.types.length = n := ⟨_, rfl⟩
  have HNT : Hid (m.types.length = nt) := hnt
  have k2 : nt ≤ 8 := hnt ▸ HM.out.nt
  clear hn hnt
  go_loopw [5] (fun ii u1 => ∃ (i : Nat), i ≤ n ∧ ii = .int .i64 i ∧ Hid (Kp (fun _ => False) w0 u1) ∧ Hid (typesV m.mod (n - i + m.fs.length) i = X)) (fun ii _ => n + 1 - (intOf ii).toNat)
  case atStart => exact ⟨0, by omega, rfl, HK0.out, HX.out⟩
  case round =>
    clear HK0 HX
    obtain ⟨i, hi, rfl, HK, HT⟩ := hrel
    have HWu : Hid (Mw _ mb m) := HW.out.keep HK.out (fun _ _ h => h)
    obtain ⟨ia, ic, hiv⟩ := HWu.out.slIm
    have c1 := HWu.out.c1
    rw [hiv, HN.out] at c1
    obtain ⟨ta, tc, htv⟩ := HWu.out.slTy
    have c0 := HWu.out.c0
    rw [htv, HNT.out] at c0
    by_cases hlt : i < n
    · obtain ⟨x, hx⟩ : ∃ x, m.imports[i]? = some x := ⟨_, List.getElem?_eq_getElem (by rw [HN.out]; exact hlt)⟩
      obtain ⟨g, cap, gv, g1, g2, g3, gc⟩ := HWu.out.atIm hx
      rw [hiv] at gv
      simp at gv
      obtain ⟨rfl, rfl⟩ := gv
      have ct := gc 2 (.int .i64 x.ty) rfl
      have hty := (HM.out.imports x (List.mem_of_getElem? hx)).ty
      have hso : (m.mod.typeOf (i : Int)).isSome = decide (x.ty < (nt : Int)) := by rw [typeOf_imp hx, typeAt_some hty.1, HNT.out]
      obtain ⟨z, hz⟩ : ∃ z, x.ty = z := ⟨_, rfl⟩
      rw [hz] at ct hty hso
      have hT := HT.out
      rw [show n - i + m.fs.length = (n - (i + 1) + m.fs.length) + 1 by omega, typesV, hso] at hT
      have hib : (i : Int) < (n : Int) := by omega
      unfold u32R at hty
      have hz0 : decide (z < 0) = false := decide_eq_false (by omega)
      clear HT hso hz hx gc hiv htv
      by_cases hzt : z < (nt : Int)
      · rw [if_pos (by simpa using hzt)] at hT
        have HT2 : Hid _ := hT
        have hzi : decide ((nt : Int) ≤ z) = false := decide_eq_false (by omega)
        clear hT
        go_wp2_with fail
        go_quiet (fail)
        go_wp2_with fail
        go_roundw
        case rel => exact ⟨i + 1, by omega, by go_num, HK.out.drewM _, HT2.out⟩
        case measure => simp [intOf]; omega
      · rw [if_neg (by simpa using hzt)] at hT
        have HT2 : Hid _ := hT
        have hzi : decide ((nt : Int) ≤ z) = true := decide_eq_true (by omega)
        clear hT
        go_wp2_with fail
        go_quiet (fail)
        go_wp2_with fail
        exact HR.out _ _ i 14 HT2.out.symm rfl rfl (HK.out.drewM _)
    · have hin : i = n := by omega
      subst hin
      have hib : decide ((i : Int) < (i : Int)) = false := decide_eq_false (by omega)
      have hT := HT.out
      rw [Nat.sub_self, Nat.zero_add] at hT
      have HT2 : Hid _ := hT
      clear hT HT
      go_wp2_with fail
      exact HE.out _ _ (by kernel_rfl) HK.out (by rw [HN.out]; exact HT2.out)
end Go.Proofs.Qxb6500275aGreatDoor
