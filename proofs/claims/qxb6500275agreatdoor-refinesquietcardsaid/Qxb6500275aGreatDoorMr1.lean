import Derived.Test.Qxb6500275aGreatDoorBs0
import Derived.Deep.QuietTactic
import Derived.BigQuiet
set_option maxRecDepth 100000
set_option linter.unusedVariables false
set_option linter.unusedSimpArgs false
namespace Go.Proofs.Qxb6500275aGreatDoor
open Go Go.RowKit
theorem flatC_at {α : Type} {c : α → List Value} {sz : Nat} (hc : ∀ x, (c x).length = sz) : ∀ (l : List α) (i : Nat) (x : α), l[i]? = some x → ∀ j, j < sz → (l.flatMap c)[i * sz + j]? = (c x)[j]?
  | [], i, x, h, j, hj => by simp at h
  | y :: l, 0, x, h, j, hj => by
    simp at h
    subst h
    rw [List.flatMap_cons, Nat.zero_mul, Nat.zero_add, List.getElem?_append_left (by rw [hc]; exact hj)]
  | y :: l, i + 1, x, h, j, hj => by
    simp at h
    rw [List.flatMap_cons, List.getElem?_append_right (by rw [hc, Nat.add_mul]; omega), hc, show (i + 1) * sz + j - sz = i * sz + j by rw [Nat.add_mul]; omega]
    exact flatC_at hc l i x h j hj
/- a row's cells -/
theorem OR.at_ {w : World} {e : TypeId} {sz : Nat} {v : Value} {α : Type} {l : List α} {c : α → List Value} (h : OR w e sz v l.length (l.flatMap c)) (hc : ∀ x, (c x).length = sz) {i : Nat} {x : α} (hi : l[i]? = some x) :
    ∃ g cap, v = .slice (some ⟨g, 0, none⟩) l.length cap ∧ g < w.heap.size ∧ l.length ≤ cap ∧ cap ≤ 9223372036854775807 ∧ ∀ j u, (c x)[j]? = some u → w.cell? ⟨g, i * sz + j, none⟩ = some u := by
  have hlt := (List.getElem?_eq_some_iff.1 hi).1
  obtain ⟨g, cap, h1, h2, h3, h4, h5, _⟩ := h.ptr (by omega)
  refine ⟨g, cap, h1, h2, h3, h4, fun j u hu => h5 _ _ ?_⟩
  have hj : j < sz := by rw [← hc x]; exact (List.getElem?_eq_some_iff.1 hu).1
  rw [flatC_at hc l i x hi j hj]
  exact hu
section
variable {w : World} {mb : Nat} {m : MT}
theorem Mw.atTy (h : Mw w mb m) {i : Nat} {x : Ty} (hi : m.types[i]? = some x) : ∃ g cap, m.vt = .slice (some ⟨g, 0, none⟩) m.types.length cap ∧ g < w.heap.size ∧ m.types.length ≤ cap ∧ cap ≤ 9223372036854775807 ∧ ∀ j u, (tyC x)[j]? = some u → w.cell? ⟨g, i * 1 + j, none⟩ = some u := by
  have hr : (⟨9, 1, m.vt, m.types.length, m.types.flatMap tyC⟩ : Row) ∈ m.rows := by unfold MT.rows MT.mains; simp
  exact OR.at_ (h.rows.ok _ hr) (fun x => rfl) hi
theorem Mw.atIm (h : Mw w mb m) {i : Nat} {x : Imp} (hi : m.imports[i]? = some x) : ∃ g cap, m.vi = .slice (some ⟨g, 0, none⟩) m.imports.length cap ∧ g < w.heap.size ∧ m.imports.length ≤ cap ∧ cap ≤ 9223372036854775807 ∧ ∀ j u, (impC x)[j]? = some u → w.cell? ⟨g, i * 3 + j, none⟩ = some u := by
  have hr : (⟨121, 3, m.vi, m.imports.length, m.imports.flatMap impC⟩ : Row) ∈ m.rows := by unfold MT.rows MT.mains; simp
  exact OR.at_ (h.rows.ok _ hr) (fun x => rfl) hi
theorem Mw.atFn (h : Mw w mb m) {i : Nat} {x : Fn × Value × Value} (hi : m.fs[i]? = some x) : ∃ g cap, m.vf = .slice (some ⟨g, 0, none⟩) m.fs.length cap ∧ g < w.heap.size ∧ m.fs.length ≤ cap ∧ cap ≤ 9223372036854775807 ∧ ∀ j u, (fnC x)[j]? = some u → w.cell? ⟨g, i * 4 + j, none⟩ = some u := by
  have hr : (⟨124, 4, m.vf, m.fs.length, m.fs.flatMap fnC⟩ : Row) ∈ m.rows := by unfold MT.rows MT.mains; simp
  exact OR.at_ (h.rows.ok _ hr) (fun x => rfl) hi
theorem Mw.atGl (h : Mw w mb m) {i : Nat} {x : Glob} (hi : m.globals[i]? = some x) : ∃ g cap, m.vg = .slice (some ⟨g, 0, none⟩) m.globals.length cap ∧ g < w.heap.size ∧ m.globals.length ≤ cap ∧ cap ≤ 9223372036854775807 ∧ ∀ j u, (globC x)[j]? = some u → w.cell? ⟨g, i * 5 + j, none⟩ = some u := by
  have hr : (⟨131, 5, m.vg, m.globals.length, m.globals.flatMap globC⟩ : Row) ∈ m.rows := by unfold MT.rows MT.mains; simp
  exact OR.at_ (h.rows.ok _ hr) (fun x => rfl) hi
theorem Mw.atEx (h : Mw w mb m) {i : Nat} {x : Exp} (hi : m.exports[i]? = some x) : ∃ g cap, m.vx = .slice (some ⟨g, 0, none⟩) m.exports.length cap ∧ g < w.heap.size ∧ m.exports.length ≤ cap ∧ cap ≤ 9223372036854775807 ∧ ∀ j u, (expC x)[j]? = some u → w.cell? ⟨g, i * 3 + j, none⟩ = some u := by
  have hr : (⟨134, 3, m.vx, m.exports.length, m.exports.flatMap expC⟩ : Row) ∈ m.rows := by unfold MT.rows MT.mains; simp
  exact OR.at_ (h.rows.ok _ hr) (fun x => rfl) hi
theorem Mw.atEl (h : Mw w mb m) {i : Nat} {x : Elm × Value} (hi : m.es[i]? = some x) : ∃ g cap, m.ve = .slice (some ⟨g, 0, none⟩) m.es.length cap ∧ g < w.heap.size ∧ m.es.length ≤ cap ∧ cap ≤ 9223372036854775807 ∧ ∀ j u, (elmC x)[j]? = some u → w.cell? ⟨g, i * 4 + j, none⟩ = some u := by
  have hr : (⟨136, 4, m.ve, m.es.length, m.es.flatMap elmC⟩ : Row) ∈ m.rows := by unfold MT.rows MT.mains; simp
  exact OR.at_ (h.rows.ok _ hr) (fun x => rfl) hi
theorem Mw.atDa (h : Mw w mb m) {i : Nat} {x : Dat} (hi : m.datas[i]? = some x) : ∃ g cap, m.vd = .slice (some ⟨g, 0, none⟩) m.datas.length cap ∧ g < w.heap.size ∧ m.datas.length ≤ cap ∧ cap ≤ 9223372036854775807 ∧ ∀ j u, (datC x)[j]? = some u → w.cell? ⟨g, i * 4 + j, none⟩ = some u := by
  have hr : (⟨138, 4, m.vd, m.datas.length, m.datas.flatMap datC⟩ : Row) ∈ m.rows := by unfold MT.rows MT.mains; simp
  exact OR.at_ (h.rows.ok _ hr) (fun x => rfl) hi
theorem Mw.body (h : Mw w mb m) {x : Fn × Value × Value} (hx : x ∈ m.fs) : OR w 129 3 x.2.1 x.1.body.length (insC x.1.body) ∧ OR w 127 1 x.2.2 x.1.tabs.length (tabC x.1.tabs) := by
  have h1 : (⟨129, 3, x.2.1, x.1.body.length, insC x.1.body⟩ : Row) ∈ m.rows := by
    unfold MT.rows
    refine List.mem_append.2 (.inr (List.mem_append.2 (.inr (List.mem_flatMap.2 ⟨x, hx, ?_⟩))))
    unfold fnRows
    simp
  have h2 : (⟨127, 1, x.2.2, x.1.tabs.length, tabC x.1.tabs⟩ : Row) ∈ m.rows := by
    unfold MT.rows
    refine List.mem_append.2 (.inr (List.mem_append.2 (.inr (List.mem_flatMap.2 ⟨x, hx, ?_⟩))))
    unfold fnRows
    simp
  exact ⟨h.rows.ok _ h1, h.rows.ok _ h2⟩
theorem Mw.fns (h : Mw w mb m) {x : Elm × Value} (hx : x ∈ m.es) : OR w 127 1 x.2 x.1.fns.length (tabC x.1.fns) := by
  have h2 : (⟨127, 1, x.2, x.1.fns.length, tabC x.1.fns⟩ : Row) ∈ m.rows := by
    unfold MT.rows
    refine List.mem_append.2 (.inr (List.mem_append.2 (.inl (List.mem_flatMap.2 ⟨x, hx, ?_⟩))))
    unfold elRows
    simp
  exact h.rows.ok _ h2
def encTo (o : Option Ty) : Value := match o with
  | none => .tuple #[.string ⟨#[]⟩, .bool false]
  | some t => .tuple #[.string t.text, .bool true]
set_option maxHeartbeats 4000000 in
theorem typeOf_m (h : Mw w mb m) (hM : ModOk m.mod) (f : Int) (hf : -1 ≤ f ∧ f < 4294967296) : Calls Tryz.prog 85 #[.pointer (some ⟨mb, 0, none⟩), .int .i64 f] w (fun en w' => en = .returned (encTo (m.mod.typeOf f)) ∧ ∃ k, w' = w.drewN k) := by
  have HMw : Hid _ := h
  have hnt : m.types.length ≤ 8 := hM.nt
  have hni : m.imports.length ≤ 4 := hM.ni
  have hnf : m.fs.length ≤ 8 := by have := hM.nf; unfold MT.mod at this; simpa using this
  obtain ⟨ta, tcp, htv⟩ := h.slTy
  obtain ⟨ia, icp, hiv⟩ := h.slIm
  obtain ⟨fa, fcp, hfv⟩ := h.slFn
  have e0 := h.c0
  have e1 := h.c1
  have e2 := h.c2
  rw [htv] at e0
  rw [hiv] at e1
  rw [hfv] at e2
  have HIV : Hid _ := hiv
  have HFV : Hid _ := hfv
  clear htv hiv hfv
  have hui : ∀ i, i ∈ m.imports → 0 ≤ i.ty ∧ i.ty < 4294967296 := fun i hi => (hM.imports i hi).ty
  have huf : ∀ x, x ∈ m.fs → 0 ≤ x.1.ty ∧ x.1.ty < 4294967296 := fun x hx => (hM.funcs x.1 (by unfold MT.mod; exact List.mem_map.2 ⟨x, hx, rfl⟩)).ty
  clear hM h
  by_cases hA : 0 ≤ f ∧ f < (m.imports.length : Int)
  · obtain ⟨i, hi⟩ : ∃ i : Nat, f = i := ⟨f.toNat, by omega⟩
    have hil : i < m.imports.length := by omega
    obtain ⟨x, hx⟩ : ∃ x, m.imports[i]? = some x := ⟨_, List.getElem?_eq_getElem hil⟩
    obtain ⟨g, cap, gv, _, gc1, gc2, gcell⟩ := HMw.out.atIm hx
    have gc := gcell 2 (.int .i64 x.ty) rfl
    have hxt := hui x (List.mem_of_getElem? hx)
    have HT : Hid (m.mod.typeOf f = m.mod.typeAt x.ty) := by
      show _ = _
      unfold Mod.typeOf Mod.tyIdx
      rw [if_pos (show 0 ≤ f ∧ f < (m.mod.imports.length : Int) from hA)]
      show m.mod.typeAt (match m.imports[f.toNat]? with | some i => i.ty | none => -1) = _
      rw [hi, Int.toNat_natCast, hx]
    obtain ⟨z, hz⟩ : ∃ z, x.ty = z := ⟨_, rfl⟩
    rw [hz] at HT gc hxt
    rw [gv] at HIV
    have hiv2 := HIV.out
    simp at hiv2
    obtain ⟨rfl, rfl⟩ := hiv2
    have hf0 : 0 ≤ f := hA.1
    have hf1 : f < (m.imports.length : Int) := hA.2
    subst hi
    clear hA gcell hui huf hz HIV gv
    go_enter Tryz.func85, Tryz.ntmps85
    by_cases hzz : z < 0 ∨ (m.types.length : Int) ≤ z
    · have HE : Hid (encTo (m.mod.typeOf (i : Int)) = .tuple #[.string ⟨#[]⟩, .bool false]) := by
        show _ = _
        rw [HT.out]
        unfold Mod.typeAt
        rw [if_pos (show z < 0 ∨ (m.mod.types.length : Int) ≤ z from hzz)]
        rfl
      by_cases hz0 : z < 0
      · exfalso
        omega
      · have hz1 : (m.types.length : Int) ≤ z := by omega
        clear hzz
        go_wp2
        go_ret2
        exact ⟨by rw [HE.out]; rfl, 0, rfl⟩
    · obtain ⟨zn, hzn⟩ : ∃ zn : Nat, z = zn := ⟨z.toNat, by omega⟩
      subst hzn
      have hzl : zn < m.types.length := by omega
      obtain ⟨t, ht⟩ : ∃ t, m.types[zn]? = some t := ⟨_, List.getElem?_eq_getElem hzl⟩
      obtain ⟨tg, tcap, tv, _, tc1, tc2, tcell⟩ := HMw.out.atTy ht
      have tc0 := tcell 0 (.string t.text) rfl
      rw [Nat.mul_one, Nat.add_zero] at tc0
      have HE : Hid (encTo (m.mod.typeOf (i : Int)) = .tuple #[.string t.text, .bool true]) := by
        show _ = _
        rw [HT.out]
        unfold Mod.typeAt
        rw [if_neg (show ¬ ((zn : Int) < 0 ∨ (m.mod.types.length : Int) ≤ (zn : Int)) from hzz)]
        show encTo (m.types[(zn : Int).toNat]?) = _
        rw [Int.toNat_natCast, ht]
        rfl
      have d0 := HMw.out.c0
      rw [tv] at d0
      have hz0 : ¬ (zn : Int) < 0 := by omega
      have hz1 : ¬ (m.types.length : Int) ≤ (zn : Int) := by omega
      have hz2 : (zn : Int) < (m.types.length : Int) := by omega
      clear hzz tcell tv e0
      go_wp2
      go_ret2
      exact ⟨by rw [HE.out]; rfl, 0, rfl⟩
  · by_cases hB : (m.imports.length : Int) ≤ f ∧ f - (m.imports.length : Int) < (m.fs.length : Int)
    · obtain ⟨i, hi⟩ : ∃ i : Nat, f - (m.imports.length : Int) = i := ⟨(f - (m.imports.length : Int)).toNat, by omega⟩
      have hil : i < m.fs.length := by omega
      obtain ⟨x, hx⟩ : ∃ x, m.fs[i]? = some x := ⟨_, List.getElem?_eq_getElem hil⟩
      obtain ⟨g, cap, gv, _, gc1, gc2, gcell⟩ := HMw.out.atFn hx
      have gc := gcell 0 (.int .i64 x.1.ty) rfl
      rw [Nat.add_zero] at gc
      have hxt := huf x (List.mem_of_getElem? hx)
      have HT : Hid (m.mod.typeOf f = m.mod.typeAt x.1.ty) := by
        show _ = _
        unfold Mod.typeOf Mod.tyIdx
        rw [if_neg (show ¬ (0 ≤ f ∧ f < (m.mod.imports.length : Int)) from hA), if_pos (show (m.mod.imports.length : Int) ≤ f ∧ f - (m.mod.imports.length : Int) < (m.mod.funcs.length : Int) by unfold MT.mod; simpa using hB)]
        show m.mod.typeAt (match m.mod.funcs[(f - (m.imports.length : Int)).toNat]? with | some i => i.ty | none => -1) = _
        rw [hi, Int.toNat_natCast]
        have : m.mod.funcs[i]? = some x.1 := by unfold MT.mod; rw [List.getElem?_map, hx]; rfl
        rw [this]
      obtain ⟨z, hz⟩ : ∃ z, x.1.ty = z := ⟨_, rfl⟩
      rw [hz] at HT gc hxt
      rw [gv] at HFV
      have hfv2 := HFV.out
      simp at hfv2
      obtain ⟨rfl, rfl⟩ := hfv2
      have b1 : decide ((m.imports.length : Int) ≤ f) = true := by simp; omega
      have b2 : decide (f - (m.imports.length : Int) < (m.fs.length : Int)) = true := by simp; omega
      have b3 : decide ((i : Int) < (m.fs.length : Int)) = true := by simp; omega
      have b4 : decide (i < m.fs.length) = true := by simp; omega
      have hf1 : ¬ f < (m.imports.length : Int) := by omega
      have hf0 : 0 ≤ f := by omega
      have hgi : (i : Int) < (m.fs.length : Int) := by omega
      clear hA hB gcell hui huf hz HFV gv
      go_enter Tryz.func85, Tryz.ntmps85
      go_wp2_with fail
      go_quiet (fail)
      go_wp2_with fail
      go_quiet (fail)
      by_cases hzz : z < 0 ∨ (m.types.length : Int) ≤ z
      · have HE : Hid (encTo (m.mod.typeOf f) = .tuple #[.string ⟨#[]⟩, .bool false]) := by
          show _ = _
          rw [HT.out]
          unfold Mod.typeAt
          rw [if_pos (show z < 0 ∨ (m.mod.types.length : Int) ≤ z from hzz)]
          rfl
        by_cases hz0 : z < 0
        · exfalso
          omega
        · have hz1 : (m.types.length : Int) ≤ z := by omega
          clear hzz
          go_wp2
          go_ret2
          exact ⟨by rw [HE.out]; rfl, _, by first | rfl | exact World.drewN_drewN _ _ _⟩
      · obtain ⟨zn, hzn⟩ : ∃ zn : Nat, z = zn := ⟨z.toNat, by omega⟩
        subst hzn
        have hzl : zn < m.types.length := by omega
        obtain ⟨t, ht⟩ : ∃ t, m.types[zn]? = some t := ⟨_, List.getElem?_eq_getElem hzl⟩
        obtain ⟨tg, tcap, tv, _, tc1, tc2, tcell⟩ := HMw.out.atTy ht
        have tc0 := tcell 0 (.string t.text) rfl
        rw [Nat.mul_one, Nat.add_zero] at tc0
        have HE : Hid (encTo (m.mod.typeOf f) = .tuple #[.string t.text, .bool true]) := by
          show _ = _
          rw [HT.out]
          unfold Mod.typeAt
          rw [if_neg (show ¬ ((zn : Int) < 0 ∨ (m.mod.types.length : Int) ≤ (zn : Int)) from hzz)]
          show encTo (m.types[(zn : Int).toNat]?) = _
          rw [Int.toNat_natCast, ht]
          rfl
        have d0 := HMw.out.c0
        rw [tv] at d0
        have hz0 : ¬ (zn : Int) < 0 := by omega
        have hz1 : ¬ (m.types.length : Int) ≤ (zn : Int) := by omega
        have hz2 : (zn : Int) < (m.types.length : Int) := by omega
        clear hzz tcell tv e0
        go_wp2
        go_ret2
        exact ⟨by rw [HE.out]; rfl, _, by first | rfl | exact World.drewN_drewN _ _ _⟩
    · have HT : Hid (m.mod.typeOf f = m.mod.typeAt (-1)) := by
        show _ = _
        unfold Mod.typeOf Mod.tyIdx
        rw [if_neg (show ¬ (0 ≤ f ∧ f < (m.mod.imports.length : Int)) from hA), if_neg (show ¬ ((m.mod.imports.length : Int) ≤ f ∧ f - (m.mod.imports.length : Int) < (m.mod.funcs.length : Int)) by unfold MT.mod; simpa using hB)]
      have HE : Hid (encTo (m.mod.typeOf f) = .tuple #[.string ⟨#[]⟩, .bool false]) := by
        show _ = _
        rw [HT.out]
        unfold Mod.typeAt
        rw [if_pos (by omega)]
        rfl
      by_cases hf0 : f < 0
      · have hf00 : ¬ 0 ≤ f := by omega
        have b1 : decide ((m.imports.length : Int) ≤ f) = false := by simp; omega
        clear hA hB hui huf
        go_enter Tryz.func85, Tryz.ntmps85
        go_wp2_with fail
        go_quiet (fail)
        go_wp2
        go_ret2
        exact ⟨by rw [HE.out]; rfl, _, rfl⟩
      · have hf00 : 0 ≤ f := by omega
        have hf1 : ¬ f < (m.imports.length : Int) := by omega
        have b1 : decide ((m.imports.length : Int) ≤ f) = true := by simp; omega
        have b2 : decide (f - (m.imports.length : Int) < (m.fs.length : Int)) = false := by simp; omega
        clear hA hB hui huf
        go_enter Tryz.func85, Tryz.ntmps85
        go_wp2_with fail
        go_quiet (fail)
        go_wp2
        go_ret2
        exact ⟨by rw [HE.out]; rfl, _, rfl⟩
end
end Go.Proofs.Qxb6500275aGreatDoor
