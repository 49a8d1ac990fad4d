import Derived.Laws.Strings
import Derived.Test.Qxb6500275aGreatDoorVb1
set_option maxRecDepth 100000
set_option linter.unusedVariables false
set_option linter.unusedSimpArgs false
namespace Go.Proofs.Qxb6500275aGreatDoor
open Go Go.RowKit
/- a module's other lists, laid out -/
structure MdL (w : World) (mb : Nat) (M : Mod) (ga xa ea da : Option Addr) : Prop where
  c3 : w.cell? ⟨mb, 3, none⟩ = some (.int .i64 M.tabMin)
  c4 : w.cell? ⟨mb, 4, none⟩ = some (.int .i64 M.tabMax)
  c5 : w.cell? ⟨mb, 5, none⟩ = some (.int .i64 M.memMin)
  c6 : w.cell? ⟨mb, 6, none⟩ = some (.int .i64 M.memMax)
  c7 : w.cell? ⟨mb, 7, none⟩ = some (.slice ga M.globals.length M.globals.length)
  c8 : w.cell? ⟨mb, 8, none⟩ = some (.slice xa M.exports.length M.exports.length)
  c9 : w.cell? ⟨mb, 9, none⟩ = some (.int .i64 M.start)
  c10 : w.cell? ⟨mb, 10, none⟩ = some (.slice ea M.elems.length M.elems.length)
  c11 : w.cell? ⟨mb, 11, none⟩ = some (.slice da M.datas.length M.datas.length)
  gat : ∀ i g, M.globals[i]? = some g → ∃ k, ga = some ⟨k, 0, none⟩ ∧ w.cell? ⟨k, i * 5, none⟩ = some (.int .u8 g.ty) ∧ w.cell? ⟨k, i * 5 + 1, none⟩ = some (.bool g.mu) ∧ w.cell? ⟨k, i * 5 + 2, none⟩ = some (.int .u8 g.init.op) ∧ w.cell? ⟨k, i * 5 + 3, none⟩ = some (.int .u32 g.init.x) ∧ w.cell? ⟨k, i * 5 + 4, none⟩ = some (.int .u64 g.init.y)
  xat : ∀ i x, M.exports[i]? = some x → ∃ k, xa = some ⟨k, 0, none⟩ ∧ w.cell? ⟨k, i * 3, none⟩ = some (.string x.name) ∧ w.cell? ⟨k, i * 3 + 1, none⟩ = some (.int .u8 x.kind) ∧ w.cell? ⟨k, i * 3 + 2, none⟩ = some (.int .u32 x.idx)
  eat : ∀ i e, M.elems[i]? = some e → ∃ k fa, ea = some ⟨k, 0, none⟩ ∧ w.cell? ⟨k, i * 4, none⟩ = some (.int .u8 e.off.op) ∧ w.cell? ⟨k, i * 4 + 1, none⟩ = some (.int .u32 e.off.x) ∧ w.cell? ⟨k, i * 4 + 2, none⟩ = some (.int .u64 e.off.y) ∧ w.cell? ⟨k, i * 4 + 3, none⟩ = some (.slice fa e.fns.length e.fns.length) ∧ ∀ j t, e.fns[j]? = some t → ∃ k2, fa = some ⟨k2, 0, none⟩ ∧ w.cell? ⟨k2, j, none⟩ = some (.int .u32 t)
  dat : ∀ i d, M.datas[i]? = some d → ∃ k, da = some ⟨k, 0, none⟩ ∧ w.cell? ⟨k, i * 4, none⟩ = some (.int .u8 d.off.op) ∧ w.cell? ⟨k, i * 4 + 1, none⟩ = some (.int .u32 d.off.x) ∧ w.cell? ⟨k, i * 4 + 2, none⟩ = some (.int .u64 d.off.y) ∧ w.cell? ⟨k, i * 4 + 3, none⟩ = some (.string d.bytes)
theorem Md.rest {w : World} {mb : Nat} {M : Mod} (h : Md w mb M) : ∃ ga xa ea da, MdL w mb M ga xa ea da := by
  obtain ⟨F, hB, hF⟩ := h.is
  obtain ⟨ga, g1, g2⟩ := hF.g.at_
  obtain ⟨xa, x1, x2⟩ := hF.x.at_
  obtain ⟨ea, e1, e2⟩ := hF.e.at_
  obtain ⟨da, d1, d2⟩ := hF.d.at_
  refine ⟨ga, xa, ea, da, by rw [hB.cell (by decide), hF.tm], by rw [hB.cell (by decide), hF.tx], by rw [hB.cell (by decide), hF.mm], by rw [hB.cell (by decide), hF.mx], by rw [hB.cell (by decide), g1], by rw [hB.cell (by decide), x1], by rw [hB.cell (by decide), hF.st], by rw [hB.cell (by decide), e1], by rw [hB.cell (by decide), d1], fun i g hg => ?_, fun i x hx => ?_, fun i e he => ?_, fun i d hd => ?_⟩
  · obtain ⟨k, f, ha, _, hc, r0, r1, r2, r3, r4⟩ := g2 i g hg
    have e0 := hc 0 (by decide)
    rw [Nat.add_zero] at e0
    exact ⟨k, ha, by rw [e0, r0], by rw [hc 1 (by decide), r1], by rw [hc 2 (by decide), r2], by rw [hc 3 (by decide), r3], by rw [hc 4 (by decide), r4]⟩
  · obtain ⟨k, f, ha, _, hc, r0, r1, r2⟩ := x2 i x hx
    have e0 := hc 0 (by decide)
    rw [Nat.add_zero] at e0
    exact ⟨k, ha, by rw [e0, r0], by rw [hc 1 (by decide), r1], by rw [hc 2 (by decide), r2]⟩
  · obtain ⟨k, f, ha, _, hc, ⟨r0, r1, r2⟩, hT⟩ := e2 i e he
    obtain ⟨fa, f1, f2⟩ := hT.at_
    have e0 := hc 0 (by decide)
    rw [Nat.add_zero] at e0
    refine ⟨k, fa, ha, by rw [e0, r0], by rw [hc 1 (by decide), r1], by rw [hc 2 (by decide), r2], by rw [hc 3 (by decide), f1], fun j t ht => ?_⟩
    obtain ⟨k2, f', ha2, _, hc2, hR⟩ := f2 j t ht
    have e1 := hc2 0 (by decide)
    rw [Nat.add_zero, Nat.mul_one] at e1
    exact ⟨k2, ha2, by rw [e1, hR]⟩
  · obtain ⟨k, f, ha, _, hc, r0, r1, r2, r3⟩ := d2 i d hd
    have e0 := hc 0 (by decide)
    rw [Nat.add_zero] at e0
    exact ⟨k, ha, by rw [e0, r0], by rw [hc 1 (by decide), r1], by rw [hc 2 (by decide), r2], by rw [hc 3 (by decide), r3]⟩
/- what a function of the module's parts answers -/
def encP (o : Option (Nat × Int)) : Value := match o with
  | some (i, e) => .tuple #[.int .i64 i, .int .i64 e]
  | none => .tuple #[.int .i64 0, .int .i64 0]
theorem drop_cons {α : Type} {l : List α} {i : Nat} {x : α} (h : l[i]? = some x) : l.drop i = x :: l.drop (i + 1) := by
  have hl := (List.getElem?_eq_some_iff.1 h).1
  rw [List.drop_eq_getElem_cons hl]
  rw [List.getElem?_eq_getElem hl] at h
  rw [Option.some.inj h]
theorem take_snocL {α : Type} {l : List α} {i : Nat} {x : α} (h : l[i]? = some x) : l.take (i + 1) = l.take i ++ [x] := by
  have hl := (List.getElem?_eq_some_iff.1 h).1
  rw [List.take_succ_eq_append_getElem hl]
  rw [List.getElem?_eq_getElem hl] at h
  rw [Option.some.inj h]
section
variable {w : World} {mb : Nat} {M : Mod}
/- a function that reads alone -/
def Qt (w : World) (ret : Value) (en : Ending) (w' : World) : Prop := en = .returned ret ∧ ∃ m, w' = w.drewN m
theorem Qt.pure {ret : Value} {en : Ending} {w' : World} (h : Qt w ret en w') : Pure w ret en w' := by
  obtain ⟨h1, m, rfl⟩ := h
  exact ⟨h1, (Kp.refl _ _).drewM m⟩
set_option maxHeartbeats 4000000 in
theorem there_quiet (lo : Int) (h1 : limR lo) : Calls Tryz.prog 201 #[.int .i64 lo] w (Qt w (.int .i64 (thereV lo))) := by
  unfold limR at h1
  by_cases hm : lo < 0
  · have hV : thereV lo = 0 := if_pos hm
    rw [hV]
    go_enter Tryz.func201, Tryz.ntmps201
    go_wp2
    go_ret
    exact ⟨rfl, 0, rfl⟩
  · have hV : thereV lo = 1 := if_neg hm
    rw [hV]
    go_enter Tryz.func201, Tryz.ntmps201
    go_wp2
    go_ret
    exact ⟨rfl, 0, rfl⟩
def segsV (M : Mod) : Option (Nat × Int) := match elmsV M M.elems 0 with
  | some r => some r
  | none => datsV M M.datas 0
/- a list of functions, all there -/
theorem any_lt {l : List Int} {nf : Nat} (h : ∀ (k : Nat) (t : Int), k < l.length → l[k]? = some t → t < (nf : Int)) : l.any (fun f => decide ((nf : Int) ≤ f)) = false := by
  rw [List.any_eq_false]
  intro t ht
  obtain ⟨k, hk, rfl⟩ := List.getElem_of_mem ht
  have := h k l[k] hk (List.getElem?_eq_getElem hk)
  simp
  omega
set_option maxHeartbeats 4000000 in
theorem segments_calls (hM : ModOk M) (h : Md w mb M) (nf : Nat) (hnf : nf ≤ 12) (he : M.imports.length + M.funcs.length = nf) :
    Calls Tryz.prog 146 #[.pointer (some ⟨mb, 0, none⟩), .int .i64 nf] w (Qt w (encP (segsV M))) := by
  obtain ⟨X, hX⟩ : ∃ X, segsV M = X := ⟨_, rfl⟩
  have HS : Hid (X = match elmsV M (M.elems.drop 0) 0 with | some r => some r | none => datsV M M.datas 0) := hX.symm
  rw [hX]
  have HO : Hid _ := hM
  have HE : Hid _ := he
  have hle : M.elems.length ≤ 3 := hM.nel
  have hld : M.datas.length ≤ 3 := hM.nd
  have hk1 := hM.tabMin
  have hk2 := hM.memMin
  unfold limR at hk1 hk2
  obtain ⟨ga, xa, ea, da, c3, c4, c5, c6, c7, c8, c9, c10, c11, gat, xat, eat, dat⟩ := h.rest
  obtain ⟨ne, hne⟩ : ∃ ne, M.elems.length = ne := ⟨_, rfl⟩
  obtain ⟨nd, hnd⟩ : ∃ nd, M.datas.length = nd := ⟨_, rfl⟩
  rw [hne] at c10 hle
  rw [hnd] at c11 hld
  have HNE : Hid _ := hne
  have HND : Hid _ := hnd
  have HEA : Hid _ := eat
  have HDA : Hid _ := dat
  obtain ⟨tm, htm⟩ : ∃ tm, M.tabMin = tm := ⟨_, rfl⟩
  obtain ⟨mm, hmm⟩ : ∃ mm, M.memMin = mm := ⟨_, rfl⟩
  rw [htm] at c3 hk1
  rw [hmm] at c5 hk2
  have HTM : Hid _ := htm
  have HMM : Hid _ := hmm
  clear hX h hM he c4 c6 c7 c8 c9 gat xat eat dat hne hnd htm hmm
  go_enter Tryz.func146, Tryz.ntmps146
  go_wp2
  go_loopw [6] (fun ii w1 => ∃ i m : Nat, i ≤ ne ∧ ii = .int .i64 i ∧ w1 = w.drewN m ∧ Hid (X = match elmsV M (M.elems.drop i) i with | some r => some r | none => datsV M M.datas 0)) (fun ii _ => ne + 1 - (intOf ii).toNat)
  case atStart => exact ⟨0, 0, by omega, rfl, rfl, HS⟩
  case round =>
    clear HS
    obtain ⟨i, m, hi, rfl, rfl, HS⟩ := hrel
    by_cases hlt : i < ne
    · obtain ⟨e, hx⟩ : ∃ e, M.elems[i]? = some e := ⟨_, List.getElem?_eq_getElem (by rw [HNE.out]; exact hlt)⟩
      have heo := HO.out.elems e (List.mem_of_getElem? hx)
      have hfn : e.fns.length ≤ 6 := heo.n
      obtain ⟨k, fa, rfl, d0, d1, d2, d3, fat⟩ := HEA.out i e hx
      rw [drop_cons hx, elmsV, HTM.out] at HS
      have HF : Hid _ := fat
      have HEO : Hid _ := heo
      have hib : (i : Int) < (ne : Int) := by omega
      have hopb : e.off.op < 256 := by
        have := heo.off.op
        omega
      obtain ⟨nn, hnn⟩ : ∃ nn, e.fns.length = nn := ⟨_, rfl⟩
      rw [hnn] at d3 hfn
      have HNN : Hid _ := hnn
      clear hx heo fat hnn
      by_cases htm : tm < 0
      · rw [if_pos htm] at HS
        go_wp2
        go_ret2
        exact ⟨by rw [HS.out]; rfl, _, rfl⟩
      · rw [if_neg htm] at HS
        by_cases hop : e.off.op = 65
        · rw [if_neg (by simp [hop])] at HS
          rw [hop] at d0
          go_wp2
          go_loopw [8] (fun jj w2 => ∃ j m : Nat, j ≤ nn ∧ jj = .int .i64 j ∧ w2 = w.drewN m ∧ Hid (∀ (k : Nat) (t : Int), k < j → e.fns[k]? = some t → t < (nf : Int))) (fun jj _ => nn + 1 - (intOf jj).toNat)
          case atStart => exact ⟨0, m, by omega, rfl, rfl, fun k t hk => by omega⟩
          case round =>
            obtain ⟨j, m2, hj, rfl, rfl, HJ⟩ := hrel
            by_cases hjt : j < nn
            · obtain ⟨t, ht⟩ : ∃ t, e.fns[j]? = some t := ⟨_, List.getElem?_eq_getElem (by rw [HNN.out]; exact hjt)⟩
              obtain ⟨k2, rfl, ct⟩ := HF.out j t ht
              have htr := HEO.out.fns t (List.mem_of_getElem? ht)
              unfold u32R at htr
              obtain ⟨t, rfl⟩ := Int.eq_ofNat_of_zero_le htr.1
              have hjb : (j : Int) < (nn : Int) := by omega
              have HT : Hid _ := ht
              clear ht
              by_cases hge : nf ≤ t
              · have hgb : (nf : Int) ≤ (t : Int) := by omega
                have hany : e.fns.any (fun f => decide (((M.imports.length + M.funcs.length : Nat) : Int) ≤ f)) = true := by
                  rw [List.any_eq_true]
                  refine ⟨(t : Int), List.mem_of_getElem? HT.out, ?_⟩
                  rw [HE.out]
                  simpa using hgb
                rw [if_pos hany] at HS
                clear hany
                go_wp2
                go_ret2
                exact ⟨by rw [HS.out]; rfl, _, rfl⟩
              · have hgb : decide ((nf : Int) ≤ (t : Int)) = false := decide_eq_false (by omega)
                have hgb2 : (t : Int) < (nf : Int) := by omega
                go_wp2
                go_light
                refine ⟨⟨j + 1, m2, by omega, by go_num, by trivial, ?_⟩, by simp [intOf]; omega⟩
                intro k t' hk hkt
                by_cases e1 : k = j
                · subst e1
                  rw [HT.out] at hkt
                  simp at hkt
                  omega
                · exact HJ.out k t' (by omega) hkt
            · have hjn : j = nn := by omega
              subst hjn
              have hany : e.fns.any (fun f => decide (((M.imports.length + M.funcs.length : Nat) : Int) ≤ f)) = false := by
                rw [HE.out]
                exact any_lt (fun k t hk hkt => HJ.out k t (by rw [HNN.out] at hk; exact hk) hkt)
              rw [if_neg (by rw [hany]; simp)] at HS
              clear hany
              go_wp2
              go_light
              exact ⟨⟨i + 1, m2, by omega, by go_num, by trivial, HS⟩, by simp [intOf]; omega⟩
        · rw [if_pos (by simpa using hop)] at HS
          have hob : ((e.off.op : Int) != 65) = true := by rw [bne_iff_ne]; omega
          go_wp2
          go_ret2
          exact ⟨by rw [HS.out]; rfl, _, rfl⟩
    · have hin : i = ne := by omega
      subst hin
      rw [List.drop_of_length_le (by rw [HNE.out]; exact Nat.le_refl _), elmsV] at HS
      have HS2 : Hid (X = datsV M (M.datas.drop 0) 0) := HS.out
      clear HS
      go_wp2
      go_loopw [9] (fun ii w1 => ∃ i m : Nat, i ≤ nd ∧ ii = .int .i64 i ∧ w1 = w.drewN m ∧ Hid (X = datsV M (M.datas.drop i) i)) (fun ii _ => nd + 1 - (intOf ii).toNat)
      case atStart => exact ⟨0, m, by omega, rfl, rfl, HS2⟩
      case round =>
        clear HS2
        obtain ⟨i, m, hi, rfl, rfl, HS⟩ := hrel
        by_cases hlt : i < nd
        · obtain ⟨e, hx⟩ : ∃ e, M.datas[i]? = some e := ⟨_, List.getElem?_eq_getElem (by rw [HND.out]; exact hlt)⟩
          have heo := HO.out.datas e (List.mem_of_getElem? hx)
          obtain ⟨k, rfl, d0, d1, d2, d3⟩ := HDA.out i e hx
          rw [drop_cons hx, datsV, HMM.out] at HS
          have hib : (i : Int) < (nd : Int) := by omega
          have hopb : e.off.op < 256 := by
            have := heo.off.op
            omega
          clear hx heo
          by_cases hmm : mm < 0
          · rw [if_pos hmm] at HS
            go_wp2
            go_ret2
            exact ⟨by rw [HS.out]; rfl, _, rfl⟩
          · rw [if_neg hmm] at HS
            by_cases hop : e.off.op = 65
            · rw [if_neg (by simp [hop])] at HS
              rw [hop] at d0
              go_wp2
              go_light
              exact ⟨⟨i + 1, m, by omega, by go_num, by trivial, HS⟩, by simp [intOf]; omega⟩
            · rw [if_pos (by simpa using hop)] at HS
              have hob : ((e.off.op : Int) != 65) = true := by rw [bne_iff_ne]; omega
              go_wp2
              go_ret2
              exact ⟨by rw [HS.out]; rfl, _, rfl⟩
        · have hin : i = nd := by omega
          subst hin
          rw [List.drop_of_length_le (by rw [HND.out]; exact Nat.le_refl _), datsV] at HS
          go_wp2
          go_ret2
          exact ⟨by rw [HS.out]; rfl, _, rfl⟩
theorem bytes_ext {a b : ByteArray} (h : a.toList = b.toList) : a = b := by
  rw [Go.ByteArray.toList_eq, Go.ByteArray.toList_eq] at h
  exact ByteArray.ext (Array.toList_inj.1 h)
theorem any_no {l : List Exp} {nm : ByteArray} {i : Nat} (h : ∀ (k : Nat) (t : Exp), k < i → l[k]? = some t → ¬ t.name = nm) : (l.take i).any (fun y => decide (y.name = nm)) = false := by
  rw [List.any_eq_false]
  intro t ht
  obtain ⟨k, hk, rfl⟩ := List.getElem_of_mem ht
  simp at hk
  have := h k l[k] (by omega) (List.getElem?_eq_getElem (by omega))
  simpa using this
def nthV (M : Mod) (nf kind : Nat) : Nat := if kind = 1 then thereV M.tabMin else if kind = 2 then thereV M.memMin else if kind = 3 then M.globals.length else nf
set_option maxHeartbeats 4000000 in
theorem vexports_calls (hM : ModOk M) (h : Md w mb M) (nf : Nat) (hnf : nf ≤ 12) (he : M.imports.length + M.funcs.length = nf) :
    Calls Tryz.prog 145 #[.pointer (some ⟨mb, 0, none⟩), .int .i64 nf] w (Qt w (encP (expsV M [] M.exports 0))) := by
  obtain ⟨X, hX⟩ : ∃ X, expsV M [] M.exports 0 = X := ⟨_, rfl⟩
  have HS : Hid (X = expsV M (M.exports.take 0) (M.exports.drop 0) 0) := hX.symm
  rw [hX]
  have HO : Hid _ := hM
  have HE : Hid _ := he
  have hlx : M.exports.length ≤ 6 := hM.ne
  have hlg : M.globals.length ≤ 4 := hM.ng
  have hk1 := hM.tabMin
  have hk2 := hM.memMin
  obtain ⟨ga, xa, ea, da, c3, c4, c5, c6, c7, c8, c9, c10, c11, gat, xat, eat, dat⟩ := h.rest
  obtain ⟨nx, hnx⟩ : ∃ nx, M.exports.length = nx := ⟨_, rfl⟩
  obtain ⟨ng, hng⟩ : ∃ ng, M.globals.length = ng := ⟨_, rfl⟩
  rw [hnx] at c8 hlx
  rw [hng] at c7 hlg
  have HNX : Hid _ := hnx
  have HNG : Hid _ := hng
  have HXA : Hid _ := xat
  obtain ⟨tm, htm⟩ : ∃ tm, M.tabMin = tm := ⟨_, rfl⟩
  obtain ⟨mm, hmm⟩ : ∃ mm, M.memMin = mm := ⟨_, rfl⟩
  rw [htm] at c3 hk1
  rw [hmm] at c5 hk2
  have HTM : Hid _ := htm
  have HMM : Hid _ := hmm
  have HK1 : Hid _ := hk1
  have HK2 : Hid _ := hk2
  clear hX h hM he c4 c6 c9 c10 c11 gat xat eat dat hnx hng htm hmm hk1 hk2
  go_enter Tryz.func145, Tryz.ntmps145
  go_wp2
  go_loopw [6] (fun ii w1 => ∃ i m : Nat, i ≤ nx ∧ ii = .int .i64 i ∧ w1 = w.drewN m ∧ Hid (X = expsV M (M.exports.take i) (M.exports.drop i) i)) (fun ii _ => nx + 1 - (intOf ii).toNat)
  case atStart => exact ⟨0, 0, by omega, rfl, rfl, HS⟩
  case round =>
    clear HS
    obtain ⟨i, m, hi, rfl, rfl, HS⟩ := hrel
    by_cases hlt : i < nx
    · obtain ⟨x, hx⟩ : ∃ e, M.exports[i]? = some e := ⟨_, List.getElem?_eq_getElem (by rw [HNX.out]; exact hlt)⟩
      have heo := HO.out.exports x (List.mem_of_getElem? hx)
      obtain ⟨k, rfl, d0, d1, d2⟩ := HXA.out i x hx
      have hkind : x.kind ≤ 3 := heo.kind
      have hidx := heo.idx
      unfold u32R at hidx
      have HX : Hid _ := hx
      obtain ⟨nm, kd, ix⟩ := x
      dsimp only at d0 d1 d2 hkind hidx
      obtain ⟨ix, rfl⟩ := Int.eq_ofNat_of_zero_le hidx.1
      have hib : (i : Int) < (nx : Int) := by omega
      obtain ⟨n, hn⟩ : ∃ n, nthV M nf kd = n := ⟨_, rfl⟩
      rw [drop_cons hx, expsV] at HS
      dsimp only at HS
      rw [HE.out] at HS
      have HS2 : Hid (X = if ((nthV M nf kd : Nat) : Int) ≤ (ix : Int) then some (i, 17) else if (M.exports.take i).any (fun y => decide (y.name = nm)) = true then some (i, 18) else expsV M (M.exports.take i ++ [⟨nm, kd, (ix : Int)⟩]) (M.exports.drop (i + 1)) (i + 1)) := HS.out
      clear HS
      have HS : Hid _ := HS2.out
      clear HS2
      rw [← take_snocL hx, hn] at HS
      clear hx heo
      have hwalk : ∀ (W : World) (m2 : Nat) (Q : Exit → Act → World → Prop), True := fun _ _ _ => trivial
      clear hwalk
      have hn12 : n ≤ 12 := by
        rw [← hn]
        unfold nthV thereV
        rw [HNG.out]
        repeat' split
        all_goals omega
      have hcase : (kd = 1 ∧ n = thereV tm) ∨ (kd = 2 ∧ n = thereV mm) ∨ (kd = 3 ∧ n = ng) ∨ (kd = 0 ∧ n = nf) := by
        unfold nthV at hn
        rw [HTM.out, HMM.out, HNG.out] at hn
        rcases (by omega : kd = 0 ∨ kd = 1 ∨ kd = 2 ∨ kd = 3) with rfl | rfl | rfl | rfl <;> simp at hn <;> omega
      clear hn
      by_cases hge : n ≤ ix
      · rw [if_pos (by omega)] at HS
        have hgb : (n : Int) ≤ (ix : Int) := by omega
        rcases hcase with ⟨rfl, hq⟩ | ⟨rfl, hq⟩ | ⟨rfl, hq⟩ | ⟨rfl, hq⟩
        · have HQ : Hid _ := hq
          clear hq
          go_wp2_with (go_at_call 201; refine (there_quiet tm HK1.out).mono ?_; rintro en w2 ⟨rfl, m2, rfl⟩; rw [← HQ.out])
          go_ret2
          exact ⟨by rw [HS.out]; rfl, _, rfl⟩
        · have HQ : Hid _ := hq
          clear hq
          go_wp2_with (go_at_call 201; refine (there_quiet mm HK2.out).mono ?_; rintro en w2 ⟨rfl, m2, rfl⟩; rw [← HQ.out])
          go_ret2
          exact ⟨by rw [HS.out]; rfl, _, rfl⟩
        · subst hq
          go_wp2
          go_ret2
          exact ⟨by rw [HS.out]; rfl, _, rfl⟩
        · subst hq
          go_wp2
          go_ret2
          exact ⟨by rw [HS.out]; rfl, _, rfl⟩
      · rw [if_neg (by omega)] at HS
        have hgb : decide ((n : Int) ≤ (ix : Int)) = false := decide_eq_false (by omega)
        have hgb2 : (ix : Int) < (n : Int) := by omega
        rcases hcase with ⟨rfl, hq⟩ | ⟨rfl, hq⟩ | ⟨rfl, hq⟩ | ⟨rfl, hq⟩
        · have HQ : Hid _ := hq
          clear hq
          go_wp2_with (go_at_call 201; refine (there_quiet tm HK1.out).mono ?_; rintro en w2 ⟨rfl, m2, rfl⟩; rw [← HQ.out])
          go_loopw [9] (fun jj w2 => ∃ j m : Nat, j ≤ i ∧ jj = .int .i64 j ∧ w2 = w.drewN m ∧ Hid (∀ (k : Nat) (t : Exp), k < j → M.exports[k]? = some t → ¬ t.name = nm)) (fun jj _ => i + 1 - (intOf jj).toNat)
          case atStart => exact ⟨0, _, by omega, rfl, rfl, fun k t hk => by omega⟩
          case round =>
            obtain ⟨j, m3, hj, rfl, rfl, HJ⟩ := hrel
            by_cases hjt : j < i
            · obtain ⟨y, hy⟩ : ∃ t, M.exports[j]? = some t := ⟨_, List.getElem?_eq_getElem (by rw [HNX.out]; omega)⟩
              obtain ⟨k2, hk2, e0, e1, e2⟩ := HXA.out j y hy
              simp at hk2
              subst hk2
              have HY : Hid _ := hy
              have hjb : (j : Int) < (nx : Int) := by omega
              have hji : (j : Int) < (i : Int) := by omega
              clear e1 e2 hy
              by_cases hnn : y.name = nm
              · rw [hnn] at e0
                have hany : (M.exports.take i).any (fun y => decide (y.name = nm)) = true := by
                  rw [List.any_eq_true]
                  refine ⟨y, ?_, by simpa using hnn⟩
                  have : (M.exports.take i)[j]? = some y := by rw [List.getElem?_take_of_lt hjt]; exact HY.out
                  exact List.mem_of_getElem? this
                rw [if_pos hany] at HS
                clear hany
                go_wp2_with fail
                go_quiet (fail)
                go_wp2
                go_ret2
                exact ⟨by rw [HS.out]; rfl, _, World.drewN_drewN _ _ _⟩
              · have hnb : (y.name.toList == nm.toList) = false := by rw [beq_eq_false_iff_ne]; intro h; exact hnn (bytes_ext h)
                go_wp2_with fail
                go_quiet (fail)
                go_wp2
                go_light
                refine ⟨⟨j + 1, _, by omega, by go_num, rfl, ?_⟩, by simp [intOf]; omega⟩
                intro k t' hk hkt
                by_cases e1 : k = j
                · subst e1
                  rw [HY.out] at hkt
                  simp at hkt
                  rw [← hkt]
                  exact hnn
                · exact HJ.out k t' (by omega) hkt
            · have hjn : j = i := by omega
              subst hjn
              rw [if_neg (by rw [any_no HJ.out]; simp)] at HS
              go_wp2
              go_light
              exact ⟨⟨j + 1, m3, by omega, by go_num, by trivial, HS⟩, by simp [intOf]; omega⟩
        · have HQ : Hid _ := hq
          clear hq
          go_wp2_with (go_at_call 201; refine (there_quiet mm HK2.out).mono ?_; rintro en w2 ⟨rfl, m2, rfl⟩; rw [← HQ.out])
          go_loopw [9] (fun jj w2 => ∃ j m : Nat, j ≤ i ∧ jj = .int .i64 j ∧ w2 = w.drewN m ∧ Hid (∀ (k : Nat) (t : Exp), k < j → M.exports[k]? = some t → ¬ t.name = nm)) (fun jj _ => i + 1 - (intOf jj).toNat)
          case atStart => exact ⟨0, _, by omega, rfl, rfl, fun k t hk => by omega⟩
          case round =>
            obtain ⟨j, m3, hj, rfl, rfl, HJ⟩ := hrel
            by_cases hjt : j < i
            · obtain ⟨y, hy⟩ : ∃ t, M.exports[j]? = some t := ⟨_, List.getElem?_eq_getElem (by rw [HNX.out]; omega)⟩
              obtain ⟨k2, hk2, e0, e1, e2⟩ := HXA.out j y hy
              simp at hk2
              subst hk2
              have HY : Hid _ := hy
              have hjb : (j : Int) < (nx : Int) := by omega
              have hji : (j : Int) < (i : Int) := by omega
              clear e1 e2 hy
              by_cases hnn : y.name = nm
              · rw [hnn] at e0
                have hany : (M.exports.take i).any (fun y => decide (y.name = nm)) = true := by
                  rw [List.any_eq_true]
                  refine ⟨y, ?_, by simpa using hnn⟩
                  have : (M.exports.take i)[j]? = some y := by rw [List.getElem?_take_of_lt hjt]; exact HY.out
                  exact List.mem_of_getElem? this
                rw [if_pos hany] at HS
                clear hany
                go_wp2_with fail
                go_quiet (fail)
                go_wp2
                go_ret2
                exact ⟨by rw [HS.out]; rfl, _, World.drewN_drewN _ _ _⟩
              · have hnb : (y.name.toList == nm.toList) = false := by rw [beq_eq_false_iff_ne]; intro h; exact hnn (bytes_ext h)
                go_wp2_with fail
                go_quiet (fail)
                go_wp2
                go_light
                refine ⟨⟨j + 1, _, by omega, by go_num, rfl, ?_⟩, by simp [intOf]; omega⟩
                intro k t' hk hkt
                by_cases e1 : k = j
                · subst e1
                  rw [HY.out] at hkt
                  simp at hkt
                  rw [← hkt]
                  exact hnn
                · exact HJ.out k t' (by omega) hkt
            · have hjn : j = i := by omega
              subst hjn
              rw [if_neg (by rw [any_no HJ.out]; simp)] at HS
              go_wp2
              go_light
              exact ⟨⟨j + 1, m3, by omega, by go_num, by trivial, HS⟩, by simp [intOf]; omega⟩
        · subst hq
          go_wp2
          go_loopw [9] (fun jj w2 => ∃ j m : Nat, j ≤ i ∧ jj = .int .i64 j ∧ w2 = w.drewN m ∧ Hid (∀ (k : Nat) (t : Exp), k < j → M.exports[k]? = some t → ¬ t.name = nm)) (fun jj _ => i + 1 - (intOf jj).toNat)
          case atStart => exact ⟨0, _, by omega, rfl, rfl, fun k t hk => by omega⟩
          case round =>
            obtain ⟨j, m3, hj, rfl, rfl, HJ⟩ := hrel
            by_cases hjt : j < i
            · obtain ⟨y, hy⟩ : ∃ t, M.exports[j]? = some t := ⟨_, List.getElem?_eq_getElem (by rw [HNX.out]; omega)⟩
              obtain ⟨k2, hk2, e0, e1, e2⟩ := HXA.out j y hy
              simp at hk2
              subst hk2
              have HY : Hid _ := hy
              have hjb : (j : Int) < (nx : Int) := by omega
              have hji : (j : Int) < (i : Int) := by omega
              clear e1 e2 hy
              by_cases hnn : y.name = nm
              · rw [hnn] at e0
                have hany : (M.exports.take i).any (fun y => decide (y.name = nm)) = true := by
                  rw [List.any_eq_true]
                  refine ⟨y, ?_, by simpa using hnn⟩
                  have : (M.exports.take i)[j]? = some y := by rw [List.getElem?_take_of_lt hjt]; exact HY.out
                  exact List.mem_of_getElem? this
                rw [if_pos hany] at HS
                clear hany
                go_wp2_with fail
                go_quiet (fail)
                go_wp2
                go_ret2
                exact ⟨by rw [HS.out]; rfl, _, World.drewN_drewN _ _ _⟩
              · have hnb : (y.name.toList == nm.toList) = false := by rw [beq_eq_false_iff_ne]; intro h; exact hnn (bytes_ext h)
                go_wp2_with fail
                go_quiet (fail)
                go_wp2
                go_light
                refine ⟨⟨j + 1, _, by omega, by go_num, rfl, ?_⟩, by simp [intOf]; omega⟩
                intro k t' hk hkt
                by_cases e1 : k = j
                · subst e1
                  rw [HY.out] at hkt
                  simp at hkt
                  rw [← hkt]
                  exact hnn
                · exact HJ.out k t' (by omega) hkt
            · have hjn : j = i := by omega
              subst hjn
              rw [if_neg (by rw [any_no HJ.out]; simp)] at HS
              go_wp2
              go_light
              exact ⟨⟨j + 1, m3, by omega, by go_num, by trivial, HS⟩, by simp [intOf]; omega⟩
        · subst hq
          go_wp2
          go_loopw [9] (fun jj w2 => ∃ j m : Nat, j ≤ i ∧ jj = .int .i64 j ∧ w2 = w.drewN m ∧ Hid (∀ (k : Nat) (t : Exp), k < j → M.exports[k]? = some t → ¬ t.name = nm)) (fun jj _ => i + 1 - (intOf jj).toNat)
          case atStart => exact ⟨0, _, by omega, rfl, rfl, fun k t hk => by omega⟩
          case round =>
            obtain ⟨j, m3, hj, rfl, rfl, HJ⟩ := hrel
            by_cases hjt : j < i
            · obtain ⟨y, hy⟩ : ∃ t, M.exports[j]? = some t := ⟨_, List.getElem?_eq_getElem (by rw [HNX.out]; omega)⟩
              obtain ⟨k2, hk2, e0, e1, e2⟩ := HXA.out j y hy
              simp at hk2
              subst hk2
              have HY : Hid _ := hy
              have hjb : (j : Int) < (nx : Int) := by omega
              have hji : (j : Int) < (i : Int) := by omega
              clear e1 e2 hy
              by_cases hnn : y.name = nm
              · rw [hnn] at e0
                have hany : (M.exports.take i).any (fun y => decide (y.name = nm)) = true := by
                  rw [List.any_eq_true]
                  refine ⟨y, ?_, by simpa using hnn⟩
                  have : (M.exports.take i)[j]? = some y := by rw [List.getElem?_take_of_lt hjt]; exact HY.out
                  exact List.mem_of_getElem? this
                rw [if_pos hany] at HS
                clear hany
                go_wp2_with fail
                go_quiet (fail)
                go_wp2
                go_ret2
                exact ⟨by rw [HS.out]; rfl, _, World.drewN_drewN _ _ _⟩
              · have hnb : (y.name.toList == nm.toList) = false := by rw [beq_eq_false_iff_ne]; intro h; exact hnn (bytes_ext h)
                go_wp2_with fail
                go_quiet (fail)
                go_wp2
                go_light
                refine ⟨⟨j + 1, _, by omega, by go_num, rfl, ?_⟩, by simp [intOf]; omega⟩
                intro k t' hk hkt
                by_cases e1 : k = j
                · subst e1
                  rw [HY.out] at hkt
                  simp at hkt
                  rw [← hkt]
                  exact hnn
                · exact HJ.out k t' (by omega) hkt
            · have hjn : j = i := by omega
              subst hjn
              rw [if_neg (by rw [any_no HJ.out]; simp)] at HS
              go_wp2
              go_light
              exact ⟨⟨j + 1, m3, by omega, by go_num, by trivial, HS⟩, by simp [intOf]; omega⟩
    · have hin : i = nx := by omega
      subst hin
      rw [List.drop_of_length_le (by rw [HNX.out]; exact Nat.le_refl _), expsV] at HS
      go_wp2
      go_ret2
      exact ⟨by rw [HS.out]; rfl, _, rfl⟩
end
end Go.Proofs.Qxb6500275aGreatDoor
