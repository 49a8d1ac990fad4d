import Derived.Test.Qxb6500275aGreatDoorXom
import Derived.Test.Qxb6500275aGreatDoorXoa
import Derived.Test.Qxb6500275aGreatDoorXo9
import Derived.Test.Qxb6500275aGreatDoorXob
import Derived.Test.Qxb6500275aGreatDoorXo7
set_option maxRecDepth 100000
set_option linter.unusedVariables false
set_option linter.unusedSimpArgs false
namespace Go.Proofs.Qxb6500275aGreatDoor
open Go Go.RowKit
section
variable {w0 w u : World} {N0 N : EN} {q : MQ} {g cap : Nat} {q0 q1 : List (MF × FT3)} {x b : MF × FT3} {num : NumF0}
set_option maxHeartbeats 16000000 in
theorem dd_14 (h : Ew w0 N0 w N q g cap (q1 ++ [b]) x) (hB : FB x.1) {y : Fn × Value × Value} {X Y : Int} (hM : ModOk N.m.mod) {k : Nat} (hfk : x.1.f = (k : Int)) (hn : q1.length ≤ 10) (hyk : N.m.fs[k]? = some y) (hop : ∀ l, l ∈ x.1.labs → l.1 < y.1.body.length) (hx : u32R X) (hy : u64R Y) {e : Nat} {q' : MQ} (hr : deedM num N.m.mod y.1 q ⟨14, X, Y⟩ = some (e, q')) :
    Calls Tryz.prog 261 #[.pointer (some ⟨N.xb, 0, none⟩), .pointer (some ⟨g, (q1.length + 1) * 5, none⟩), y.2.1, .agg #[.int .u8 14, .int .u32 X, .int .u64 Y]] w (Ez w0 N0 (e : Int) q') := by
  unfold deedM at hr
  rw [h.fr] at hr
  dsimp only at hr
  obtain ⟨n, hnn⟩ : ∃ n, (q1.length + 1) = n := ⟨_, rfl⟩
  have HNN : Hid ((q1.length + 1) = n) := hnn
  rw [hnn]
  obtain ⟨yb, hyb⟩ : ∃ v, y.2.1 = v := ⟨_, rfl⟩
  have HYB : Hid _ := hyb
  rw [hyb]
  have HW : Hid (Ew w0 N0 w N q g cap (q1 ++ [b]) x) := h
  have HB : Hid _ := hB
  have HAL : Hid (∀ U, Kp (fun _ => False) w U → Ew w0 N0 U N q g cap (q1 ++ [b]) x) := fun U hU => h.quiet hU
  iterate 5 rw [if_neg (by decide)] at hr
  rw [if_pos rfl] at hr
  cases hp1 : popM x.1 127 with
  | none => rw [hp1] at hr; simp at hr
  | some pr =>
  obtain ⟨c, r1⟩ := pr
  rw [hp1] at hr
  dsimp only at hr
  have hb1 := hB.pop hp1
  obtain ⟨l0, _, _, _, hr1⟩ := popM_some hp1
  have hf1 : r1.f = (k : Int) := by rw [hr1]; exact hfk
  have hop1 : ∀ l, l ∈ r1.labs → l.1 < y.1.body.length := by rw [hr1]; exact hop
  obtain ⟨a, rfl⟩ : ∃ f : Nat, X = (f : Int) := ⟨X.toNat, by have := hx.1; omega⟩
  obtain ⟨d, rfl⟩ : ∃ f : Nat, Y = (f : Int) := ⟨Y.toNat, by have := hy.1; omega⟩
  by_cases hg : (d : Int) < 1 ∨ (y.1.tabs.length : Int) < (a : Int) + (d : Int)
  · rw [if_pos hg] at hr; simp at hr
  rw [if_neg hg] at hr
  rw [show ((a : Int)).toNat = a from rfl, show ((d : Int)).toNat = d from rfl] at hr
  obtain rfl : e = 0 := branchM_e hr
  have HP1 : Hid (∀ U, Kp (fun _ => False) w U → Calls Tryz.prog 257 #[.pointer (some ⟨g, n * 5, none⟩), .int .u8 127] U (Po2 w0 N0 N q g cap (q1 ++ [b]) x.1 x.2 c r1 U)) := fun U hU => pop_2 (by simp; exact HNN.out) (HAL.out U hU).same hB (want := 127) (by omega) hp1
  have HNA : Hid (¬ ({ N with fs := q1 ++ [b] ++ [(x.1, x.2)] } : EN).all w.heap.size) := fun hk => Nat.lt_irrefl _ (h.same.all_lt hk)
  obtain ⟨i, hi⟩ : ∃ i, (if c.b < d - 1 then c.b else d - 1) = i := ⟨_, rfl⟩
  rw [hi] at hr
  obtain ⟨m, hm⟩ : ∃ m, a + i = m := ⟨_, rfl⟩
  rw [hm] at hr
  obtain ⟨nt, hnt⟩ : ∃ m, y.1.tabs.length = m := ⟨_, rfl⟩
  have hid : i < d := by rw [← hi]; split <;> omega
  have hmn : m < nt := by omega
  obtain ⟨lb, hlb⟩ : ∃ l, y.1.tabs[m]? = some l := ⟨_, List.getElem?_eq_getElem (by omega)⟩
  have hFn := hM.funcs y.1 (by
    have : N.m.mod.funcs[k]? = some y.1 := by unfold MT.mod; dsimp only; rw [List.getElem?_map, hyk]; rfl
    exact List.mem_of_getElem? this)
  have hlr := hFn.tabs lb (List.mem_of_getElem? hlb)
  have hnt24 := hFn.nt
  obtain ⟨l, rfl⟩ : ∃ f : Nat, lb = (f : Int) := ⟨lb.toNat, by have := hlr.1; omega⟩
  have hl32 : l < 4294967296 := by have := hlr.2; omega
  have hge : (y.1.tabs.getD m 0).toNat = l := by rw [List.getD_eq_getElem?_getD, hlb]; rfl
  rw [hge] at hr
  have HC : Hid (∀ U t', Ew w0 N0 U { N with fs := q1 ++ [b] ++ [(r1, t')] } (q.top r1) g cap (q1 ++ [b]) (r1, t') → Calls Tryz.prog 273 #[.pointer (some ⟨N.xb, 0, none⟩), .pointer (some ⟨g, n * 5, none⟩), yb, .int .u32 (l : Int)] U (Ez w0 N0 0 q')) := fun U t' hU => by
    have := branch_w hU hM hb1.1 (by rw [hf1]; omega) hn hyk hop1 hl32 hr
    dsimp only at this
    rw [hnn, hyb] at this
    exact this
  have HYK : Hid _ := hyk
  have HNT : Hid (y.1.tabs.length = nt) := hnt
  have HLB : Hid _ := hlb
  have hcb := hb1.2.2
  have hd1 : 1 ≤ d := by omega
  have had : a + d ≤ nt := by omega
  have hnt2 : nt ≤ 24 := by omega
  have hadi : (a : Int) + (d : Int) ≤ (nt : Int) := by omega
  have hf1' : r1.f = (k : Int) := hf1
  clear hr h hB hnn hyb hM hop hyk hp1 hb1 hr1 hop1 hg hlb hge hFn hlr hnt24 hnt hfk
  go_enter Tryz.func261, Tryz.ntmps261
  go_wp2_with fail
  refine (HP1.out _ ((Kp.refl _ _).alloc _)).mono ?_
  rintro en U1 ⟨rfl, t1, HE1, HG1⟩
  have hI := (C3.new w (.int .u8 14) (.int .u32 (a : Int)) (.int .u64 (d : Int)) 129).keep HG1.out.kp HNA.out
  have i1 := hI.c1
  have i2 := hI.c2
  have hlt := hI.lt
  obtain ⟨x0, x1, x2, x3, x4, y3, y4, f0, f1, f2, f3, f4, fz, ap, fcp⟩ := HE1.out.cells (n := n) (by simp; exact HNN.out)
  dsimp only at x0 f0
  rw [hf1'] at f0
  obtain ⟨fg, fcap, fv, g1, g2, g3, fc⟩ := HE1.out.mk_.atFn HYK.out
  have m2 := HE1.out.mk_.c2
  dsimp only at m2 fv g2
  obtain ⟨nf, hnf⟩ : ∃ n, N.m.fs.length = n := ⟨_, rfl⟩
  have hkn : k < nf := by rw [← hnf]; exact (List.getElem?_eq_some_iff.1 HYK.out).1
  rw [fv, hnf] at m2
  have z3 := fc 3 y.2.2 rfl
  have hO := (HE1.out.mk_.body (List.mem_of_getElem? HYK.out)).2
  rw [HNT.out] at hO
  obtain ⟨tg, tcap, tv, u1, u2, u3, tc, _⟩ := hO.ptr (by omega)
  rw [tv] at z3
  have q0' := tc m (.int .u32 (l : Int)) (by unfold tabC; rw [List.getElem?_map, HLB.out]; rfl)
  have hki : (k : Int) < (nf : Int) := by omega
  have hgf : nf ≤ fcap := by rw [← hnf]; exact g2
  clear x1 x2 x3 x4 y3 y4 f1 f2 f3 f4 fz ap fcp hI fc hO tc tv fv g2 hnf HG1 hf1 hf1'
  have n1 : N.xb < U1.heap.size := lt_of_cell x0
  have n2 : N.mb < U1.heap.size := lt_of_cell m2
  have n3 : g < U1.heap.size := lt_of_cell f0
  have n4 : tg < U1.heap.size := lt_of_cell q0'
  by_cases hcd : c.b < d - 1
  · rw [if_pos hcd] at hi
    subst hi
    subst hm
    have hci : (c.b : Int) < (d : Int) - 1 := by omega
    have hcn : (a : Int) + (c.b : Int) < (nt : Int) := by omega
    clear hcd
    go_wp2_with fail
    go_quiet (fail)
    go_wp2_with fail
    refine (HC.out _ t1 (HE1.out.quiet (((Kp.refl _ _).alloc _).drewM _))).mono ?_
    rintro en u9 ⟨rfl, HZ⟩
    go_wp2
    go_ret
    exact ⟨rfl, HZ⟩
  · rw [if_neg hcd] at hi
    have hdi : (d : Int) - 1 = (i : Int) := by omega
    subst hm
    have hci : ¬ (c.b : Int) < (i : Int) := by omega
    have hcn : (a : Int) + (i : Int) < (nt : Int) := by omega
    clear hcd hi
    go_wp2_with fail
    go_quiet (fail)
    go_wp2_with fail
    refine (HC.out _ t1 (HE1.out.quiet (((Kp.refl _ _).alloc _).drewM _))).mono ?_
    rintro en u9 ⟨rfl, HZ⟩
    go_wp2
    go_ret
    exact ⟨rfl, HZ⟩
end
end Go.Proofs.Qxb6500275aGreatDoor
