import Derived.Test.Qxb6500275aGreatDoorIv1
import Derived.Test.Qxb6500275aGreatDoorLd2
set_option maxRecDepth 100000
set_option linter.unusedVariables false
set_option linter.unusedSimpArgs false
namespace Go.Proofs.Qxb6500275aGreatDoor
open Go Go.RowKit
theorem findX_mem (s : ByteArray) : ∀ (l : List Exp), findX s l = -1 ∨ ∃ x, x ∈ l ∧ x.kind = 0 ∧ findX s l = x.idx
  | [] => .inl rfl
  | x :: xs => by
    rw [findX]
    by_cases h : x.kind = 0 ∧ x.name = s
    · rw [if_pos h]
      exact .inr ⟨x, by simp, h.1, rfl⟩
    · rw [if_neg h]
      rcases findX_mem s xs with e | ⟨y, h1, h2, h3⟩
      · exact .inl e
      · exact .inr ⟨y, by simp [h1], h2, h3⟩
section
variable {num : NumF} {w w' w1 w2 : World} {X : Mx} {O P : Nat → Prop} {st : Ma} {T T' : Nat → Prop} {V V' : Vm} {S S' : Sm} {H H' : Hm} {t : Ty} {args : ByteArray} {g i : Nat}
def encIa (a : Ia) : Value := .tuple #[.string a.s, .int .i64 a.n, .int .i64 a.e]
def InvQ (num : NumF) (w : World) (X : Mx) (O : Nat → Prop) (st : Ma) (name args : ByteArray) (fuel : Nat) (en : Ending) (w' : World) : Prop :=
  ∃ a st', InvR st name args fuel a st' ∧ en = .returned (encIa a) ∧ Mach num w' X O st' ∧ Kp O w w'
theorem Xb.kset (hA : Ax X) (h : Xb w X T V S H) (hT : ∀ k, T k → X.hi ≤ k) {i : Nat} (v : Value) {K : Nat → Value} (hi : i < 120) (hK : Blk w X.kb 120 K) : Xb (w.setCell ⟨X.kb, i, none⟩ v) X T V S H := by
  have hk : Kp (fun k => k = X.kb) w (w.setCell ⟨X.kb, i, none⟩ v) := (Kp.refl (fun k => k = X.kb) w).setCell (p := ⟨X.kb, i, none⟩) (.inl rfl) _
  have hl := hA.lt
  obtain ⟨m, d, v', p, hh, xx⟩ := hA
  obtain ⟨F, x1, x2⟩ := h.x
  obtain ⟨ty, b1⟩ := h.bt
  obtain ⟨v0, d1, d2⟩ := h.vd
  obtain ⟨n, p1⟩ := h.pr
  exact ⟨⟨F, x1.keep hk (by omega), x2⟩, ⟨_, hK.set hi v⟩, h.mm.keep hk (by omega) (by omega), h.hw.keep hk (by omega) (by omega) (by omega) (fun k hk e => by have := hT k hk; omega), ⟨ty, b1.keep hk (by omega) (by omega) (by omega)⟩, ⟨v0, d1.keep hk (by omega), d2⟩, ⟨n, p1.keep hk (by omega) (by omega)⟩⟩
def gD (t : Ty) (j : Nat) : Value := .int .u8 (((packS t).getD j 0 : Nat) : Int)
/- amid Invoke: i arguments are laid -/
structure Iz (w w1 : World) (X : Mx) (T : Nat → Prop) (V : Vm) (S : Sm) (H : Hm) (t : Ty) (args : ByteArray) (g i : Nat) : Prop where
  kp : Kp (fun k => k = X.hb ∨ k = X.kb) w w1
  xb : Xb w1 X T V S H
  st : ∃ K, Blk w1 X.kb 120 K ∧ ∀ (j v : Nat), ((argsW t args).take i)[j]? = some v → K j = .int .u64 v
  gb : Blk w1 g 6 (gD t)
  gl : w.heap.size ≤ g
theorem argsW_get (hi : i < t.p.size) : (argsW t args)[i]? = some (argW t args i) := by
  unfold argsW
  rw [List.getElem?_map, List.getElem?_range hi]
  rfl
theorem Iz.step (hA : Ax X) (hT : ∀ k, T k → X.hi ≤ k) (hhi : X.hi ≤ w.heap.size) (h : Iz w w1 X T V S H t args g i) (hi : i < t.p.size) (hn : t.p.size ≤ 4) : Iz w (w1.setCell ⟨X.kb, i, none⟩ (.int .u64 (argW t args i : Int))) X T V S H t args g (i + 1) := by
  obtain ⟨K, k1, k2⟩ := h.st
  have hgl := h.gl
  have hl := hA.lt
  have hxx := hA.x
  refine ⟨h.kp.setCell (p := ⟨X.kb, i, none⟩) (.inl (.inr rfl)) _, h.xb.kset hA hT _ (by omega) k1, ⟨_, k1.set (by omega) _, fun j v hj => ?_⟩, h.gb.keep ((Kp.refl (fun k => k = X.kb) w1).setCell (p := ⟨X.kb, i, none⟩) (.inl rfl) _) (by omega), hgl⟩
  have hlen : (argsW t args).length = t.p.size := argsW_len
  rw [take_snocL (argsW_get hi)] at hj
  rcases get_snoc3 hj with ⟨h1, h2⟩ | ⟨h1, h2⟩
  · rw [List.length_take] at h1
    rw [upd_ne _ _ (by omega)]
    exact k2 j v h2
  · rw [List.length_take] at h1
    have : j = i := by omega
    subst this
    rw [upd_same, ← h2]
theorem Mach.ran (h : Mach num w X O st) {x : Xt} (hm : st.m = some x) {w0 : World} {lo mb kc : Nat} (hT : ∀ k, T k → X.hi ≤ k ∧ O k) (hlo : X.hi ≤ lo) (hlw : lo ≤ w0.heap.size) (hmp : Mp w0 lo x.C V mb kc) (hk0 : Kp (fun k => k < lo) w0 w) (hown : ∀ k, lo ≤ k → k < w0.heap.size → O k) (hx : Xb w' X T V S' H') (hk : Kp (fun k => X.lo ≤ k ∧ k < X.hi) w w') (hf : Env x.C [] S' H') : Mach num w' X O ⟨some ⟨x.C, S'⟩, H'⟩ ∧ Kp O w w' := by
  refine ⟨⟨h.ax, Nat.le_trans h.hi hk.size, h.own, fun k ho => Nat.lt_of_lt_of_le (h.olt k ho) hk.size, ⟨hf.hm, fun y e => ?_⟩, T, V, S', hx, hT, hf.sm, fun e => by simp at e, fun y e => ?_⟩, hk.mono (fun k e => h.own k e.1 e.2)⟩
  · simp only [Option.some.injEq] at e
    subst e
    exact ⟨(h.good.md x hm).1, hf⟩
  · simp only [Option.some.injEq] at e
    subst e
    exact ⟨rfl, w0, lo, mb, kc, hlo, hlw, hmp, kp_in hk0 hk (fun i _ e => by show i < lo; omega), hown⟩
theorem Ax.fix (hA : Ax X) : (∀ k, k = X.hb ∨ k = X.kb → X.lo ≤ k ∧ k < X.hi) ∧ ∀ {V : Vm} {mb kc kk lo n k : Nat}, Sx (nX (xN X V mb kc kk lo) n) k → X.lo ≤ k ∧ k < X.hi := by
  have hl := hA.lt
  obtain ⟨m, d, v, p, hh, xx⟩ := hA
  refine ⟨fun k e => by omega, fun {V mb kc kk lo n k} e => ?_⟩
  unfold Sx at e
  simp only [nX, xN] at e
  omega
theorem gD_at (hi : i < 4) : gD t (1 + i) = .int .u8 (pAt t.p i : Int) := by
  have : i = 0 ∨ i = 1 ∨ i = 2 ∨ i = 3 := by omega
  rcases this with rfl | rfl | rfl | rfl <;> rfl
set_option maxHeartbeats 16000000 in
theorem inv_pos (hNr : NumR num) (h : Mach num w X O st) (name args : ByteArray) (hsn : name.size ≤ 9223372036854775807) (hsa : args.size ≤ 9223372036854775807) (n : Nat) (hn : n < 9223372036854775808) :
    Calls Tryz.prog 14 #[.pointer (some ⟨X.xb, 0, none⟩), .string name, .string args, .int .i64 (n : Int)] w (InvQ num w X O st name args n) := by
  have HM : Hid _ := h
  have hQ : ∀ (w' : World) (e : Int), Kp (fun _ => False) w w' → InvR st name args n ⟨⟨#[]⟩, 0, e⟩ st → InvQ num w X O st name args n (.returned (encIa ⟨⟨#[]⟩, 0, e⟩)) w' := fun w' e hk hi => ⟨_, _, hi, rfl, HM.out.keep hk (fun _ _ h => h), hk.mono (fun _ h => h.elim)⟩
  have HQ : Hid _ := hQ
  clear hQ
  by_cases h1 : 8 < name.size
  · have HR : Hid (InvR st name args n ⟨⟨#[]⟩, 0, 1⟩ st) := by
      show InvR _ _ _ _ _ _
      unfold InvR
      rw [if_pos (.inl h1)]
      exact ⟨rfl, rfl⟩
    have h1' : (8 : Int) < (name.size : Int) := by omega
    clear h h1
    go_enter Tryz.func14, Tryz.ntmps14
    go_wp2
    refine bodyPost_ret (v := encIa ⟨⟨#[]⟩, 0, 1⟩) (by simp [results, Tryz.results14, go_sem, encIa]) rfl ?_
    exact HQ.out _ _ (Kp.refl _ _) HR.out
  have h1' : ¬ (8 : Int) < (name.size : Int) := by omega
  by_cases h2 : 32 < args.size
  · have HR : Hid (InvR st name args n ⟨⟨#[]⟩, 0, 1⟩ st) := by
      show InvR _ _ _ _ _ _
      unfold InvR
      rw [if_pos (.inr h2)]
      exact ⟨rfl, rfl⟩
    have h2' : (32 : Int) < (args.size : Int) := by omega
    clear h h1 h2
    go_enter Tryz.func14, Tryz.ntmps14
    go_wp2
    refine bodyPost_ret (v := encIa ⟨⟨#[]⟩, 0, 1⟩) (by simp [results, Tryz.results14, go_sem, encIa]) rfl ?_
    exact HQ.out _ _ (Kp.refl _ _) HR.out
  have h2' : ¬ (32 : Int) < (args.size : Int) := by omega
  obtain ⟨T, V, S, hx, hT, hS, hno, hyes⟩ := h.is
  have HAX : Hid _ := h.ax
  have HHI : Hid _ := h.hi
  obtain ⟨F, x1, x2⟩ := hx.x
  have c4 := x1.cell (i := 4) (by decide)
  have c5 := x1.cell (i := 5) (by decide)
  have c8 := x1.cell (i := 8) (by decide)
  have c9 := x1.cell (i := 9) (by decide)
  rw [x2.f4] at c4
  rw [x2.f5] at c5
  rw [x2.f8] at c8
  rw [x2.f9] at c9
  obtain ⟨sm, hsm⟩ : ∃ sm, st.m = sm := ⟨_, rfl⟩
  rw [hsm] at hno hyes
  cases sm with
  | none =>
    rw [hno rfl] at c5
    unfold Vm.none at c5
    dsimp only at c5
    have HR : Hid (InvR st name args n ⟨⟨#[]⟩, 0, 32⟩ st) := by
      show InvR _ _ _ _ _ _
      unfold InvR
      rw [if_neg (by omega), hsm]
      exact ⟨rfl, rfl⟩
    clear h h1 h2 hx hT hS hno hyes x1 x2 hsm c4 c8 c9
    go_enter Tryz.func14, Tryz.ntmps14
    go_wp2
    refine bodyPost_ret (v := encIa ⟨⟨#[]⟩, 0, 32⟩) (by simp [results, Tryz.results14, go_sem, encIa]) rfl ?_
    exact HQ.out _ _ (Kp.refl _ _) HR.out
  | some x =>
    obtain ⟨hSx, w0, lo, mb, kc, hlo, hlw, hmp, hk0, hown⟩ := hyes x rfl
    have hmp1 := hmp.keep hk0 (fun k e => e)
    rw [hmp1.v5] at c5
    obtain ⟨hgc, henv⟩ := h.good.md x hsm
    have hfi := find_calls hgc.ok.mod hmp1.md c5 name
    obtain ⟨fi, hfx⟩ : ∃ fi, findX name x.C.M.exports = fi := ⟨_, rfl⟩
    rw [hfx] at hfi
    have HR0 : Hid (∀ a st', InvX x st.H name args n a st' → InvR st name args n a st') := fun a st' hi => by
      unfold InvR
      rw [if_neg (by omega), hsm]
      exact hi
    have hst : (⟨some x, st.H⟩ : Ma) = st := by rw [← hsm]
    by_cases h3 : fi < 0
    · have HR : Hid (InvR st name args n ⟨⟨#[]⟩, 0, 33⟩ st) := by
        refine HR0.out _ _ ?_
        unfold InvX
        rw [hfx, if_pos h3]
        exact ⟨rfl, hst.symm⟩
      have hcl : ∀ W, W = w → Calls Tryz.prog 43 #[.pointer (some ⟨X.xb, 0, none⟩), .string name] W (Qm W (.int .i64 fi)) := fun W e => by rw [e]; exact hfi
      clear h h1 h2 hx hT hS hno hyes x1 x2 hsm c4 c8 c9 hmp hmp1 hk0 hown hgc henv hfx hst hcl
      go_enter Tryz.func14, Tryz.ntmps14
      go_wp2_with fail
      refine hfi.mono ?_
      rintro en w1 ⟨rfl, rfl⟩
      go_wp2_with fail
      refine bodyPost_ret (v := encIa ⟨⟨#[]⟩, 0, 33⟩) (by simp [results, Tryz.results14, go_sem, encIa]) rfl ?_
      exact HQ.out _ _ (Kp.refl _ _) HR.out
    obtain ⟨f, rfl⟩ : ∃ f : Nat, fi = (f : Int) := ⟨fi.toNat, by omega⟩
    have hfr : f < x.C.M.imports.length + x.C.M.funcs.length := by
      rcases findX_mem name x.C.M.exports with e | ⟨y, y1, y2, y3⟩
      · omega
      · have := hgc.exps y y1 y2
        omega
    obtain ⟨t, ht⟩ := hgc.ty f hfr
    have hto := typeOf_ok hgc.ok.mod ht
    have hfl12 : f < 12 := by have := hgc.ok.mod.ni; have := hgc.ok.mod.nf; omega
    obtain ⟨fl, ow, fl1, fl2⟩ := hmp1.fv
    obtain ⟨fb, fcap, hv8, hfb, hfc⟩ := ow.at_ (fl2 f t ht)
    rw [hv8, fl1] at c8
    have q0 := hfc 0 _ rfl
    have q1 := hfc 1 _ rfl
    have q2 := hfc 2 _ rfl
    have q3 := hfc 3 _ rfl
    have q4 := hfc 4 _ rfl
    have q5 := hfc 5 _ rfl
    rw [Nat.add_zero] at q0
    obtain ⟨nn, hnn⟩ : ∃ nn, x.C.M.imports.length + x.C.M.funcs.length = nn := ⟨_, rfl⟩
    rw [hnn] at c8 hfr
    obtain ⟨np, hnp⟩ : ∃ np, t.p.size = np := ⟨_, rfl⟩
    have hnp4 : np ≤ 4 := by rw [← hnp]; exact hto.np
    rw [hnp] at q0
    have hres := resT_0 hto
    have HXN : Hid (∀ a st', (if args.size ≠ 8 * np then a = ⟨⟨#[]⟩, 0, 34⟩ ∧ st' = ⟨some x, st.H⟩ else ∃ R, RunR x.C n f (argsW t args) x.S (freshS st.H) R ∧ a = resS t R ∧ st' = ⟨some ⟨x.C, R.2.S⟩, R.2.H⟩) → InvR st name args n a st') := fun a st' hi => by
      refine HR0.out _ _ ?_
      unfold InvX
      rw [hfx, if_neg h3, ht]
      dsimp only
      rw [hnp, Int.toNat_natCast]
      exact hi
    have hib : (f : Int) < (nn : Int) := by omega
    have HNP : Hid _ := hnp
    have HTO : Hid _ := hto
    have HX : Hid _ := hx
    have HT : Hid _ := hT
    have HS : Hid _ := hS
    have HSX : Hid _ := hSx
    have HGC : Hid _ := hgc
    have HENV : Hid _ := henv
    have HTY : Hid _ := ht
    have HRES : Hid _ := hres
    have HMP : Hid (Mp w lo x.C V mb kc) := hmp1
    have HLO : Hid _ := hlo
    have HMP0 : Hid (Mp w0 lo x.C V mb kc) := hmp
    have HK0 : Hid _ := hk0
    have HLW : Hid _ := hlw
    have HOWN : Hid _ := hown
    have HSM : Hid _ := hsm
    have HST : Hid _ := hst
    have hpl : ∀ j, pAt t.p j < 256 := fun j => by unfold pAt; split; exact bAt_lt _ _; decide
    have hrl : resT t < 256 := by unfold resT; split; decide; exact bAt_lt _ _
    have HPL : Hid _ := hpl
    have hW1 : Kp (fun _ => False) w (w.alloc (.cells #[.int .u8 (np : Int), .int .u8 (pAt t.p 0 : Int), .int .u8 (pAt t.p 1 : Int), .int .u8 (pAt t.p 2 : Int), .int .u8 (pAt t.p 3 : Int), .int .u8 (resT t : Int)] 90)) := (Kp.refl _ _).alloc _
    have hB1 : Blk (w.alloc (.cells #[.int .u8 (np : Int), .int .u8 (pAt t.p 0 : Int), .int .u8 (pAt t.p 1 : Int), .int .u8 (pAt t.p 2 : Int), .int .u8 (pAt t.p 3 : Int), .int .u8 (resT t : Int)] 90)) w.heap.size 6 (gD t) := by
      intro j hj
      have := blk_alloc w #[.int .u8 (np : Int), .int .u8 (pAt t.p 0 : Int), .int .u8 (pAt t.p 1 : Int), .int .u8 (pAt t.p 2 : Int), .int .u8 (pAt t.p 3 : Int), .int .u8 (resT t : Int)] 90 j (by simpa using hj)
      have hj6 : j = 0 ∨ j = 1 ∨ j = 2 ∨ j = 3 ∨ j = 4 ∨ j = 5 := by omega
      subst hnp
      rcases hj6 with rfl | rfl | rfl | rfl | rfl | rfl <;> exact this
    have HW1 : Hid _ := hW1
    have HB1 : Hid (Blk (w.alloc (.cells #[.int .u8 (np : Int), .int .u8 (pAt t.p 0 : Int), .int .u8 (pAt t.p 1 : Int), .int .u8 (pAt t.p 2 : Int), .int .u8 (pAt t.p 3 : Int), .int .u8 (resT t : Int)] 90)) w.heap.size 6 (gD t)) := hB1
    clear h h1 h2 hx hT hS hno hyes x1 x2 hsm hmp hmp1 hk0 hown hgc henv hfx hst h3 hto hfl12 ow fl1 fl2 hv8 hfb hfc hnn hnp hres ht hSx hlo hlw hW1 hB1 hpl hfr
    by_cases h4 : args.size = 8 * np
    · have c41 : (w.alloc (.cells #[.int .u8 (np : Int), .int .u8 (pAt t.p 0 : Int), .int .u8 (pAt t.p 1 : Int), .int .u8 (pAt t.p 2 : Int), .int .u8 (pAt t.p 3 : Int), .int .u8 (resT t : Int)] 90)).cell? ⟨X.xb, 4, none⟩ = some (.pointer (some ⟨X.hb, 0, none⟩)) := by rw [HW1.out.cell (p := ⟨X.xb, 4, none⟩) (lt_of_cell c4) (fun h => h)]; exact c4
      go_enter Tryz.func14, Tryz.ntmps14
      go_wp2_with fail
      refine hfi.mono ?_
      rintro en w1 ⟨rfl, rfl⟩
      have h4' : (args.size : Int) = 8 * (np : Int) := by omega
      go_wp2_with fail
      have HX1 : Hid (Xb (w1.alloc (.cells #[.int .u8 (np : Int), .int .u8 (pAt t.p 0 : Int), .int .u8 (pAt t.p 1 : Int), .int .u8 (pAt t.p 2 : Int), .int .u8 (pAt t.p 3 : Int), .int .u8 (resT t : Int)] 90)) X T V S st.H) := HX.out.keep HAX.out HW1.out (fun _ _ _ h => h) (fun _ _ h => h)
      have hfr := fresh_calls HX1.out.hw
      have HTH : Hid (∀ k, T k → X.hi ≤ k) := fun k hk => (HT.out k hk).1
      generalize (w1.alloc (.cells #[.int .u8 (np : Int), .int .u8 (pAt t.p 0 : Int), .int .u8 (pAt t.p 1 : Int), .int .u8 (pAt t.p 2 : Int), .int .u8 (pAt t.p 3 : Int), .int .u8 (resT t : Int)] 90)) = W1 at HW1 HB1 HX1 hfr c41 ⊢
      refine hfr.mono ?_
      rintro en w2 ⟨rfl, k2, hw2⟩
      have HX2 : Hid (Xb w2 X T V S (freshS st.H)) := HX1.out.host HAX.out HTH.out (k2.mono (fun k e => .inl e)) hw2
      obtain ⟨K0, hK0⟩ := HX2.out.kb
      obtain ⟨g, hg⟩ : ∃ g, w1.heap.size = g := ⟨_, rfl⟩
      rw [hg] at HB1 ⊢
      have HIZ : Hid (Iz w1 w2 X T V S (freshS st.H) t args g 0) := ⟨(HW1.out.mono (fun _ h => h.elim)).trans (k2.mono (fun _ e => .inl e)), HX2.out, ⟨K0, hK0, fun j v hj => by simp at hj⟩, Blk.keep HB1.out k2 (by have := HAX.out.h; have := HAX.out.lt; have := HHI.out; omega), by rw [hg]; exact Nat.le_refl _⟩
      have HGE : Hid _ := hg
      clear hfr k2 hw2 HX1 HX2 HB1 HW1 hK0 c41 c4 c5 c8 c9 q0 q1 q2 q3 q4 q5 hfi hg
      go_wp2_with fail
      go_loopw [14] (fun ii u1 => ∃ (i : Nat), i ≤ np ∧ ii = .int .i64 i ∧ Hid (Iz w1 u1 X T V S (freshS st.H) t args g i)) (fun ii _ => np + 1 - (intOf ii).toNat)
      case atStart => exact ⟨0, by omega, rfl, HIZ⟩
      case round =>
        clear HIZ
        obtain ⟨i, hi, rfl, HIZ⟩ := hrel
        obtain ⟨K, hK, hKs⟩ := HIZ.out.st
        obtain ⟨F9, x91, x92⟩ := HIZ.out.xb.x
        have c9 := x91.cell (i := 9) (by decide)
        rw [x92.f9] at c9
        by_cases hlt : i < np
        · have ck := hK.cell (i := i) (by omega)
          have gk := hK.fz (i := i) (by omega)
          have cg := HIZ.out.gb.cell (i := 1 + i) (by omega)
          rw [gD_at (by omega)] at cg
          have hwd := word_any args (i : Int) hsa wr
          have hct := cut_calls2 wr (pAt t.p i) (HPL.out i) (wordF args (i : Int)) (wordF_range args (i : Int))
          have hil : (i : Int) < (np : Int) := by omega
          have HSTEP : Hid _ := HIZ.out.step HAX.out HTH.out (by have := HHI.out; omega) (by rw [HNP.out]; exact hlt) (by rw [HNP.out]; exact hnp4)
          have haw : cutB (pAt t.p i) (wordF args (i : Int)) = ((argW t args i : Nat) : Int) := by
            unfold argW
            have := cutB_r (t := pAt t.p i) (wordF_range args (i : Int))
            omega
          rw [haw] at hct
          clear hK hKs x91 x92 haw
          go_wp2_with fail
          refine hwd.mono ?_
          rintro en w3 ⟨rfl, rfl⟩
          go_wp2_with fail
          refine hct.mono ?_
          rintro en w4 ⟨rfl, rfl⟩
          go_wp2_with fail
          go_roundw
          case rel => exact ⟨i + 1, by omega, by go_num, HSTEP.out⟩
          case measure => simp [intOf]; omega
        · have hie : np = i := by omega
          subst hie
          have hSx := HSX.out
          subst hSx
          have henv := inv_env (t := t) (args := args) HENV.out
          have hwl : (argsW t args).length = t.p.size := argsW_len
          obtain ⟨R, hR⟩ := RunR.total HGC.out.ok HTY.out henv hwl n
          obtain ⟨m, hgo⟩ := hR.goes HGC.out.ok HTY.out henv hwl
          have hfin := hR.fin HGC.out.ok HTY.out henv hwl
          have hfx := HAX.out.fix
          have hkw : Kp (fun k => X.lo ≤ k ∧ k < X.hi) w1 wr := HIZ.out.kp.mono hfx.1
          have hmpw : Mp wr lo x.C V mb kc := HMP.out.keep hkw (fun k e => by have := HLO.out; omega)
          have hlw : lo ≤ wr.heap.size := by have := HLW.out; have := HK0.out.size; have := hkw.size; omega
          have holt := HM.out.olt
          obtain ⟨kk, hq⟩ := hmpw.xq (T := T) hNr HGC.out HAX.out HLO.out hlw (fun k hk => ⟨HTH.out k hk, Nat.lt_of_lt_of_le (holt k (HT.out k hk).2) hkw.size⟩)
          have hz := HIZ.out.xb.xz (kk := kk) (lo := lo) (ws := argsW t args) HMP.out.v5 HMP.out.v6 hK (fun j v hj => hKs j v (by rw [List.take_of_length_le (by rw [hwl, HNP.out]; exact Nat.le_refl _)]; exact hj))
          have hnf : x.C.fs.length ≤ 8 := by have := HGC.out.ok.n; have := HGC.out.ok.mod.nf; omega
          have hrun := run_calls (N := xN X V mb kc kk lo) (C := x.C) (T := T) (R := R) (m := m) (fuel := n) (f := f) (ws := argsW t args) (S := x.S) (H := freshS st.H) (t := t) hq HGC.out.len HGC.out.ty hnf hz hgo (by omega) HTY.out hwl henv
          rw [hwl, HNP.out] at hrun
          change Calls Tryz.prog 42 #[.pointer (some ⟨X.xb, 0, none⟩), .int .i64 (f : Int), .int .i64 (np : Int), .int .i64 ((n : Nat) : Int)] wr _ at hrun
          have HR : Hid (InvR st name args n (resS t R) ⟨some ⟨x.C, R.2.S⟩, R.2.H⟩) := HXN.out _ _ (by rw [if_neg (fun e => e h4)]; exact ⟨R, hR, rfl, rfl⟩)
          have HF : Hid _ := hfin
          have HKW : Hid _ := hkw
          have HFX : Hid (∀ {V : Vm} {mb kc kk lo n k : Nat}, Sx (nX (xN X V mb kc kk lo) n) k → X.lo ≤ k ∧ k < X.hi) := hfx.2
          clear henv hwl hR hgo hfin hfx hkw hmpw hlw holt hq hz hnf hK hKs
          go_wp2_with fail
          refine hrun.mono ?_
          rintro en w7 ⟨rfl, ws', fr, hd, hxr, hout⟩
          obtain ⟨x7, K7, hK7, hKs7⟩ := xr_rest HAX.out HIZ.out.xb HMP.out.v5 HMP.out.v6 hxr
          have hkr : Kp (fun k => X.lo ≤ k ∧ k < X.hi) wr w7 := hxr.kp.mono (fun k e => HFX.out e)
          have hgl := HIZ.out.gl
          have gb7 : Blk w7 g 6 (gD t) := HIZ.out.gb.keep hkr (fun e => by have := HHI.out; omega)
          have HMA : Hid (Mach num w7 X O ⟨some ⟨x.C, R.2.S⟩, R.2.H⟩ ∧ Kp O w1 w7) := HM.out.ran HSM.out HT.out HLO.out HLW.out HMP0.out HK0.out HOWN.out x7 (HKW.out.trans hkr) HF.out.env.nil
          have hg5 : w7.cell? ⟨g, 5, none⟩ = some (.int .u8 (resT t : Int)) := gb7.cell (i := 5) (by decide)
          obtain ⟨F7, y1, y2⟩ := x7.x
          have c9' := y1.cell (i := 9) (by decide)
          rw [y2.f9] at c9'
          have hfe := HF.out.e
          have HQL : Hid _ := HF.out.out
          have HOUT : Hid _ := hout
          have HK7 : Hid _ := hKs7
          have hk70 := hK7.cell (i := 0) (by decide)
          obtain ⟨R1, e7, out7, S7, H7⟩ := R
          clear hrun hxr x7 hkr gb7 y1 y2 hout hKs7 hK7 hgl c9 x91 x92
          dsimp only at *
          unfold resS at HR
          dsimp only at HR
          by_cases he7 : e7 = 0
          · subst he7
            by_cases hr0 : resT t = 0
            · rw [if_pos (.inr hr0)] at HR
              rw [hr0] at hg5
              go_wp2_with fail
              refine bodyPost_ret (v := encIa ⟨⟨#[]⟩, (R1 : Int), 0⟩) (by simp [results, Tryz.results14, go_sem, encIa]) rfl ?_
              exact ⟨_, _, HR.out, rfl, HMA.out.1, HMA.out.2⟩
            · rw [if_neg (fun e => by rcases e with e | e; exact e rfl; exact hr0 e)] at HR
              have hrb : ((resT t : Int) == 0) = false := by rw [beq_eq_false_iff_ne]; omega
              have hq1 : out7.length = 1 := by
                rw [HQL.out rfl]
                have h1 := HTO.out.nq
                have h2 := HRES.out
                have h3 : ¬ t.q.size = 0 := fun e => hr0 (h2.2 e)
                omega
              obtain ⟨v, hv⟩ : ∃ v, out7 = [v] := List.length_eq_one_iff.1 hq1
              subst hv
              have hk0 : K7 0 = .int .u64 (v : Int) := HK7.out 0 v (by rw [HOUT.out rfl]; rfl)
              rw [hk0] at hk70
              have hvr : v < 18446744073709551616 := HF.out.env.wd v (by simp)
              have hw64 : IntKind.u64.wrap (resT t : Int) = (resT t : Int) := u64id (by omega) (by omega)
              have hx1 := hex_any (resT t : Int) 2 (by omega) (by decide) w7
              rw [Int.toNat_natCast] at hx1
              have hl1 : (hexL (resT t) 2).length = 2 := hexL_length _ _
              have hl2 : (hexL v 16).length = 16 := hexL_length _ _
              go_wp2_with fail
              refine hx1.mono ?_
              rintro en w8 ⟨rfl, k8⟩
              have hk8 : Kp (fun _ => False) w7 w8 := ⟨k8.os, k8.tape, k8.output, k8.size, fun k hk _ => k8.block k hk⟩
              have c98 : w8.cell? ⟨X.xb, 9, none⟩ = some (.slice (some ⟨X.kb, 0, none⟩) 120 120) := by rw [hk8.cell (p := ⟨X.xb, 9, none⟩) (lt_of_cell c9') (fun h => h)]; exact c9'
              have c70 : w8.cell? ⟨X.kb, 0, none⟩ = some (.int .u64 (v : Int)) := by rw [hk8.cell (p := ⟨X.kb, 0, none⟩) (lt_of_cell hk70) (fun h => h)]; exact hk70
              have hx2 := hex_any (v : Int) 16 (by omega) (by decide) w8
              rw [Int.toNat_natCast] at hx2
              have HK8 : Hid _ := hk8
              clear hx1 k8 hk8 c9' hk70 hg5
              go_wp2_with fail
              refine hx2.mono ?_
              rintro en w9 ⟨rfl, k9⟩
              have HK9 : Hid (Kp (fun _ => False) w7 w9) := HK8.out.trans ⟨k9.os, k9.tape, k9.output, k9.size, fun k hk _ => k9.block k hk⟩
              clear hx2 k9
              have hs1 : ¬ 9223372036854775807 < (hexL (resT t) 2).length + 1 := by omega
              have hs2 : ¬ 9223372036854775807 < (hexL (resT t) 2).length + 1 + (hexL v 16).length := by omega
              go_wp2_with fail
              refine bodyPost_ret (v := encIa ⟨(⟨⟨hexL (resT t) 2⟩⟩ : ByteArray) ++ colon ++ (⟨⟨hexL v 16⟩⟩ : ByteArray), (R1 : Int), 0⟩) (by simp [results, Tryz.results14, go_sem, encIa, colon]) rfl ?_
              exact ⟨_, _, HR.out, rfl, HMA.out.1.keep HK9.out (fun _ _ h => h), HMA.out.2.trans (HK9.out.mono (fun _ h => h.elim))⟩
          · rw [if_pos (.inl he7)] at HR
            have hen : ((e7 : Int) == 0) = false := by rw [beq_eq_false_iff_ne]; omega
            go_wp2_with fail
            refine bodyPost_ret (v := encIa ⟨⟨#[]⟩, (R1 : Int), (e7 : Int)⟩) (by simp [results, Tryz.results14, go_sem, encIa]) rfl ?_
            exact ⟨_, _, HR.out, rfl, HMA.out.1, HMA.out.2⟩
    · have HR : Hid (InvR st name args n ⟨⟨#[]⟩, 0, 34⟩ st) := HXN.out _ _ (by rw [if_pos h4]; exact ⟨rfl, HST.out.symm⟩)
      have h4' : ((args.size : Int) == 8 * (np : Int)) = false := by rw [beq_eq_false_iff_ne]; omega
      go_enter Tryz.func14, Tryz.ntmps14
      go_wp2_with fail
      refine hfi.mono ?_
      rintro en w1 ⟨rfl, rfl⟩
      go_wp2_with fail
      refine bodyPost_ret (v := encIa ⟨⟨#[]⟩, 0, 34⟩) (by simp [results, Tryz.results14, go_sem, encIa]) rfl ?_
      exact HQ.out _ _ HW1.out HR.out
set_option maxHeartbeats 16000000 in
theorem inv_neg (hNr : NumR num) (h : Mach num w X O st) (name args : ByteArray) (hsn : name.size ≤ 9223372036854775807) (hsa : args.size ≤ 9223372036854775807) (A : Int) (hA0 : A < 0) :
    Calls Tryz.prog 14 #[.pointer (some ⟨X.xb, 0, none⟩), .string name, .string args, .int .i64 A] w (InvQ num w X O st name args 0) := by
  have HM : Hid _ := h
  have hQ : ∀ (w' : World) (e : Int), Kp (fun _ => False) w w' → InvR st name args 0 ⟨⟨#[]⟩, 0, e⟩ st → InvQ num w X O st name args 0 (.returned (encIa ⟨⟨#[]⟩, 0, e⟩)) w' := fun w' e hk hi => ⟨_, _, hi, rfl, HM.out.keep hk (fun _ _ h => h), hk.mono (fun _ h => h.elim)⟩
  have HQ : Hid _ := hQ
  clear hQ
  by_cases h1 : 8 < name.size
  · have HR : Hid (InvR st name args 0 ⟨⟨#[]⟩, 0, 1⟩ st) := by
      show InvR _ _ _ _ _ _
      unfold InvR
      rw [if_pos (.inl h1)]
      exact ⟨rfl, rfl⟩
    have h1' : (8 : Int) < (name.size : Int) := by omega
    clear h h1
    go_enter Tryz.func14, Tryz.ntmps14
    go_wp2
    refine bodyPost_ret (v := encIa ⟨⟨#[]⟩, 0, 1⟩) (by simp [results, Tryz.results14, go_sem, encIa]) rfl ?_
    exact HQ.out _ _ (Kp.refl _ _) HR.out
  have h1' : ¬ (8 : Int) < (name.size : Int) := by omega
  by_cases h2 : 32 < args.size
  · have HR : Hid (InvR st name args 0 ⟨⟨#[]⟩, 0, 1⟩ st) := by
      show InvR _ _ _ _ _ _
      unfold InvR
      rw [if_pos (.inr h2)]
      exact ⟨rfl, rfl⟩
    have h2' : (32 : Int) < (args.size : Int) := by omega
    clear h h1 h2
    go_enter Tryz.func14, Tryz.ntmps14
    go_wp2
    refine bodyPost_ret (v := encIa ⟨⟨#[]⟩, 0, 1⟩) (by simp [results, Tryz.results14, go_sem, encIa]) rfl ?_
    exact HQ.out _ _ (Kp.refl _ _) HR.out
  have h2' : ¬ (32 : Int) < (args.size : Int) := by omega
  obtain ⟨T, V, S, hx, hT, hS, hno, hyes⟩ := h.is
  have HAX : Hid _ := h.ax
  have HHI : Hid _ := h.hi
  obtain ⟨F, x1, x2⟩ := hx.x
  have c4 := x1.cell (i := 4) (by decide)
  have c5 := x1.cell (i := 5) (by decide)
  have c8 := x1.cell (i := 8) (by decide)
  have c9 := x1.cell (i := 9) (by decide)
  rw [x2.f4] at c4
  rw [x2.f5] at c5
  rw [x2.f8] at c8
  rw [x2.f9] at c9
  obtain ⟨sm, hsm⟩ : ∃ sm, st.m = sm := ⟨_, rfl⟩
  rw [hsm] at hno hyes
  cases sm with
  | none =>
    rw [hno rfl] at c5
    unfold Vm.none at c5
    dsimp only at c5
    have HR : Hid (InvR st name args 0 ⟨⟨#[]⟩, 0, 32⟩ st) := by
      show InvR _ _ _ _ _ _
      unfold InvR
      rw [if_neg (by omega), hsm]
      exact ⟨rfl, rfl⟩
    clear h h1 h2 hx hT hS hno hyes x1 x2 hsm c4 c8 c9
    go_enter Tryz.func14, Tryz.ntmps14
    go_wp2
    refine bodyPost_ret (v := encIa ⟨⟨#[]⟩, 0, 32⟩) (by simp [results, Tryz.results14, go_sem, encIa]) rfl ?_
    exact HQ.out _ _ (Kp.refl _ _) HR.out
  | some x =>
    obtain ⟨hSx, w0, lo, mb, kc, hlo, hlw, hmp, hk0, hown⟩ := hyes x rfl
    have hmp1 := hmp.keep hk0 (fun k e => e)
    rw [hmp1.v5] at c5
    obtain ⟨hgc, henv⟩ := h.good.md x hsm
    have hfi := find_calls hgc.ok.mod hmp1.md c5 name
    obtain ⟨fi, hfx⟩ : ∃ fi, findX name x.C.M.exports = fi := ⟨_, rfl⟩
    rw [hfx] at hfi
    have HR0 : Hid (∀ a st', InvX x st.H name args 0 a st' → InvR st name args 0 a st') := fun a st' hi => by
      unfold InvR
      rw [if_neg (by omega), hsm]
      exact hi
    have hst : (⟨some x, st.H⟩ : Ma) = st := by rw [← hsm]
    by_cases h3 : fi < 0
    · have HR : Hid (InvR st name args 0 ⟨⟨#[]⟩, 0, 33⟩ st) := by
        refine HR0.out _ _ ?_
        unfold InvX
        rw [hfx, if_pos h3]
        exact ⟨rfl, hst.symm⟩
      have hcl : ∀ W, W = w → Calls Tryz.prog 43 #[.pointer (some ⟨X.xb, 0, none⟩), .string name] W (Qm W (.int .i64 fi)) := fun W e => by rw [e]; exact hfi
      clear h h1 h2 hx hT hS hno hyes x1 x2 hsm c4 c8 c9 hmp hmp1 hk0 hown hgc henv hfx hst hcl
      go_enter Tryz.func14, Tryz.ntmps14
      go_wp2_with fail
      refine hfi.mono ?_
      rintro en w1 ⟨rfl, rfl⟩
      go_wp2_with fail
      refine bodyPost_ret (v := encIa ⟨⟨#[]⟩, 0, 33⟩) (by simp [results, Tryz.results14, go_sem, encIa]) rfl ?_
      exact HQ.out _ _ (Kp.refl _ _) HR.out
    obtain ⟨f, rfl⟩ : ∃ f : Nat, fi = (f : Int) := ⟨fi.toNat, by omega⟩
    have hfr : f < x.C.M.imports.length + x.C.M.funcs.length := by
      rcases findX_mem name x.C.M.exports with e | ⟨y, y1, y2, y3⟩
      · omega
      · have := hgc.exps y y1 y2
        omega
    obtain ⟨t, ht⟩ := hgc.ty f hfr
    have hto := typeOf_ok hgc.ok.mod ht
    have hfl12 : f < 12 := by have := hgc.ok.mod.ni; have := hgc.ok.mod.nf; omega
    obtain ⟨fl, ow, fl1, fl2⟩ := hmp1.fv
    obtain ⟨fb, fcap, hv8, hfb, hfc⟩ := ow.at_ (fl2 f t ht)
    rw [hv8, fl1] at c8
    have q0 := hfc 0 _ rfl
    have q1 := hfc 1 _ rfl
    have q2 := hfc 2 _ rfl
    have q3 := hfc 3 _ rfl
    have q4 := hfc 4 _ rfl
    have q5 := hfc 5 _ rfl
    rw [Nat.add_zero] at q0
    obtain ⟨nn, hnn⟩ : ∃ nn, x.C.M.imports.length + x.C.M.funcs.length = nn := ⟨_, rfl⟩
    rw [hnn] at c8 hfr
    obtain ⟨np, hnp⟩ : ∃ np, t.p.size = np := ⟨_, rfl⟩
    have hnp4 : np ≤ 4 := by rw [← hnp]; exact hto.np
    rw [hnp] at q0
    have hres := resT_0 hto
    have HXN : Hid (∀ a st', (if args.size ≠ 8 * np then a = ⟨⟨#[]⟩, 0, 34⟩ ∧ st' = ⟨some x, st.H⟩ else ∃ R, RunR x.C 0 f (argsW t args) x.S (freshS st.H) R ∧ a = resS t R ∧ st' = ⟨some ⟨x.C, R.2.S⟩, R.2.H⟩) → InvR st name args 0 a st') := fun a st' hi => by
      refine HR0.out _ _ ?_
      unfold InvX
      rw [hfx, if_neg h3, ht]
      dsimp only
      rw [hnp, Int.toNat_natCast]
      exact hi
    have hib : (f : Int) < (nn : Int) := by omega
    have HNP : Hid _ := hnp
    have HTO : Hid _ := hto
    have HX : Hid _ := hx
    have HT : Hid _ := hT
    have HS : Hid _ := hS
    have HSX : Hid _ := hSx
    have HGC : Hid _ := hgc
    have HENV : Hid _ := henv
    have HTY : Hid _ := ht
    have HRES : Hid _ := hres
    have HMP : Hid (Mp w lo x.C V mb kc) := hmp1
    have HLO : Hid _ := hlo
    have HMP0 : Hid (Mp w0 lo x.C V mb kc) := hmp
    have HK0 : Hid _ := hk0
    have HLW : Hid _ := hlw
    have HOWN : Hid _ := hown
    have HSM : Hid _ := hsm
    have HST : Hid _ := hst
    have hpl : ∀ j, pAt t.p j < 256 := fun j => by unfold pAt; split; exact bAt_lt _ _; decide
    have hrl : resT t < 256 := by unfold resT; split; decide; exact bAt_lt _ _
    have HPL : Hid _ := hpl
    have hW1 : Kp (fun _ => False) w (w.alloc (.cells #[.int .u8 (np : Int), .int .u8 (pAt t.p 0 : Int), .int .u8 (pAt t.p 1 : Int), .int .u8 (pAt t.p 2 : Int), .int .u8 (pAt t.p 3 : Int), .int .u8 (resT t : Int)] 90)) := (Kp.refl _ _).alloc _
    have hB1 : Blk (w.alloc (.cells #[.int .u8 (np : Int), .int .u8 (pAt t.p 0 : Int), .int .u8 (pAt t.p 1 : Int), .int .u8 (pAt t.p 2 : Int), .int .u8 (pAt t.p 3 : Int), .int .u8 (resT t : Int)] 90)) w.heap.size 6 (gD t) := by
      intro j hj
      have := blk_alloc w #[.int .u8 (np : Int), .int .u8 (pAt t.p 0 : Int), .int .u8 (pAt t.p 1 : Int), .int .u8 (pAt t.p 2 : Int), .int .u8 (pAt t.p 3 : Int), .int .u8 (resT t : Int)] 90 j (by simpa using hj)
      have hj6 : j = 0 ∨ j = 1 ∨ j = 2 ∨ j = 3 ∨ j = 4 ∨ j = 5 := by omega
      subst hnp
      rcases hj6 with rfl | rfl | rfl | rfl | rfl | rfl <;> exact this
    have HW1 : Hid _ := hW1
    have HB1 : Hid (Blk (w.alloc (.cells #[.int .u8 (np : Int), .int .u8 (pAt t.p 0 : Int), .int .u8 (pAt t.p 1 : Int), .int .u8 (pAt t.p 2 : Int), .int .u8 (pAt t.p 3 : Int), .int .u8 (resT t : Int)] 90)) w.heap.size 6 (gD t)) := hB1
    clear h h1 h2 hx hT hS hno hyes x1 x2 hsm hmp hmp1 hk0 hown hgc henv hfx hst h3 hto hfl12 ow fl1 fl2 hv8 hfb hfc hnn hnp hres ht hSx hlo hlw hW1 hB1 hpl hfr
    by_cases h4 : args.size = 8 * np
    · have c41 : (w.alloc (.cells #[.int .u8 (np : Int), .int .u8 (pAt t.p 0 : Int), .int .u8 (pAt t.p 1 : Int), .int .u8 (pAt t.p 2 : Int), .int .u8 (pAt t.p 3 : Int), .int .u8 (resT t : Int)] 90)).cell? ⟨X.xb, 4, none⟩ = some (.pointer (some ⟨X.hb, 0, none⟩)) := by rw [HW1.out.cell (p := ⟨X.xb, 4, none⟩) (lt_of_cell c4) (fun h => h)]; exact c4
      go_enter Tryz.func14, Tryz.ntmps14
      go_wp2_with fail
      refine hfi.mono ?_
      rintro en w1 ⟨rfl, rfl⟩
      have h4' : (args.size : Int) = 8 * (np : Int) := by omega
      go_wp2_with fail
      have HX1 : Hid (Xb (w1.alloc (.cells #[.int .u8 (np : Int), .int .u8 (pAt t.p 0 : Int), .int .u8 (pAt t.p 1 : Int), .int .u8 (pAt t.p 2 : Int), .int .u8 (pAt t.p 3 : Int), .int .u8 (resT t : Int)] 90)) X T V S st.H) := HX.out.keep HAX.out HW1.out (fun _ _ _ h => h) (fun _ _ h => h)
      have hfr := fresh_calls HX1.out.hw
      have HTH : Hid (∀ k, T k → X.hi ≤ k) := fun k hk => (HT.out k hk).1
      generalize (w1.alloc (.cells #[.int .u8 (np : Int), .int .u8 (pAt t.p 0 : Int), .int .u8 (pAt t.p 1 : Int), .int .u8 (pAt t.p 2 : Int), .int .u8 (pAt t.p 3 : Int), .int .u8 (resT t : Int)] 90)) = W1 at HW1 HB1 HX1 hfr c41 ⊢
      refine hfr.mono ?_
      rintro en w2 ⟨rfl, k2, hw2⟩
      have HX2 : Hid (Xb w2 X T V S (freshS st.H)) := HX1.out.host HAX.out HTH.out (k2.mono (fun k e => .inl e)) hw2
      obtain ⟨K0, hK0⟩ := HX2.out.kb
      obtain ⟨g, hg⟩ : ∃ g, w1.heap.size = g := ⟨_, rfl⟩
      rw [hg] at HB1 ⊢
      have HIZ : Hid (Iz w1 w2 X T V S (freshS st.H) t args g 0) := ⟨(HW1.out.mono (fun _ h => h.elim)).trans (k2.mono (fun _ e => .inl e)), HX2.out, ⟨K0, hK0, fun j v hj => by simp at hj⟩, Blk.keep HB1.out k2 (by have := HAX.out.h; have := HAX.out.lt; have := HHI.out; omega), by rw [hg]; exact Nat.le_refl _⟩
      have HGE : Hid _ := hg
      clear hfr k2 hw2 HX1 HX2 HB1 HW1 hK0 c41 c4 c5 c8 c9 q0 q1 q2 q3 q4 q5 hfi hg
      go_wp2_with fail
      go_loopw [14] (fun ii u1 => ∃ (i : Nat), i ≤ np ∧ ii = .int .i64 i ∧ Hid (Iz w1 u1 X T V S (freshS st.H) t args g i)) (fun ii _ => np + 1 - (intOf ii).toNat)
      case atStart => exact ⟨0, by omega, rfl, HIZ⟩
      case round =>
        clear HIZ
        obtain ⟨i, hi, rfl, HIZ⟩ := hrel
        obtain ⟨K, hK, hKs⟩ := HIZ.out.st
        obtain ⟨F9, x91, x92⟩ := HIZ.out.xb.x
        have c9 := x91.cell (i := 9) (by decide)
        rw [x92.f9] at c9
        by_cases hlt : i < np
        · have ck := hK.cell (i := i) (by omega)
          have gk := hK.fz (i := i) (by omega)
          have cg := HIZ.out.gb.cell (i := 1 + i) (by omega)
          rw [gD_at (by omega)] at cg
          have hwd := word_any args (i : Int) hsa wr
          have hct := cut_calls2 wr (pAt t.p i) (HPL.out i) (wordF args (i : Int)) (wordF_range args (i : Int))
          have hil : (i : Int) < (np : Int) := by omega
          have HSTEP : Hid _ := HIZ.out.step HAX.out HTH.out (by have := HHI.out; omega) (by rw [HNP.out]; exact hlt) (by rw [HNP.out]; exact hnp4)
          have haw : cutB (pAt t.p i) (wordF args (i : Int)) = ((argW t args i : Nat) : Int) := by
            unfold argW
            have := cutB_r (t := pAt t.p i) (wordF_range args (i : Int))
            omega
          rw [haw] at hct
          clear hK hKs x91 x92 haw
          go_wp2_with fail
          refine hwd.mono ?_
          rintro en w3 ⟨rfl, rfl⟩
          go_wp2_with fail
          refine hct.mono ?_
          rintro en w4 ⟨rfl, rfl⟩
          go_wp2_with fail
          go_roundw
          case rel => exact ⟨i + 1, by omega, by go_num, HSTEP.out⟩
          case measure => simp [intOf]; omega
        · have hie : np = i := by omega
          subst hie
          have hSx := HSX.out
          subst hSx
          have henv := inv_env (t := t) (args := args) HENV.out
          have hwl : (argsW t args).length = t.p.size := argsW_len
          obtain ⟨R, hR⟩ := RunR.total HGC.out.ok HTY.out henv hwl 0
          obtain ⟨m, hgo⟩ := hR.goes HGC.out.ok HTY.out henv hwl
          have hfin := hR.fin HGC.out.ok HTY.out henv hwl
          have hfx := HAX.out.fix
          have hkw : Kp (fun k => X.lo ≤ k ∧ k < X.hi) w1 wr := HIZ.out.kp.mono hfx.1
          have hmpw : Mp wr lo x.C V mb kc := HMP.out.keep hkw (fun k e => by have := HLO.out; omega)
          have hlw : lo ≤ wr.heap.size := by have := HLW.out; have := HK0.out.size; have := hkw.size; omega
          have holt := HM.out.olt
          obtain ⟨kk, hq⟩ := hmpw.xq (T := T) hNr HGC.out HAX.out HLO.out hlw (fun k hk => ⟨HTH.out k hk, Nat.lt_of_lt_of_le (holt k (HT.out k hk).2) hkw.size⟩)
          have hz := HIZ.out.xb.xz (kk := kk) (lo := lo) (ws := argsW t args) HMP.out.v5 HMP.out.v6 hK (fun j v hj => hKs j v (by rw [List.take_of_length_le (by rw [hwl, HNP.out]; exact Nat.le_refl _)]; exact hj))
          have hnf : x.C.fs.length ≤ 8 := by have := HGC.out.ok.n; have := HGC.out.ok.mod.nf; omega
          have hrun := run_calls (N := xN X V mb kc kk lo) (C := x.C) (T := T) (R := R) (m := m) (fuel := 0) (f := f) (ws := argsW t args) (S := x.S) (H := freshS st.H) (t := t) hq HGC.out.len HGC.out.ty hnf hz hgo (by omega) HTY.out hwl henv
          rw [hwl, HNP.out] at hrun
          change Calls Tryz.prog 42 #[.pointer (some ⟨X.xb, 0, none⟩), .int .i64 (f : Int), .int .i64 (np : Int), .int .i64 ((0 : Nat) : Int)] wr _ at hrun
          have HR : Hid (InvR st name args 0 (resS t R) ⟨some ⟨x.C, R.2.S⟩, R.2.H⟩) := HXN.out _ _ (by rw [if_neg (fun e => e h4)]; exact ⟨R, hR, rfl, rfl⟩)
          have HF : Hid _ := hfin
          have HKW : Hid _ := hkw
          have HFX : Hid (∀ {V : Vm} {mb kc kk lo n k : Nat}, Sx (nX (xN X V mb kc kk lo) n) k → X.lo ≤ k ∧ k < X.hi) := hfx.2
          clear henv hwl hR hgo hfin hfx hkw hmpw hlw holt hq hz hnf hK hKs
          go_wp2_with fail
          refine hrun.mono ?_
          rintro en w7 ⟨rfl, ws', fr, hd, hxr, hout⟩
          obtain ⟨x7, K7, hK7, hKs7⟩ := xr_rest HAX.out HIZ.out.xb HMP.out.v5 HMP.out.v6 hxr
          have hkr : Kp (fun k => X.lo ≤ k ∧ k < X.hi) wr w7 := hxr.kp.mono (fun k e => HFX.out e)
          have hgl := HIZ.out.gl
          have gb7 : Blk w7 g 6 (gD t) := HIZ.out.gb.keep hkr (fun e => by have := HHI.out; omega)
          have HMA : Hid (Mach num w7 X O ⟨some ⟨x.C, R.2.S⟩, R.2.H⟩ ∧ Kp O w1 w7) := HM.out.ran HSM.out HT.out HLO.out HLW.out HMP0.out HK0.out HOWN.out x7 (HKW.out.trans hkr) HF.out.env.nil
          have hg5 : w7.cell? ⟨g, 5, none⟩ = some (.int .u8 (resT t : Int)) := gb7.cell (i := 5) (by decide)
          obtain ⟨F7, y1, y2⟩ := x7.x
          have c9' := y1.cell (i := 9) (by decide)
          rw [y2.f9] at c9'
          have hfe := HF.out.e
          have HQL : Hid _ := HF.out.out
          have HOUT : Hid _ := hout
          have HK7 : Hid _ := hKs7
          have hk70 := hK7.cell (i := 0) (by decide)
          obtain ⟨R1, e7, out7, S7, H7⟩ := R
          clear hrun hxr x7 hkr gb7 y1 y2 hout hKs7 hK7 hgl c9 x91 x92
          dsimp only at *
          unfold resS at HR
          dsimp only at HR
          by_cases he7 : e7 = 0
          · subst he7
            by_cases hr0 : resT t = 0
            · rw [if_pos (.inr hr0)] at HR
              rw [hr0] at hg5
              go_wp2_with fail
              refine bodyPost_ret (v := encIa ⟨⟨#[]⟩, (R1 : Int), 0⟩) (by simp [results, Tryz.results14, go_sem, encIa]) rfl ?_
              exact ⟨_, _, HR.out, rfl, HMA.out.1, HMA.out.2⟩
            · rw [if_neg (fun e => by rcases e with e | e; exact e rfl; exact hr0 e)] at HR
              have hrb : ((resT t : Int) == 0) = false := by rw [beq_eq_false_iff_ne]; omega
              have hq1 : out7.length = 1 := by
                rw [HQL.out rfl]
                have h1 := HTO.out.nq
                have h2 := HRES.out
                have h3 : ¬ t.q.size = 0 := fun e => hr0 (h2.2 e)
                omega
              obtain ⟨v, hv⟩ : ∃ v, out7 = [v] := List.length_eq_one_iff.1 hq1
              subst hv
              have hk0 : K7 0 = .int .u64 (v : Int) := HK7.out 0 v (by rw [HOUT.out rfl]; rfl)
              rw [hk0] at hk70
              have hvr : v < 18446744073709551616 := HF.out.env.wd v (by simp)
              have hw64 : IntKind.u64.wrap (resT t : Int) = (resT t : Int) := u64id (by omega) (by omega)
              have hx1 := hex_any (resT t : Int) 2 (by omega) (by decide) w7
              rw [Int.toNat_natCast] at hx1
              have hl1 : (hexL (resT t) 2).length = 2 := hexL_length _ _
              have hl2 : (hexL v 16).length = 16 := hexL_length _ _
              go_wp2_with fail
              refine hx1.mono ?_
              rintro en w8 ⟨rfl, k8⟩
              have hk8 : Kp (fun _ => False) w7 w8 := ⟨k8.os, k8.tape, k8.output, k8.size, fun k hk _ => k8.block k hk⟩
              have c98 : w8.cell? ⟨X.xb, 9, none⟩ = some (.slice (some ⟨X.kb, 0, none⟩) 120 120) := by rw [hk8.cell (p := ⟨X.xb, 9, none⟩) (lt_of_cell c9') (fun h => h)]; exact c9'
              have c70 : w8.cell? ⟨X.kb, 0, none⟩ = some (.int .u64 (v : Int)) := by rw [hk8.cell (p := ⟨X.kb, 0, none⟩) (lt_of_cell hk70) (fun h => h)]; exact hk70
              have hx2 := hex_any (v : Int) 16 (by omega) (by decide) w8
              rw [Int.toNat_natCast] at hx2
              have HK8 : Hid _ := hk8
              clear hx1 k8 hk8 c9' hk70 hg5
              go_wp2_with fail
              refine hx2.mono ?_
              rintro en w9 ⟨rfl, k9⟩
              have HK9 : Hid (Kp (fun _ => False) w7 w9) := HK8.out.trans ⟨k9.os, k9.tape, k9.output, k9.size, fun k hk _ => k9.block k hk⟩
              clear hx2 k9
              have hs1 : ¬ 9223372036854775807 < (hexL (resT t) 2).length + 1 := by omega
              have hs2 : ¬ 9223372036854775807 < (hexL (resT t) 2).length + 1 + (hexL v 16).length := by omega
              go_wp2_with fail
              refine bodyPost_ret (v := encIa ⟨(⟨⟨hexL (resT t) 2⟩⟩ : ByteArray) ++ colon ++ (⟨⟨hexL v 16⟩⟩ : ByteArray), (R1 : Int), 0⟩) (by simp [results, Tryz.results14, go_sem, encIa, colon]) rfl ?_
              exact ⟨_, _, HR.out, rfl, HMA.out.1.keep HK9.out (fun _ _ h => h), HMA.out.2.trans (HK9.out.mono (fun _ h => h.elim))⟩
          · rw [if_pos (.inl he7)] at HR
            have hen : ((e7 : Int) == 0) = false := by rw [beq_eq_false_iff_ne]; omega
            go_wp2_with fail
            refine bodyPost_ret (v := encIa ⟨⟨#[]⟩, (R1 : Int), (e7 : Int)⟩) (by simp [results, Tryz.results14, go_sem, encIa]) rfl ?_
            exact ⟨_, _, HR.out, rfl, HMA.out.1, HMA.out.2⟩
    · have HR : Hid (InvR st name args 0 ⟨⟨#[]⟩, 0, 34⟩ st) := HXN.out _ _ (by rw [if_pos h4]; exact ⟨rfl, HST.out.symm⟩)
      have h4' : ((args.size : Int) == 8 * (np : Int)) = false := by rw [beq_eq_false_iff_ne]; omega
      go_enter Tryz.func14, Tryz.ntmps14
      go_wp2_with fail
      refine hfi.mono ?_
      rintro en w1 ⟨rfl, rfl⟩
      go_wp2_with fail
      refine bodyPost_ret (v := encIa ⟨⟨#[]⟩, 0, 34⟩) (by simp [results, Tryz.results14, go_sem, encIa]) rfl ?_
      exact HQ.out _ _ HW1.out HR.out
theorem invoke_calls (hNr : NumR num) (h : Mach num w X O st) (name args : ByteArray) (hsn : name.size ≤ 9223372036854775807) (hsa : args.size ≤ 9223372036854775807) (A : Int) (hA64 : A < 9223372036854775808) :
    Calls Tryz.prog 14 #[.pointer (some ⟨X.xb, 0, none⟩), .string name, .string args, .int .i64 A] w (InvQ num w X O st name args A.toNat) := by
  by_cases h0 : A < 0
  · have : A.toNat = 0 := by omega
    rw [this]
    exact inv_neg hNr h name args hsn hsa A h0
  · obtain ⟨n, rfl⟩ : ∃ n : Nat, A = (n : Int) := ⟨A.toNat, by omega⟩
    exact inv_pos hNr h name args hsn hsa n (by omega)
end
end Go.Proofs.Qxb6500275aGreatDoor
