import Derived.Test.Qxb6500275aGreatDoorXod
import Derived.Test.Qxb6500275aGreatDoorVm1
set_option maxRecDepth 100000
set_option linter.unusedVariables false
set_option linter.unusedSimpArgs false
namespace Go.Proofs.Qxb6500275aGreatDoor
open Go Go.RowKit
theorem argsV_ext {ts : ByteArray} {j : Nat} (hj : j < ts.size) : argsV (ts.extract 0 (j + 1)) = bAt ts j :: argsV (ts.extract 0 j) := by
  have hsz : (ts.extract 0 (j + 1)).size = j + 1 := by rw [ByteArray.size_extract]; omega
  rw [argsV_top (s := ts.extract 0 (j + 1)) (by omega), hsz]
  have e1 : bAt (ts.extract 0 (j + 1)) (j + 1 - 1) = bAt ts j := by
    unfold bAt
    congr 1
    rw [ByteArray.data_extract]
    simp
  have e2 : (ts.extract 0 (j + 1)).extract 0 (j + 1 - 1) = ts.extract 0 j := by
    rw [Nat.add_sub_cancel]
    apply ByteArray.ext
    simp only [ByteArray.data_extract]
    simp
  rw [e1, e2]
theorem popsM_step {r r' : MF} {p : ByteArray} {j : Nat} (hj : j < p.size) {vs : List MV} (h : popsM r (argsV (p.extract 0 (j + 1))) = some (vs, r')) : ∃ v r1 us, popM r (bAt p j) = some (v, r1) ∧ popsM r1 (argsV (p.extract 0 j)) = some (us, r') ∧ vs = us ++ [v] := by
  rw [argsV_ext hj, popsM] at h
  cases h1 : popM r (bAt p j) with
  | none => rw [h1] at h; simp at h
  | some pr =>
    obtain ⟨v, r1⟩ := pr
    rw [h1] at h
    dsimp only at h
    cases h2 : popsM r1 (argsV (p.extract 0 j)) with
    | none => rw [h2] at h; simp at h
    | some pr2 =>
      obtain ⟨us, r2⟩ := pr2
      rw [h2] at h
      simp at h
      exact ⟨v, r1, us, rfl, by rw [h2, h.2], h.1.symm⟩
theorem mk227 (W : World) (n : Nat) (hn : n ≤ 1000) : (Instr.makeSlice 227 (.int .i64 (n : Int)) (.int .i64 (n : Int))).run Tryz.prog W = .ok (.slice (some ⟨W.heap.size, 0, none⟩) n n) (W.alloc (.cells (madeCells #[.int .u8 0, .int .u64 0] (n * 2)) 229)) :=
  make_c2 (P := Tryz.prog) W 227 229 n n 2 16 #[.int .u8 0, .int .u64 0] (by kernel_rfl) (by kernel_rfl) (by kernel_rfl) (by omega) (by omega) (by omega)
theorem made229 {n : Nat} (hn : n ≤ 4) : (madeCells #[(.int .u8 0 : Value), .int .u64 0] (n * 2)).toList = valC (List.replicate n ⟨0, 0⟩) := by
  rcases (by omega : n = 0 ∨ n = 1 ∨ n = 2 ∨ n = 3 ∨ n = 4) with rfl | rfl | rfl | rfl | rfl <;> kernel_rfl
/- amid the pops of a call -/
structure Cl198 (w0 : World) (N0 N : EN) (q : MQ) (g cap : Nat) (q0 : List (MF × FT3)) (p : ByteArray) (vs : List MV) (r' : MF) (np L : Nat) (u : World) (j : Nat) : Prop where
  is : ∃ (rj : MF) (tj : FT3) (done us : List MV), popsM rj (argsV (p.extract 0 j)) = some (us, r') ∧ vs = us ++ done ∧ done.length = np - j ∧ (∀ v, v ∈ done → v.t < 256 ∧ v.b < 18446744073709551616) ∧ FB rj ∧ Ew w0 N0 u { N with fs := q0 ++ [(rj, tj)] } (q.top rj) g cap q0 (rj, tj) ∧
    OR u 229 2 (.slice (some ⟨L, 0, none⟩) np np) np (valC (List.replicate j ⟨0, 0⟩ ++ done)) ∧ ¬ ({ N with fs := q0 ++ [(rj, tj)] } : EN).all L
section
variable {w0 w u : World} {N0 N : EN} {q : MQ} {g cap : Nat} {q0 q1 : List (MF × FT3)} {x b : MF × FT3}
theorem Ew.same (h : Ew w0 N0 w N q g cap q0 x) : Ew w0 N0 w { N with fs := q0 ++ [(x.1, x.2)] } (q.top x.1) g cap q0 (x.1, x.2) := by
  have e1 : q.top x.1 = q := by
    unfold MQ.top
    rw [h.fr]
    have := h.fr
    cases q
    dsimp only at this ⊢
    rw [this]
    rfl
  have e2 : ({ N with fs := q0 ++ [(x.1, x.2)] } : EN) = N := by
    have := h.fs
    cases N
    dsimp only at this ⊢
    rw [this]
  rw [e1, e2]
  exact h
theorem cl198_step {p : ByteArray} {vs : List MV} {r' : MF} {np L i n : Nat} {wr : World} (hnn : q0.length = n) (HC : Cl198 w0 N0 N q g cap q0 p vs r' np L wr (i + 1)) (hi : i + 1 ≤ np) (hnp : p.size = np) (hL0 : w0.heap.size ≤ L) :
    ∃ v : MV, Calls Tryz.prog 257 #[.pointer (some ⟨g, n * 5, none⟩), .int .u8 (bAt p i : Int)] wr (fun en u2 => en = .returned (.tuple #[.agg #[.int .u8 (v.t : Int), .int .u64 (v.b : Int)], .bool true]) ∧ L < u2.heap.size ∧ L ≠ u2.heap.size ∧
      u2.cell? ⟨L, i * 2, none⟩ = some (.int .u8 0) ∧ u2.cell? ⟨L, i * 2 + 1, none⟩ = some (.int .u64 0) ∧ u2.frozen? ⟨L, i * 2, none⟩ = false ∧ u2.frozen? ⟨L, i * 2 + 1, none⟩ = false ∧
      Hid (Cl198 w0 N0 N q g cap q0 p vs r' np L (((u2.setCell ⟨L, i * 2, none⟩ (.int .u8 (v.t : Int))).setCell ⟨L, i * 2 + 1, none⟩ (.int .u64 (v.b : Int))).alloc (.cells #[.int .u8 (v.t : Int), .int .u64 (v.b : Int)] 229)) i)) := by
  obtain ⟨rj, tj, done, us, hps2, hvs, hdl, hdv, hFB, hEj, hO, hLa⟩ := HC.is
  obtain ⟨v, r1, us2, hp1, hp2, hus⟩ := popsM_step (by omega) hps2
  have hb := hFB.pop hp1
  refine ⟨v, ?_⟩
  rw [← hnn]
  refine (pop_w hEj hFB (bAt_lt _ _) hp1).mono ?_
  rintro en u2 ⟨rfl, t', hF⟩
  have hE2 := hEj.setTop hF
  have hg := hEj.topGw hF
  dsimp only at hg hE2
  have hLw : L < wr.heap.size := by
    obtain ⟨g', cap', e, hl, _⟩ := hO.ptr (by omega)
    obtain ⟨rfl, _⟩ : L = g' ∧ True := by simp at e; exact ⟨e.1, trivial⟩
    exact hl
  have hO2 := hO.keep hg.kp (fun k hk => by
    simp [Value.ownBlock] at hk
    rw [← hk]; exact hLa)
  have hLa2 : ¬ ({ N with fs := q0 ++ [(r1, t')] } : EN).all L := fun hk => by
    rcases hg.own _ hk with h5 | h5
    · exact hLa h5
    · omega
  obtain ⟨g', cap', e, hl2, _, _, hcs, hfz⟩ := hO2.ptr (by omega)
  obtain rfl : L = g' := by simp at e; exact e.1
  have hget : (List.replicate (i + 1) (⟨0, 0⟩ : MV) ++ done)[i]? = some ⟨0, 0⟩ := by rw [List.getElem?_append_left (by simp)]; simp
  have hvat := valC_at hget
  refine ⟨rfl, hl2, by omega, hcs _ _ hvat.1, hcs _ _ hvat.2, hfz _, hfz _, ?_⟩
  have hO4 := (hO2.set (g := L) rfl (j := i * 2) (by omega) (.int .u8 (v.t : Int))).set (g := L) rfl (j := i * 2 + 1) (by omega) (.int .u64 (v.b : Int))
  rw [← valC_set (by simp; omega) v] at hO4
  have hlist : (List.replicate (i + 1) (⟨0, 0⟩ : MV) ++ done).set i v = List.replicate i ⟨0, 0⟩ ++ (v :: done) := by
    rw [List.replicate_succ', List.append_assoc, List.set_append_right _ _ (by simp)]
    simp
  rw [hlist] at hO4
  refine ⟨r1, t', v :: done, us2, hp2, by rw [hvs, hus]; simp, by simp; omega, ?_, hb.1, (hE2.scratch hL0 hLa2 ((kp_set1 (P := fun k => k = L) _ _ rfl).trans (kp_set1 (P := fun k => k = L) _ _ rfl))).quiet ((Kp.refl _ _).alloc _), hO4.keep ((Kp.refl (fun _ => False) _).alloc _) (fun k hk h => h), hLa2⟩
  intro u hu
  rcases List.mem_cons.1 hu with rfl | hu
  · exact hb.2
  · exact hdv u hu
/- the pops are done -/
theorem cl198_end {p : ByteArray} {vs : List MV} {r' : MF} {np L : Nat} {wr : World} (HC : Cl198 w0 N0 N q g cap q0 p vs r' np L wr 0) :
    ∃ t', vs.length = np ∧ (∀ v, v ∈ vs → v.t < 256 ∧ v.b < 18446744073709551616) ∧ FB r' ∧ Ew w0 N0 wr { N with fs := q0 ++ [(r', t')] } (q.top r') g cap q0 (r', t') ∧ OR wr 229 2 (.slice (some ⟨L, 0, none⟩) np np) np (valC vs) ∧ ¬ ({ N with fs := q0 ++ [(r', t')] } : EN).all L := by
  obtain ⟨rj, tj, done, us, hps2, hvs, hdl, hdv, hFB, hEj, hO, hLa⟩ := HC.is
  have e : p.extract 0 0 = ByteArray.empty := by apply ByteArray.ext; simp
  rw [e] at hps2
  have e2 : argsV ByteArray.empty = [] := by rfl
  rw [e2, popsM] at hps2
  simp at hps2
  obtain ⟨rfl, rfl⟩ := hps2
  simp at hvs
  subst hvs
  exact ⟨tj, by omega, hdv, hFB, hEj, by simpa using hO, hLa⟩
/- the new frame's locals, half made -/
structure Dl198 (w0 : World) (N0 N : EN) (q : MQ) (g cap : Nat) (q0 : List (MF × FT3)) (x : MF × FT3) (vs : List MV) (D : ByteArray) (np : Nat) (u : World) (va : Value) (j : Nat) : Prop where
  o : OR u 229 2 va (np + j) (valC (vs ++ ((tysB D).map (fun t => (⟨t, 0⟩ : MV))).take j))
  e : Ew w0 N0 u N q g cap q0 x
  f : ∀ k, va.ownBlock = some k → ¬ N.all k ∧ w0.heap.size ≤ k
theorem valC_snoc (l : List MV) (v : MV) : valC (l ++ [v]) = valC l ++ [.int .u8 (v.t : Int), .int .u64 (v.b : Int)] := by
  unfold valC
  simp
theorem Ew.scr (h : Ew w0 N0 w N q g cap q0 x) {P : Nat → Prop} (h0 : ∀ k, P k → ¬ N.all k ∧ w0.heap.size ≤ k) (hk : Kp P w u) : Ew w0 N0 u N q g cap q0 x := by
  refine ⟨h.em.keep hk (fun k hk e => (h0 k e).1 hk), h.fs, h.fr, h.vf, h.xb, h.sb, h.hb, h.mb, h.m, ⟨h.gw.kp.later hk (fun j hj => .inr (h0 j hj).2), h.gw.own⟩⟩
theorem dl198_step {vs : List MV} {D : ByteArray} {np : Nat} {va : Value} {j : Nat} (h : Dl198 w0 N0 N q g cap q0 x vs D np u va j) (hj : j < D.size) (hb : np + j ≤ 1000) :
    ∃ v' w', (Builtin.append_ #[227, 227] 227 #[va, .slice (some ⟨u.heap.size, 0, none⟩) 1 1]).run Tryz.prog (u.alloc (.cells #[.int .u8 (bAt D j : Int), .int .u64 0] 229)) = .ok v' w' ∧ (∃ a n c, v' = .slice a n c) ∧ Hid (Dl198 w0 N0 N q g cap q0 x vs D np w' v' (j + 1)) := by
  obtain ⟨i, z, i1, i2, i3, i4, i5⟩ := i229i
  obtain ⟨v', w', r1, r2, r3, r4⟩ := h.o.push2 u227 i1 i2 i4 (by omega) i3 (by omega) (.int .u8 (bAt D j : Int)) (.int .u64 0) rfl rfl
  refine ⟨v', w', r1, ?_, ?_, h.e.scr h.f r3, fun k hk => ?_⟩
  · obtain ⟨a, c, e⟩ := r2.slice
    exact ⟨a, _, c, e⟩
  · have e : ((tysB D).map (fun t => (⟨t, 0⟩ : MV))).take (j + 1) = ((tysB D).map (fun t => (⟨t, 0⟩ : MV))).take j ++ [⟨bAt D j, 0⟩] := by
      rw [List.take_add_one, List.getElem?_map, tysB_get hj]
      rfl
    rw [e, ← List.append_assoc, valC_snoc, ← Nat.add_assoc]
    exact r2
  · rcases r4 k hk with h5 | h5
    · exact h.f k h5
    · refine ⟨fun h6 => ?_, Nat.le_trans h.e.gw.kp.size h5⟩
      have := h.e.all_lt h6
      omega
set_option maxHeartbeats 16000000 in
theorem call_w (h : Ew w0 N0 w N q g cap q0 x) (hM : ModOk N.m.mod) (hB : FB x.1) (hn : q0.length ≤ 10) (hS : SmOk q.S) (hH : HmOk q.H) (hbd : q.H.bd.length = N.m.mod.imports.length) {f : Nat} (hf : f < 1000) {e : Nat} {q' : MQ} (hr : callM N.m.mod q f = some (e, q')) :
    Calls Tryz.prog 198 #[.pointer (some ⟨N.xb, 0, none⟩), .int .i64 (f : Int)] w (Ez w0 N0 (e : Int) q') := by
  obtain ⟨n, hnn⟩ : ∃ n, q0.length = n := ⟨_, rfl⟩
  have HNN : Hid (q0.length = n) := hnn
  unfold callM at hr
  cases hto : N.m.mod.typeOf (f : Int) with
  | none => rw [hto] at hr; simp at hr
  | some t =>
  rw [hto] at hr
  dsimp only at hr
  rw [h.fr] at hr
  dsimp only at hr
  cases hpp : popsM x.1 (argsV t.p) with
  | none => rw [hpp] at hr; simp at hr
  | some pr =>
  obtain ⟨vs, r'⟩ := pr
  rw [hpp] at hr
  dsimp only at hr
  have hT := typeOf_ok hM hto
  have HT : Hid (∀ U, Mw U N.mb N.m → Calls Tryz.prog 85 #[.pointer (some ⟨N.mb, 0, none⟩), .int .i64 (f : Int)] U (fun en w' => en = .returned (.tuple #[.string t.text, .bool true]) ∧ Kp (fun _ => False) U w')) := fun U hU => by
    have := typeOf_m hU hM (f : Int) (by omega)
    rw [hto] at this
    exact this.mono (fun en w' ⟨h1, k, h2⟩ => ⟨h1, by rw [h2]; exact (Kp.refl _ _).drewM k⟩)
  have HSp := fun u => split_kp t hT.p hT.np hT.nq u
  obtain ⟨np, hnp⟩ : ∃ n, t.p.size = n := ⟨_, rfl⟩
  have hnp4 : np ≤ 4 := hnp ▸ hT.np
  have HNP : Hid (t.p.size = np) := hnp
  have hpp2 : popsM x.1 (argsV (t.p.extract 0 np)) = some (vs, r') := by rw [← hnp, ByteArray.extract_zero_size]; exact hpp
  have HPS : Hid _ := hpp2
  have HW : Hid (Ew w0 N0 w N q g cap q0 x) := h
  have HB : Hid _ := hB
  have HR : Hid _ := hr
  have HTP : Hid (Vals t.p) := hT.p
  have HTT : Hid (TyOk t) := hT
  have HM : Hid (ModOk N.m.mod) := hM
  have HS : Hid _ := hS
  have HH : Hid _ := hH
  have HBD : Hid _ := hbd
  have HTOP : Hid (∀ r, q.top r = { q with fr := r :: (q0.map (·.1)).reverse }) := fun r => by unfold MQ.top; rw [h.fr]; rfl
  have HFR0 : Hid (q.fr = x.1 :: (q0.map (·.1)).reverse) := h.fr
  obtain ⟨ia, icp, hiv⟩ := h.mk_.slIm
  obtain ⟨ni, hni⟩ : ∃ n, N.m.imports.length = n := ⟨_, rfl⟩
  have hni4 : ni ≤ 4 := hni ▸ hM.ni
  rw [hni] at hiv
  have HIV : Hid (N.m.vi = .slice ia ni icp) := hiv
  have HNI : Hid (N.m.mod.imports.length = ni) := hni
  have x0 : w.cell? ⟨N.xb, 0, none⟩ = some (.pointer (some ⟨N.mb, 0, none⟩)) := h.em.c.1
  have hmk := fun U => mk227 U np (by omega)
  have hn10 : n ≤ 10 := by omega
  clear h hr hM hB hto hT hpp hpp2 hnp hiv hni hS hH hbd hnn
  go_enter Tryz.func198, Tryz.ntmps198
  go_wp2_with fail
  refine (HT.out _ HW.out.mk_).mono ?_
  rintro en U1 ⟨rfl, hK1⟩
  go_wp2_with fail
  refine (HSp _).mono ?_
  rintro en U2 ⟨rfl, hK2⟩
  have HE2 : Hid (Ew w0 N0 U2 N q g cap q0 x) := (HW.out.quiet hK1).quiet hK2
  have x3 := (HE2.out.cells HNN.out).x3
  have hmi : ((n + 1 : Nat) : Int) - 1 = (n : Int) := by omega
  clear hK1 hK2 x0
  have hps := HNP.out
  go_wp2_with fail
  go_quiet (fail)
  go_wp2_with fail
  clear hmk x3
  obtain ⟨L, hL⟩ : ∃ L, U2.heap.size = L := ⟨_, rfl⟩
  have HL0 : Hid (w0.heap.size ≤ L) := by show _ ≤ _; rw [← hL]; exact HE2.out.gw.kp.size
  have HLN : Hid (¬ N.all L) := fun hk => by have := HE2.out.all_lt hk; omega
  have HC0 : Hid (∀ k, Cl198 w0 N0 N q g cap q0 t.p vs r' np L ((U2.drewN k).alloc (.cells (madeCells #[.int .u8 0, .int .u64 0] (np * 2)) 229)) np) := fun k => by
    have hE := (HE2.out.quiet (((Kp.refl _ _).drewM k).alloc (.cells (madeCells #[.int .u8 0, .int .u64 0] (np * 2)) 229))).same
    have hO := OR.made (U2.drewN k) 229 2 np (madeCells #[.int .u8 0, .int .u64 0] (np * 2)) (by simp only [maxLen]; omega) (size_madeCells _ _)
    rw [made229 hnp4, show (U2.drewN k).heap.size = L from hL] at hO
    refine ⟨x.1, x.2, [], vs, HPS.out, by simp, by simp, (fun v hv => absurd hv (by simp)), HB.out, hE, by simpa using hO, fun hk => HLN.out ?_⟩
    have e2 : ({ N with fs := q0 ++ [(x.1, x.2)] } : EN) = N := by
      have := HE2.out.fs
      cases N
      dsimp only at this ⊢
      rw [this]
    rw [e2] at hk
    exact hk
  rw [hL]
  have HLE : Hid _ := hL
  clear hL
  go_loopw [11] (fun ii u1 => ∃ (j : Nat) (jj : Int), j ≤ np ∧ jj = (j : Int) - 1 ∧ ii = .int .i64 jj ∧ Hid (Cl198 w0 N0 N q g cap q0 t.p vs r' np L u1 j)) (fun ii _ => (intOf ii + 1).toNat)
  case atStart => exact ⟨np, _, Nat.le_refl _, rfl, by first | rfl | go_num, HC0.out _⟩
  case round =>
    obtain ⟨j, jj, hj, hjj, rfl, HC⟩ := hrel
    by_cases hj0 : j = 0
    · subst hj0
      obtain rfl : jj = -1 := by omega
      obtain ⟨t', hvl, hvb, hFB, hE, hO, hLa⟩ := cl198_end HC.out
      have HE : Hid _ := hE
      have HO : Hid _ := hO
      have HLa : Hid _ := hLa
      have HVB : Hid _ := hvb
      have HVL : Hid _ := hvl
      have HFB : Hid _ := hFB
      obtain ⟨x0, x1, x2, x3, x4, y3, y4, f0, f1, f2, f3, f4, fz, ap, fcp⟩ := hE.cells HNN.out
      dsimp only at x0
      dsimp only at x3
      have m1 := hE.mk_.c1
      dsimp only at m1
      rw [HIV.out] at m1
      clear x1 x2 x4 y3 y4 f0 f1 f2 f3 f4 fz ap fcp hE hO hLa hvb hvl hFB HC HC0 hjj hj
      by_cases hfn : f < ni
      · have HR2 : Hid _ := HR.out
        have hr2 := HR.out
        rw [if_pos (show f < N.m.mod.imports.length by rw [HNI.out]; exact hfn)] at hr2
        have HHW := host_w HE.out (by rw [HNN.out]; exact hn10) HS.out HH.out (k := f) (by show f < q.H.bd.length; rw [HBD.out, HNI.out]; exact hfn) (vs := vs) (va := .slice (some ⟨L, 0, none⟩) np np) (by rw [HVL.out]; exact HO.out) (fun j hj => by simp [Value.ownBlock] at hj; rw [← hj]; exact HLa.out) (fun v hv => (HVB.out v hv).2) (by rw [HVL.out]; exact hnp4) HTT.out (e := e) (q' := q') (by rw [HTOP.out]; exact hr2)
        dsimp only at HHW
        have hfi : (f : Int) < (ni : Int) := by omega
        clear hr2 HR2 hfn
        go_wp2_with fail
        refine HHW.mono ?_
        rintro en u9 ⟨rfl, HZ⟩
        go_wp2
        go_ret
        exact ⟨rfl, HZ⟩
      · have hr2 := HR.out
        rw [if_neg (show ¬ f < N.m.mod.imports.length by rw [HNI.out]; exact hfn)] at hr2
        have hlen : (x.1 :: (q0.map (·.1)).reverse).length = n + 1 := by simp; exact HNN.out
        rw [hlen] at hr2
        have hfi : ¬ (f : Int) < (ni : Int) := by omega
        by_cases h6 : 6 < n + 1
        · rw [if_pos h6] at hr2
          simp at hr2
          obtain ⟨rfl, rfl⟩ := hr2
          have h6b : (6 : Int) < (n : Int) + 1 := by omega
          clear hfn h6
          go_wp2
          go_ret
          have hen := HE.out.end_
          rw [HTOP.out] at hen
          exact ⟨rfl, _, hen⟩
        · rw [if_neg h6] at hr2
          have h6b : ¬ (6 : Int) < (n : Int) + 1 := by omega
          cases hfu : N.m.mod.funcs[f - N.m.mod.imports.length]? with
          | none => rw [hfu] at hr2; simp at hr2
          | some fn =>
          rw [hfu] at hr2
          simp at hr2
          obtain ⟨rfl, hq'⟩ := hr2
          rw [HNI.out] at hfu hq'
          have HQ : Hid _ := hq'
          obtain ⟨kf, hkf⟩ : ∃ kf, f - ni = kf := ⟨_, rfl⟩
          rw [hkf] at hfu
          have HKF : Hid (f - ni = kf) := hkf
          have hfk : (f : Int) - (ni : Int) = (kf : Int) := by omega
          obtain ⟨xx, hx, rfl⟩ : ∃ x, N.m.fs[kf]? = some x ∧ x.1 = fn := by
            unfold MT.mod at hfu
            dsimp only at hfu
            rw [List.getElem?_map] at hfu
            cases hxx : N.m.fs[kf]? with
            | none => rw [hxx] at hfu; simp at hfu
            | some x => rw [hxx] at hfu; simp at hfu; exact ⟨x, rfl, hfu⟩
          have hfo := HM.out.funcs _ (List.mem_of_getElem? hfu)
          obtain ⟨fg, fcap, fv, f1, f2, f3, fc⟩ := HE.out.mk_.atFn hx
          obtain ⟨nf, hnf⟩ : ∃ n, N.m.fs.length = n := ⟨_, rfl⟩
          have hkn : kf < nf := by rw [← hnf]; exact (List.getElem?_eq_some_iff.1 hx).1
          have m2 := HE.out.mk_.c2
          dsimp only at m2 fv f2
          rw [fv, hnf] at m2
          have z1 := fc 1 (.string xx.1.locals) rfl
          obtain ⟨D, hD⟩ : ∃ D, xx.1.locals = D := ⟨_, rfl⟩
          rw [hD] at z1
          have HD : Hid _ := hD
          have hD6 : D.size ≤ 6 := by rw [← hD]; exact hfo.nl
          obtain ⟨nd, hnd⟩ : ∃ n, D.size = n := ⟨_, rfl⟩
          have hnd6 : nd ≤ 6 := hnd ▸ hD6
          have hki : (kf : Int) < (nf : Int) := by omega
          have hfc2 : nf ≤ fcap := by rw [← hnf]; exact f2
          have HDL : Hid (Dl198 w0 N0 { N with fs := q0 ++ [(r', t')] } (q.top r') g cap q0 (r', t') vs D np wr (.slice (some ⟨L, 0, none⟩) np np) 0) := ⟨by rw [List.take_zero, List.append_nil]; exact HO.out, HE.out, fun k hk => by simp [Value.ownBlock] at hk; rw [← hk]; exact ⟨HLa.out, HL0.out⟩⟩
          clear hq' hkf hfu hx hfo fc fv f2 hnf hD hD6 h6 hfn f1 f3 hlen
          have hmi2 : True := trivial
          go_wp2_with fail
          clear m1 m2 x0 x3 z1
          go_loopw [10, 16] (fun va jj u1 => ∃ (j : Nat) (ta : Option Addr) (tn tc : Nat), j ≤ nd ∧ jj = .int .i64 j ∧ va = .slice ta tn tc ∧ Hid (Dl198 w0 N0 { N with fs := q0 ++ [(r', t')] } (q.top r') g cap q0 (r', t') vs D np u1 va j)) (fun va jj _ => nd + 1 - (intOf jj).toNat)
          case atStart => exact ⟨0, _, _, _, by omega, rfl, rfl, HDL.out⟩
          case round =>
            clear HDL
            obtain ⟨j, ta, tn, tc, hj, rfl, rfl, HDL⟩ := hrel
            by_cases hlt : j < nd
            · obtain ⟨v', w', r1, ⟨va, vn, vc, hv'⟩, HD2⟩ := dl198_step HDL.out (by rw [hnd]; exact hlt) (by omega)
              have hip : j < D.size := by rw [hnd]; exact hlt
              have hbg : ((D[j].toNat : Nat) : Int) = (bAt D j : Int) := by rw [bAt_get _ _ hip]
              have hji : (j : Int) < (nd : Int) := by omega
              subst hv'
              go_wp2_with (at_builtin; refine wpList_app rfl _ _ 227 rfl r1 ?_)
              exact ⟨⟨j + 1, _, _, _, by omega, by first | rfl | go_num, rfl, HD2⟩, by simp only [intOf]; omega⟩
            · obtain rfl : j = nd := by omega
              have hloc : (vs ++ ((tysB D).map (fun t => (⟨t, 0⟩ : MV)))).length = np + j := by
                rw [List.length_append, List.length_map, tysB_len, hnd, HVL.out]
              have hor : OR wr 229 2 (.slice ta tn tc) (⟨(kf : Int), 0, vs ++ ((tysB D).map (fun t => (⟨t, 0⟩ : MV))), [], []⟩ : MF).loc.length (valC (⟨(kf : Int), 0, vs ++ ((tysB D).map (fun t => (⟨t, 0⟩ : MV))), [], []⟩ : MF).loc) := by
                have := HDL.out.o
                rw [List.take_of_length_le (by rw [List.length_map, tysB_len, hnd]; exact Nat.le_refl _)] at this
                dsimp only
                rw [hloc]
                exact this
              obtain ⟨v', w', g', cap', r1, rfl, ⟨c3, z3⟩, hE3⟩ := HDL.out.e.pushF (by rw [HNN.out]; omega) (r := ⟨(kf : Int), 0, vs ++ ((tysB D).map (fun t => (⟨t, 0⟩ : MV))), [], []⟩) hor rfl rfl HDL.out.f
              have HE3 : Hid _ := hE3
              obtain ⟨x0, x1, x2, x3, x4, y3, y4, f0, f1, f2, f3, f4, fz, ap, fcp⟩ := HDL.out.e.cells HNN.out
              dsimp only at x3 c3 z3 r1
              rw [HNN.out] at r1 c3
              clear x0 x1 x2 x4 y3 y4 f0 f1 f2 f3 f4 fz ap fcp hE3 hor hloc
              go_wp2_with (at_builtin; refine wpList_app rfl _ _ 143 rfl r1 ?_)
              go_ret
              have hen := HE3.out.end_
              rw [HNN.out, HTOP.out] at hen
              have hq := HQ.out
              rw [HKF.out, HD.out] at hq
              dsimp only at hen
              rw [hq] at hen
              exact ⟨rfl, _, hen⟩
    · obtain ⟨i, rfl⟩ : ∃ i, j = i + 1 := ⟨j - 1, by omega⟩
      obtain rfl : jj = (i : Int) := by omega
      obtain ⟨v, HP⟩ := cl198_step HNN.out HC.out hj HNP.out HL0.out
      have hip : i < t.p.size := by rw [HNP.out]; omega
      have hbg : ((t.p[i].toNat : Nat) : Int) = (bAt t.p i : Int) := by rw [bAt_get _ _ hip]
      have hi4 : i ≤ 4 := by omega
      clear HC HC0 hjj hj0
      go_wp2_with fail
      refine HP.mono ?_
      rintro en u2 ⟨rfl, l1, l2, c0, c1, z0, z1, HC2⟩
      go_wp2_with fail
      exact ⟨⟨i, _, by omega, rfl, rfl, HC2⟩, by simp only [intOf]; omega⟩
end
end Go.Proofs.Qxb6500275aGreatDoor
