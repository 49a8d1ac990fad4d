import Derived.Test.Qxb6500275aGreatDoorXmb
set_option linter.unusedVariables false
set_option linter.unusedSimpArgs false
set_option maxRecDepth 100000
namespace Go.Proofs.Qxb6500275aGreatDoor
open Go Go.RowKit
theorem argsV_rev (p : ByteArray) : argsV p = (tysB p).reverse := by unfold argsV tysB; rw [List.map_reverse]
theorem popsM_app : ∀ (n : Nat) (vs : List MV) {r : MF} {l0 : List MV}, vs.length = n → r.ops = l0 ++ vs → r.floor ≤ l0.length → popsM r (vs.map MV.t).reverse = some (vs, { r with ops := l0 })
  | 0, vs, r, l0, hn, h, hf => by
    have : vs = [] := List.length_eq_zero_iff.1 hn
    subst this
    rw [List.append_nil] at h
    simp [popsM]
    rw [← h]
  | n + 1, vs, r, l0, hn, h, hf => by
    rcases List.eq_nil_or_concat vs with e | ⟨vs', v, e⟩
    · subst e; simp at hn
    · rw [List.concat_eq_append] at e
      subst e
      simp at hn
      rw [← List.append_assoc] at h
      rw [ty_rev_app, popsM, popM_snoc h (by simp; omega) (.inr rfl)]
      dsimp only
      rw [popsM_app n vs' (r := { r with ops := l0 ++ vs' }) hn rfl hf]
theorem pops_ty : ∀ (ts : List Nat) {v : VS} {f : VF} {rr : List VF}, v.ctl = f :: rr → f.floor ≤ v.ops.length → f.dead = false → (∀ x, x ∈ ts → isVal x) → (popsV v ts).2 = true → (∀ x, x ∈ v.ops → x ≠ 0) → ∃ rest, v.ops = ts ++ rest ∧ (popsV v ts).1 = ⟨rest, v.ctl⟩ ∧ f.floor ≤ rest.length
  | [], v, f, rr, hc, hf, hd, hv, h, hz => ⟨v.ops, rfl, rfl, hf⟩
  | t :: ts, v, f, rr, hc, hf, hd, hv, h, hz => by
    rw [popsV] at h ⊢
    by_cases e : (popV v t).2.2 = true
    · rw [if_pos e] at h ⊢
      obtain ⟨a, rest, h1, h2, h3, h4, _⟩ := pop_ty hc hf hd e hz
      have hvt := hv t (by simp)
      have ha : a = t := by
        rcases h3 with h3 | h3
        · unfold isVal at hvt; omega
        · exact h3
      subst ha
      rw [h2] at h ⊢
      obtain ⟨rest2, k1, k2, k3⟩ := pops_ty ts (v := ⟨rest, v.ctl⟩) hc h4 hd (fun x hx => hv x (by simp [hx])) h (fun x hx => hz x (by rw [h1]; simp [hx]))
      dsimp only at k1
      exact ⟨rest2, by rw [h1, k1]; rfl, k2, k3⟩
    · rw [if_neg e] at h
      simp at h
theorem vals_tys {b : ByteArray} (h : Vals b) : ∀ x, x ∈ tysB b → isVal x := fun x hx => by
  obtain ⟨i, hi, rfl⟩ := List.getElem_of_mem hx
  have hi2 : i < b.size := by rw [tysB_len] at hi; exact hi
  have := tysB_get hi2
  rw [List.getElem?_eq_getElem hi] at this
  simp at this
  rw [this]
  exact h i hi2
/- what the host answers -/
theorem callH_val {H : Hm} (hH : HmOk H) {k want pages : Nat} {args : List Nat} (hp : pages ≤ 6) : (callH H k args want pages).1 < 18446744073709551616 ∧ (want = 127 → (callH H k args want pages).1 < 4294967296) := by
  have hc : ∀ v : Nat, v < 18446744073709551616 → (cutB want (v : Int)).toNat < 18446744073709551616 ∧ (want = 127 → (cutB want (v : Int)).toNat < 4294967296) := fun v hv => by
    have := cutB_r (t := want) (v := (v : Int)) (by omega)
    refine ⟨by omega, fun e => ?_⟩
    unfold cutB
    rw [if_pos (.inl e)]
    omega
  unfold callH
  split
  · exact ⟨by simp, fun _ => by simp⟩
  · unfold fnH
    split
    · split
      · exact ⟨by simp, fun _ => by simp⟩
      · unfold takeH
        show _ ∧ _
        cases htp : (tracedH H k args).tp with
        | nil => simp
        | cons v r =>
          have hv : v < 18446744073709551616 := hH.tp.2 v (by
            have e : (tracedH H k args).tp = H.tp := rfl
            rw [e] at htp
            rw [htp]
            simp)
          dsimp only
          exact hc v hv
    · split
      · exact ⟨by simp, fun _ => by simp⟩
      · split
        · split
          · exact ⟨by simp, fun _ => by simp⟩
          · exact hc pages (by omega)
        · exact ⟨by simp, fun _ => by simp⟩
theorem resT_z {t : Ty} (hT : TyOk t) : (resT t = 0 ↔ t.q.size = 0) ∧ (resT t ≠ 0 → isVal (resT t) ∧ resL t = [resT t]) ∧ (resT t = 0 → resL t = []) := by
  unfold resT resL
  by_cases h : t.q.size = 0
  · rw [if_pos h, if_pos h]; simp [h]
  · rw [if_neg h, if_neg h]
    have hv := hT.q 0 (by have := hT.nq; omega)
    have h0 : bAt t.q 0 ≠ 0 := by unfold isVal at hv; omega
    exact ⟨⟨fun e => absurd e h0, fun e => absurd e h⟩, fun _ => ⟨hv, rfl⟩, fun e => absurd e h0⟩
/- every function of the module -/
def AllF (C : XC) : Prop := ∀ k, k < C.M.funcs.length → ∃ fn t cells, Fz C k fn t cells
section
variable {C : XC} {t0 : Ty} {q : MQ} {p : Nat × Xs} {r : MF} {rest : List MF} {k : Nat} {fn : Fn} {t : Ty} {cells : List Ins} {below : List Nat} {aw : List Nat}
theorem Stk_cons {x : Fr} {xs : List Fr} {ws : List Nat} (h : ∃ k fn t' cells ws', Fz C k fn t' cells ∧ FrAt C.M fn t' r k (resL t) ∧ x.fn = k ∧ x.pc = posF C.M fn t' r.pc ∧ x.base = ws'.length ∧ ws = ws' ++ bitsM r.loc ++ bitsM r.ops ∧ Stk C t0 rest xs ws' t') : Stk C t0 (r :: rest) (x :: xs) ws t := by
  cases rest with
  | nil => exact h
  | cons a b => exact h
theorem zeros_bits (b : ByteArray) : bitsM ((tysB b).map (fun t => (⟨t, 0⟩ : MV))) = List.replicate b.size 0 := by
  unfold bitsM
  rw [List.map_map]
  have : (MV.b ∘ fun t => (⟨t, 0⟩ : MV)) = fun _ => 0 := rfl
  rw [this, List.map_const', tysB_len]
/- A FUNCTION BEGINS: cur: the real's frames, the caller's first; the caller waits -/
theorem own_both {f n : Nat} {tf : Ty} {vs : List MV} {q1 : MQ} {cur : List Fr} {S : Sm} {H : Hm} {A : List Nat} {rest' : List MF} (hA : AllF C) (hM : ModOk C.M) (hty : C.M.typeOf (f : Int) = some tf) (hnf : ¬ f < C.M.imports.length) (hvt : vs.map MV.t = tysB tf.p) (hvok : ∀ v, v ∈ vs → VOk v)
    (hstk : Stk C t0 rest' cur A tf) (hn : q1.fuel = n) (hS : q1.S = S) (hH : q1.H = H) (hgl : GlOk C.M q1.S) :
    ∃ fn', C.M.funcs[f - C.M.imports.length]? = some fn' ∧ Post C t0 n (if 6 ≤ cur.length then .error ⟨45, [], S, H⟩ else match C.fs[f - C.M.imports.length]? with | none => .error ⟨0, [], S, H⟩ | some ff => .ok ⟨(A ++ bitsM vs) ++ List.replicate (ff.locals - ff.params) 0, cur, f - C.M.imports.length, 0, (A ++ bitsM vs).length - ff.params, S, H⟩)
      (if 6 < rest'.length then (45, { q1 with fr := rest' }) else (0, { q1 with fr := ⟨((f - C.M.imports.length : Nat) : Int), 0, vs ++ (tysB fn'.locals).map (fun t => ⟨t, 0⟩), [], []⟩ :: rest' })) := by
  obtain ⟨hr1, hr2⟩ := typeOf_range hty
  obtain ⟨fn', t', cells', hz⟩ := hA (f - C.M.imports.length) (by omega)
  have htt : t' = tf := by
    have := hz.ty
    rw [show C.M.imports.length + (f - C.M.imports.length) = f by omega, hty] at this
    simpa using this.symm
  subst htt
  refine ⟨fn', hz.fnE, ?_⟩
  have hlen := hstk.ne.2
  by_cases hd : 6 ≤ cur.length
  · rw [if_pos hd, if_pos (by omega)]
    exact ⟨rfl, hn, hS, hH, hgl, fun e => by simp at e⟩
  · rw [if_neg hd, if_neg (by omega), hz.ff]
    dsimp only
    have hvl : vs.length = t'.p.size := by
      have := congrArg List.length hvt
      rw [tysB_len] at this
      simpa using this
    refine ⟨rfl, ⟨((f - C.M.imports.length : Nat) : Int), 0, vs ++ (tysB fn'.locals).map (fun t => ⟨t, 0⟩), [], []⟩, rest', f - C.M.imports.length, fn', t', cells', A, hz, ⟨rfl, hz.tw.hF.nb.1, fun x hx => ?_, rfl, rfl, ?_, fun v hv => ?_⟩, rfl, hn, hS, hH, rfl, rfl, ?_, ?_, hstk, hgl⟩
    · simp [vsAt] at hx
      subst hx
      rfl
    · dsimp only
      rw [List.map_append, hvt, List.map_map]
      congr 1
      have : (MV.t ∘ fun t => (⟨t, 0⟩ : MV)) = id := rfl
      rw [this, List.map_id]
    · rcases hv with hv | hv
      · rcases List.mem_append.1 hv with hv | hv
        · exact hvok v hv
        · obtain ⟨ty, h1, rfl⟩ := List.mem_map.1 hv
          exact ⟨vals_tys hz.tw.hF.locals ty h1, by dsimp only; omega, fun _ => by dsimp only; omega⟩
      · simp at hv
    · dsimp only
      rw [bitsM_app, zeros_bits, Nat.add_sub_cancel_left]
      simp [bitsM]
    · dsimp only
      rw [List.length_append, bitsM_len, hvl, Nat.add_sub_cancel]
theorem call_both {f n : Nat} {tf : Ty} {vs l0 : List MV} {r1 : MF} {q1 : MQ} {s1 : Xs} (hA : AllF C) (hM : ModOk C.M) (hz : Fz C k fn t cells) (hty : C.M.typeOf (f : Int) = some tf) (hq : q1.fr = r1 :: rest) (hops : r1.ops = l0 ++ vs) (hvt : vs.map MV.t = tysB tf.p) (hvok : ∀ v, v ∈ vs → VOk v) (hfl : r1.floor ≤ l0.length)
    (hat : FrAt C.M fn t { r1 with ops := l0 } k (resL tf)) (hws : s1.ws = below ++ bitsM r1.loc ++ bitsM l0 ++ bitsM vs) (hbase : s1.base = below.length) (hfn : s1.fn = k) (hpc : s1.pc = posF C.M fn t r1.pc) (hstk : Stk C t0 rest s1.fr below t) (hS : q1.S = s1.S) (hH : q1.H = s1.H) (hn : q1.fuel = n) (hgl : GlOk C.M q1.S) (hE : Env C s1.ws s1.S s1.H) :
    ∃ m, callM C.M q1 f = some m ∧ Post C t0 n (enterX C s1.ws (s1.cur :: s1.fr) f s1.S s1.H) m := by
  have hT := typeOf_ok hM hty
  have hvl : vs.length = tf.p.size := by
    have := congrArg List.length hvt
    rw [tysB_len] at this
    simpa using this
  have hpops : popsM r1 (argsV tf.p) = some (vs, { r1 with ops := l0 }) := by
    rw [argsV_rev, ← hvt]
    exact popsM_app _ vs rfl hops hfl
  have hdrop : s1.ws.drop (s1.ws.length - tf.p.size) = bitsM vs := by
    rw [hws]
    have e : (below ++ bitsM r1.loc ++ bitsM l0 ++ bitsM vs).length - tf.p.size = (below ++ bitsM r1.loc ++ bitsM l0).length := by
      rw [List.length_append (bs := bitsM vs), bitsM_len vs, hvl, Nat.add_sub_cancel]
    rw [e, List.drop_left]
  have htake : s1.ws.take (s1.ws.length - tf.p.size) = below ++ bitsM r1.loc ++ bitsM l0 := by
    rw [hws]
    have e : (below ++ bitsM r1.loc ++ bitsM l0 ++ bitsM vs).length - tf.p.size = (below ++ bitsM r1.loc ++ bitsM l0).length := by
      rw [List.length_append (bs := bitsM vs), bitsM_len vs, hvl, Nat.add_sub_cancel]
    rw [e, List.take_left]
  obtain ⟨z1, z2, z3⟩ := resT_z hT
  unfold callM
  rw [hty]
  dsimp only
  rw [hq]
  dsimp only
  rw [hpops]
  dsimp only
  unfold enterX
  by_cases hni : f < C.M.imports.length
  · rw [if_pos hni, if_pos hni, hty]
    dsimp only
    rw [hdrop, htake, hS, hH]
    have hm := hE.sm.m
    have hcv := callH_val (H := s1.H) hE.hm (k := f) (want := resT tf) (pages := s1.S.bs.length / 64) (args := bitsM vs) (by omega)
    have ebm : vs.map MV.b = bitsM vs := rfl
    rw [ebm]
    generalize callH s1.H f (bitsM vs) (resT tf) (s1.S.bs.length / 64) = R at hcv
    rw [hS] at hgl
    by_cases he : R.2.1 ≠ 0
    · rw [if_pos he, if_pos he]
      exact ⟨_, rfl, rfl, hn, rfl, rfl, hgl, fun e => absurd e he⟩
    · rw [if_neg he, if_neg he]
      by_cases hr0 : resT tf = 0
      · rw [if_pos hr0, if_pos hr0]
        rw [z3 hr0] at hat
        refine ⟨_, rfl, rfl, { r1 with ops := l0 }, rest, k, fn, t, cells, below, hz, hat, rfl, hn, rfl, rfl, hfn, hpc, ?_, hbase, hstk, hgl⟩
        dsimp only
        rw [List.append_nil]
      · rw [if_neg hr0, if_neg hr0]
        obtain ⟨y1, y2⟩ := z2 hr0
        rw [y2] at hat
        obtain ⟨u1, u2⟩ := hat.push (v := ⟨resT tf, R.1⟩) hz rfl ⟨y1, hcv.1, hcv.2⟩
        rw [u1]
        refine ⟨_, rfl, rfl, { r1 with ops := l0 ++ [⟨resT tf, R.1⟩] }, rest, k, fn, t, cells, below, hz, u2, rfl, hn, rfl, rfl, hfn, hpc, ?_, hbase, hstk, hgl⟩
        dsimp only
        rw [bits_snoc]
  · rw [if_neg hni, if_neg hni]
    obtain ⟨fn', h1, h2⟩ := own_both (f := f) (n := n) (q1 := q1) (cur := s1.cur :: s1.fr) (S := s1.S) (H := s1.H) (A := below ++ bitsM r1.loc ++ bitsM l0) (rest' := { r1 with ops := l0 } :: rest) hA hM hty hni hvt hvok (Stk_cons ⟨k, fn, t, cells, below, hz, hat, hfn, hpc, hbase, rfl, hstk⟩) hn hS hH hgl
    rw [h1]
    dsimp only
    rw [← hws] at h2
    by_cases hd : 6 < (r1 :: rest).length
    · rw [if_pos hd]
      rw [if_pos (show 6 < ({ r1 with ops := l0 } :: rest).length by simpa using hd)] at h2
      exact ⟨_, rfl, h2⟩
    · rw [if_neg hd]
      rw [if_neg (show ¬ 6 < ({ r1 with ops := l0 } :: rest).length by simpa using hd)] at h2
      exact ⟨_, rfl, h2⟩
end
end Go.Proofs.Qxb6500275aGreatDoor
