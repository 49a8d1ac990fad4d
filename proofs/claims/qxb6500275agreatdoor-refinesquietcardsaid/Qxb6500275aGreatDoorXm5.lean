import Derived.Test.Qxb6500275aGreatDoorXm4
set_option linter.unusedVariables false
set_option linter.unusedSimpArgs false
set_option maxRecDepth 100000
namespace Go.Proofs.Qxb6500275aGreatDoor
open Go Go.RowKit
theorem popM_two {r : MF} {l0 : List MV} {u v : MV} {w1 w2 : Nat} (h : r.ops = l0 ++ [u] ++ [v]) (hf : r.floor ≤ l0.length) (h1 : w1 = 0 ∨ v.t = w1) (h2 : w2 = 0 ∨ u.t = w2) : popM r w1 = some (v, { r with ops := l0 ++ [u] }) ∧ popM { r with ops := l0 ++ [u] } w2 = some (u, { r with ops := l0 }) :=
  ⟨popM_snoc h (by simp; omega) h1, popM_snoc (r := { r with ops := l0 ++ [u] }) rfl hf h2⟩
theorem carry_f {v : VS} {w : Nat} (h : ¬ (carryV v w).2 = true) : typedV (carryV v w).2 ≠ 0 := by
  cases hb : (carryV v w).2
  · unfold typedV; simp
  · exact absurd hb h
section
variable {C : XC} {t0 : Ty} {q : MQ} {p : Nat × Xs} {r : MF} {rest : List MF} {k : Nat} {fn : Fn} {t : Ty} {cells : List Ins} {below : List Nat} {aw : List Nat}
/- a value is laid on what was left -/
theorem ok_push {l0 : List MV} {v : MV} (hal : ∀ u, u ∈ r.loc ∨ u ∈ l0 → VOk u) (hv : VOk v) : ∀ u, u ∈ r.loc ∨ u ∈ l0 ++ [v] → VOk u := fun u hu => by
  rcases hu with hu | hu
  · exact hal u (.inl hu)
  · rcases List.mem_append.1 hu with hu | hu
    · exact hal u (.inr hu)
    · simp at hu; subst hu; exact hv
theorem bits_snoc (A : List Nat) (l0 : List MV) (v : MV) : A ++ bitsM (l0 ++ [v]) = A ++ bitsM l0 ++ [v.b] := by rw [bitsM_app, ← List.append_assoc]; rfl
set_option maxHeartbeats 1000000 in
theorem RelX.sel (h : RelX C t0 q p r rest k fn t cells below) (ho : (opAt fn r.pc).op = 27) : Sim1 C t0 q p := by
  obtain ⟨f, rr, hc, hf, hdd, hfl, hz, hops⟩ := h.vst
  have hst := h.stepv (by omega)
  have hpl : plainV C.M t.p fn.locals (vsAt C.M fn t r.pc) (opAt fn r.pc) = selV (vsAt C.M fn t r.pc) := by unfold plainV; rw [if_neg (show ¬ ((opAt fn r.pc).op = 16 ∨ (opAt fn r.pc).op = 17) by omega), if_neg (show ¬ ((opAt fn r.pc).op = 26) by omega), if_pos (show (opAt fn r.pc).op = 27 by omega)]
  rw [hpl] at hst
  unfold selV at hst
  by_cases c1 : ¬ ((carryV (vsAt C.M fn t r.pc) 127).2 = true)
  · rw [if_neg c1] at hst; have := (give_ty hst).1; simp at this
  replace c1 := Classical.not_not.1 c1
  rw [if_pos c1] at hst
  obtain ⟨rs, e1, e2, e4⟩ := carry_ty hc hf hdd (by unfold isVal; omega) c1 hz
  rw [e2] at hst
  by_cases c2 : ¬ ((popV ⟨rs, (vsAt C.M fn t r.pc).ctl⟩ 0).2.2 = true)
  · rw [if_neg c2] at hst; have := (give_ty hst).1; simp at this
  replace c2 := Classical.not_not.1 c2
  rw [if_pos c2] at hst
  have hz1 : ∀ x, x ∈ rs → x ≠ 0 := fun x hx => hz x (by rw [e1]; exact List.mem_cons_of_mem _ hx)
  obtain ⟨b, rs2, d1, d2, _, d4, d5⟩ := pop_ty (v := ⟨rs, (vsAt C.M fn t r.pc).ctl⟩) hc e4 hdd c2 hz1
  dsimp only at d1
  rw [d2, d5] at hst
  obtain ⟨g0, g1, g2, g3⟩ := give_ty hst
  dsimp only at g0 g1 g2 g3
  have hz2 : ∀ x, x ∈ rs2 → x ≠ 0 := fun x hx => hz1 x (by rw [d1]; exact List.mem_cons_of_mem _ hx)
  have hb0 : b ≠ 0 := hz1 b (by rw [d1]; simp)
  obtain ⟨a, rs3, f1, f2, f3, f4, f5⟩ := pop_ty (v := ⟨rs2, (vsAt C.M fn t r.pc).ctl⟩) hc d4 hdd (typedV0 g0) hz2
  dsimp only at f1
  have hab : a = b := by rcases f3 with f3 | f3; exact absurd f3 hb0; exact f3
  subst hab
  rw [f2, f5] at g2 g3
  rw [f2] at g1
  dsimp only at g1 g2 g3
  rw [d1, f1] at e1
  obtain ⟨l1, uv, v, hl, hv, hu, hr, hrl, hvok, huok, hal, hw⟩ := h.top2 e1
  obtain ⟨l0, av, hl2, ha, hr2⟩ := snoc_of hr.symm
  subst hl2
  have haok : VOk av := hal av (.inr (by simp))
  have hal0 : ∀ u, u ∈ r.loc ∨ u ∈ l0 → VOk u := fun u hu => hal u (by rcases hu with hu | hu; exact .inl hu; exact .inr (List.mem_append_left _ hu))
  have hlen0 : rs3.length = l0.length := by rw [hr2]; simp
  have hfr : r.floor ≤ l0.length := by rw [hfl, ← hlen0]; exact f4
  obtain ⟨hp1, hp2⟩ := popM_two (r := { r with pc := r.pc + 1 }) (w1 := 127) (w2 := 0) hl (by show r.floor ≤ _; simp; omega) (.inr hv) (.inl rfl)
  have hp3 : popM { r with pc := r.pc + 1, ops := l0 ++ [av] } uv.t = some (av, { r with pc := r.pc + 1, ops := l0 }) := popM_snoc rfl hfr (.inr (by rw [ha, hu]))
  have hta : isVal a := by rw [← ha]; exact haok.ty
  have hlt : l0.length < 10 := by have := g3 (isVal_ne hta); omega
  have hvv : VOk (if v.b = 0 then uv else av) := by split; exact huok; exact haok
  have hvt : (if v.b = 0 then uv else av).t = a := by split; exact hu; exact ha
  refine h.plain (by omega) (fun n hn => ⟨(0, ⟨{ r with pc := r.pc + 1, ops := l0 ++ [if v.b = 0 then uv else av] } :: rest, n, p.2.S, p.2.H⟩), by unfold deedM; dsimp only; rw [if_neg (show ¬ ((opAt fn r.pc).op = 0) by omega), if_neg (show ¬ ((opAt fn r.pc).op = 1) by omega), if_neg (show ¬ ((opAt fn r.pc).op = 4) by omega), if_neg (show ¬ ((opAt fn r.pc).op = 12) by omega), if_neg (show ¬ ((opAt fn r.pc).op = 13) by omega), if_neg (show ¬ ((opAt fn r.pc).op = 14) by omega), if_neg (show ¬ ((opAt fn r.pc).op = 15) by omega), if_neg (show ¬ ((opAt fn r.pc).op = 16) by omega), if_neg (show ¬ ((opAt fn r.pc).op = 17) by omega), if_neg (show ¬ ((opAt fn r.pc).op = 26) by omega), if_pos (show (opAt fn r.pc).op = 27 by omega)]; rw [hp1]; dsimp only; rw [hp2]; dsimp only; rw [hp3]; dsimp only; rw [pushM_ok (by exact hlt)]; rfl, ?_⟩)
  refine h.goes (loc' := r.loc) (ops' := l0 ++ [if v.b = 0 then uv else av]) (by omega) rfl ?_ g1 (by rw [ty_rev_app, g2, if_neg (isVal_ne hta), hvt, hr2]; rfl) rfl (ok_push hal0 hvv) h.gl2
  have hw3 := ws3 (s := { p.2 with pc := p.2.pc + 1 }) (L := below ++ bitsM r.loc ++ bitsM l0) (a := av.b) (b := uv.b) (c := v.b) (by show p.2.ws = _; rw [hw, bitsM_app]; simp [bitsM])
  unfold coreX; rw [if_neg (show ¬ ((opAt fn r.pc).op = 0) by omega), if_neg (show ¬ ((opAt fn r.pc).op = 1) by omega), if_neg (show ¬ ((opAt fn r.pc).op = 4) by omega), if_neg (show ¬ ((opAt fn r.pc).op = 224) by omega), if_neg (show ¬ ((opAt fn r.pc).op = 13) by omega), if_neg (show ¬ ((opAt fn r.pc).op = 12) by omega), if_neg (show ¬ ((opAt fn r.pc).op = 14) by omega), if_neg (show ¬ ((opAt fn r.pc).op = 15 ∨ (opAt fn r.pc).op = 11) by omega), if_neg (show ¬ ((opAt fn r.pc).op = 16) by omega), if_neg (show ¬ ((opAt fn r.pc).op = 17) by omega), if_neg (show ¬ ((opAt fn r.pc).op = 33) by omega), if_neg (show ¬ ((opAt fn r.pc).op = 26) by omega), if_neg (show ¬ ((opAt fn r.pc).op = 34) by omega), if_neg (show ¬ ((opAt fn r.pc).op = 32) by omega), if_pos (show (opAt fn r.pc).op = 27 by omega)]
  rw [hw3.1, hw3.2.1, hw3.2.2, bits_snoc]
  congr 2
  split <;> rfl
set_option maxHeartbeats 1000000 in
theorem RelX.gget (h : RelX C t0 q p r rest k fn t cells below) (ho : (opAt fn r.pc).op = 35) (hE : Env C p.2.ws p.2.S p.2.H) : Sim1 C t0 q p := by
  obtain ⟨f, rr, hc, hf, hdd, hfl, hz, hops⟩ := h.vst
  have hst := h.stepv (by omega)
  have hpl : plainV C.M t.p fn.locals (vsAt C.M fn t r.pc) (opAt fn r.pc) = (match C.M.globals[(opAt fn r.pc).x.toNat]? with | none => ((vsAt C.M fn t r.pc), 64, 23) | some g => ((vsAt C.M fn t r.pc), g.ty, 0)) := by
    unfold plainV; rw [if_neg (show ¬ ((opAt fn r.pc).op = 16 ∨ (opAt fn r.pc).op = 17) by omega), if_neg (show ¬ ((opAt fn r.pc).op = 26) by omega), if_neg (show ¬ ((opAt fn r.pc).op = 27) by omega), if_neg (show ¬ (32 ≤ (opAt fn r.pc).op ∧ (opAt fn r.pc).op ≤ 34) by omega), if_pos (show (opAt fn r.pc).op = 35 ∨ (opAt fn r.pc).op = 36 by omega)]
    cases C.M.globals[(opAt fn r.pc).x.toNat]? with
    | none => rfl
    | some g => dsimp only; rw [if_pos ho]
  rw [hpl] at hst
  cases hg : C.M.globals[(opAt fn r.pc).x.toNat]? with
  | none => rw [hg] at hst; have := (give_ty hst).1; simp at this
  | some g =>
    rw [hg] at hst
    obtain ⟨g0, g1, g2, g3⟩ := give_ty hst
    dsimp only at g0 g1 g2 g3
    have hgt := (h.fz.tw.hM.globals g (List.mem_of_getElem? hg)).ty
    have hgl := h.gl2
    have hil : (opAt fn r.pc).x.toNat < p.2.S.gl.length := by rw [hgl.1]; exact (List.getElem?_eq_some_iff.1 hg).1
    obtain ⟨x, hx⟩ : ∃ x, p.2.S.gl[(opAt fn r.pc).x.toNat]? = some x := ⟨_, List.getElem?_eq_getElem hil⟩
    have hxr := hE.sm.g.2 x (List.mem_of_getElem? hx)
    have hxd : p.2.S.gl.getD (opAt fn r.pc).x.toNat 0 = x := getD_of hx
    have hvok : VOk ⟨g.ty, x.toNat⟩ := ⟨hgt, by dsimp only; omega, fun e => by
      have := hgl.2 _ g x hg hx e
      dsimp only
      omega⟩
    have hlen : r.ops.length < 10 := by
      have := g3 (isVal_ne hgt)
      rw [hops] at this
      simpa using this
    refine h.plain (by omega) (fun n hn => ⟨(0, ⟨{ r with pc := r.pc + 1, ops := r.ops ++ [⟨g.ty, x.toNat⟩] } :: rest, n, p.2.S, p.2.H⟩), by unfold deedM; dsimp only; rw [if_neg (show ¬ ((opAt fn r.pc).op = 0) by omega), if_neg (show ¬ ((opAt fn r.pc).op = 1) by omega), if_neg (show ¬ ((opAt fn r.pc).op = 4) by omega), if_neg (show ¬ ((opAt fn r.pc).op = 12) by omega), if_neg (show ¬ ((opAt fn r.pc).op = 13) by omega), if_neg (show ¬ ((opAt fn r.pc).op = 14) by omega), if_neg (show ¬ ((opAt fn r.pc).op = 15) by omega), if_neg (show ¬ ((opAt fn r.pc).op = 16) by omega), if_neg (show ¬ ((opAt fn r.pc).op = 17) by omega), if_neg (show ¬ ((opAt fn r.pc).op = 26) by omega), if_neg (show ¬ ((opAt fn r.pc).op = 27) by omega), if_neg (show ¬ (32 ≤ (opAt fn r.pc).op ∧ (opAt fn r.pc).op ≤ 34) by omega), if_pos (show (opAt fn r.pc).op = 35 ∨ (opAt fn r.pc).op = 36 by omega)]; unfold globalM; dsimp only; rw [hg]; dsimp only; rw [if_pos ho, hxd, pushM_ok (by exact hlen)]; rfl, ?_⟩)
    refine h.goes (loc' := r.loc) (ops' := r.ops ++ [⟨g.ty, x.toNat⟩]) (by omega) rfl ?_ g1 (by rw [ty_rev_app, g2, if_neg (isVal_ne hgt), hops]; rfl) rfl (ok_push h.at_.ok hvok) h.gl2
    unfold coreX; rw [if_neg (show ¬ ((opAt fn r.pc).op = 0) by omega), if_neg (show ¬ ((opAt fn r.pc).op = 1) by omega), if_neg (show ¬ ((opAt fn r.pc).op = 4) by omega), if_neg (show ¬ ((opAt fn r.pc).op = 224) by omega), if_neg (show ¬ ((opAt fn r.pc).op = 13) by omega), if_neg (show ¬ ((opAt fn r.pc).op = 12) by omega), if_neg (show ¬ ((opAt fn r.pc).op = 14) by omega), if_neg (show ¬ ((opAt fn r.pc).op = 15 ∨ (opAt fn r.pc).op = 11) by omega), if_neg (show ¬ ((opAt fn r.pc).op = 16) by omega), if_neg (show ¬ ((opAt fn r.pc).op = 17) by omega), if_neg (show ¬ ((opAt fn r.pc).op = 33) by omega), if_neg (show ¬ ((opAt fn r.pc).op = 26) by omega), if_neg (show ¬ ((opAt fn r.pc).op = 34) by omega), if_neg (show ¬ ((opAt fn r.pc).op = 32) by omega), if_neg (show ¬ ((opAt fn r.pc).op = 27) by omega), if_pos (show (opAt fn r.pc).op = 35 by omega)]
    dsimp only
    rw [hxd, bits_snoc, ← h.ws]
set_option maxHeartbeats 1000000 in
theorem RelX.gset (h : RelX C t0 q p r rest k fn t cells below) (ho : (opAt fn r.pc).op = 36) (hE : Env C p.2.ws p.2.S p.2.H) : Sim1 C t0 q p := by
  obtain ⟨f, rr, hc, hf, hdd, hfl, hz, hops⟩ := h.vst
  have hst := h.stepv (by omega)
  have hpl : plainV C.M t.p fn.locals (vsAt C.M fn t r.pc) (opAt fn r.pc) = (match C.M.globals[(opAt fn r.pc).x.toNat]? with | none => ((vsAt C.M fn t r.pc), 64, 23) | some g => if g.mu = true then ((carryV (vsAt C.M fn t r.pc) g.ty).1, 64, typedV (carryV (vsAt C.M fn t r.pc) g.ty).2) else ((vsAt C.M fn t r.pc), 64, 24)) := by
    unfold plainV; rw [if_neg (show ¬ ((opAt fn r.pc).op = 16 ∨ (opAt fn r.pc).op = 17) by omega), if_neg (show ¬ ((opAt fn r.pc).op = 26) by omega), if_neg (show ¬ ((opAt fn r.pc).op = 27) by omega), if_neg (show ¬ (32 ≤ (opAt fn r.pc).op ∧ (opAt fn r.pc).op ≤ 34) by omega), if_pos (show (opAt fn r.pc).op = 35 ∨ (opAt fn r.pc).op = 36 by omega)]
    cases C.M.globals[(opAt fn r.pc).x.toNat]? with
    | none => rfl
    | some g => dsimp only; rw [if_neg (show ¬ (opAt fn r.pc).op = 35 by omega)]
  rw [hpl] at hst
  cases hg : C.M.globals[(opAt fn r.pc).x.toNat]? with
  | none => rw [hg] at hst; have := (give_ty hst).1; simp at this
  | some g =>
    rw [hg] at hst
    dsimp only at hst
    by_cases hmu : ¬ (g.mu = true)
    · rw [if_neg hmu] at hst; have := (give_ty hst).1; simp at this
    replace hmu := Classical.not_not.1 hmu
    rw [if_pos hmu] at hst
    obtain ⟨g0, g1, g2, g3⟩ := give_ty hst
    dsimp only at g0 g1 g2 g3
    have hgt := (h.fz.tw.hM.globals g (List.mem_of_getElem? hg)).ty
    have hgl := h.gl2
    obtain ⟨rs, e1, e2, e4⟩ := carry_ty hc hf hdd hgt (typedV0 g0) hz
    rw [e2] at g1 g2 g3
    dsimp only at g1 g2 g3
    obtain ⟨l0, v, hl, hv, hr, hrl, hvok, hal, hw⟩ := h.top1 e1
    have hpop : popM { r with pc := r.pc + 1 } g.ty = some (v, { r with pc := r.pc + 1, ops := l0 }) := popM_snoc hl (by show r.floor ≤ _; rw [hfl, ← hrl]; exact e4) (.inr hv)
    have hgl' : GlOk C.M { p.2.S with gl := p.2.S.gl.set (opAt fn r.pc).x.toNat (v.b : Int) } := by
      refine ⟨by dsimp only; rw [List.length_set]; exact hgl.1, fun i g' x hg' hx ht => ?_⟩
      dsimp only at hx
      rw [List.getElem?_set] at hx
      split at hx
      · rename_i e
        subst e
        split at hx
        · simp at hx
          rw [hg] at hg'
          simp at hg'
          subst hg'
          have := hvok.i32 (by rw [hv]; exact ht)
          omega
        · simp at hx
      · exact hgl.2 i g' x hg' hx ht
    refine h.plain (by omega) (fun n hn => ⟨(0, ⟨{ r with pc := r.pc + 1, ops := l0 } :: rest, n, { p.2.S with gl := p.2.S.gl.set (opAt fn r.pc).x.toNat (v.b : Int) }, p.2.H⟩), by unfold deedM; dsimp only; rw [if_neg (show ¬ ((opAt fn r.pc).op = 0) by omega), if_neg (show ¬ ((opAt fn r.pc).op = 1) by omega), if_neg (show ¬ ((opAt fn r.pc).op = 4) by omega), if_neg (show ¬ ((opAt fn r.pc).op = 12) by omega), if_neg (show ¬ ((opAt fn r.pc).op = 13) by omega), if_neg (show ¬ ((opAt fn r.pc).op = 14) by omega), if_neg (show ¬ ((opAt fn r.pc).op = 15) by omega), if_neg (show ¬ ((opAt fn r.pc).op = 16) by omega), if_neg (show ¬ ((opAt fn r.pc).op = 17) by omega), if_neg (show ¬ ((opAt fn r.pc).op = 26) by omega), if_neg (show ¬ ((opAt fn r.pc).op = 27) by omega), if_neg (show ¬ (32 ≤ (opAt fn r.pc).op ∧ (opAt fn r.pc).op ≤ 34) by omega), if_pos (show (opAt fn r.pc).op = 35 ∨ (opAt fn r.pc).op = 36 by omega)]; unfold globalM; dsimp only; rw [hg]; dsimp only; rw [if_neg (show ¬ (opAt fn r.pc).op = 35 by omega), hpop]; dsimp only; rw [if_pos hmu]; rfl, ?_⟩)
    have hw1 := ws1 (s := { p.2 with pc := p.2.pc + 1 }) (by exact hw)
    refine h.goes (loc' := r.loc) (ops' := l0) (S' := { p.2.S with gl := p.2.S.gl.set (opAt fn r.pc).x.toNat (v.b : Int) }) (by omega) rfl ?_ g1 (by rw [g2, if_pos rfl, hr]; rfl) rfl hal hgl'
    unfold coreX; rw [if_neg (show ¬ ((opAt fn r.pc).op = 0) by omega), if_neg (show ¬ ((opAt fn r.pc).op = 1) by omega), if_neg (show ¬ ((opAt fn r.pc).op = 4) by omega), if_neg (show ¬ ((opAt fn r.pc).op = 224) by omega), if_neg (show ¬ ((opAt fn r.pc).op = 13) by omega), if_neg (show ¬ ((opAt fn r.pc).op = 12) by omega), if_neg (show ¬ ((opAt fn r.pc).op = 14) by omega), if_neg (show ¬ ((opAt fn r.pc).op = 15 ∨ (opAt fn r.pc).op = 11) by omega), if_neg (show ¬ ((opAt fn r.pc).op = 16) by omega), if_neg (show ¬ ((opAt fn r.pc).op = 17) by omega), if_neg (show ¬ ((opAt fn r.pc).op = 33) by omega), if_neg (show ¬ ((opAt fn r.pc).op = 26) by omega), if_neg (show ¬ ((opAt fn r.pc).op = 34) by omega), if_neg (show ¬ ((opAt fn r.pc).op = 32) by omega), if_neg (show ¬ ((opAt fn r.pc).op = 27) by omega), if_neg (show ¬ ((opAt fn r.pc).op = 35) by omega), if_pos (show (opAt fn r.pc).op = 36 by omega)]
    rw [hw1.1, hw1.2.1]
set_option maxHeartbeats 1000000 in
theorem RelX.msize (h : RelX C t0 q p r rest k fn t cells below) (ho : (opAt fn r.pc).op = 63) (hE : Env C p.2.ws p.2.S p.2.H) : Sim1 C t0 q p := by
  obtain ⟨f, rr, hc, hf, hdd, hfl, hz, hops⟩ := h.vst
  have hst := h.stepv (by omega)
  have hpl : plainV C.M t.p fn.locals (vsAt C.M fn t r.pc) (opAt fn r.pc) = memoryV C.M (vsAt C.M fn t r.pc) (opAt fn r.pc) := by unfold plainV; rw [if_neg (show ¬ ((opAt fn r.pc).op = 16 ∨ (opAt fn r.pc).op = 17) by omega), if_neg (show ¬ ((opAt fn r.pc).op = 26) by omega), if_neg (show ¬ ((opAt fn r.pc).op = 27) by omega), if_neg (show ¬ (32 ≤ (opAt fn r.pc).op ∧ (opAt fn r.pc).op ≤ 34) by omega), if_neg (show ¬ ((opAt fn r.pc).op = 35 ∨ (opAt fn r.pc).op = 36) by omega), if_pos (show 40 ≤ (opAt fn r.pc).op ∧ (opAt fn r.pc).op ≤ 64 by omega)]
  rw [hpl] at hst
  unfold memoryV at hst
  by_cases hmm : C.M.memMin < 0
  · rw [if_pos hmm] at hst; have := (give_ty hst).1; simp at this
  rw [if_neg hmm] at hst
  rw [if_pos ho] at hst
  obtain ⟨g0, g1, g2, g3⟩ := give_ty hst
  dsimp only at g0 g1 g2 g3
  have hm := hE.sm.m
  have hlen : r.ops.length < 10 := by
    have := g3 (by omega)
    rw [hops] at this
    simpa using this
  have hvok : VOk ⟨127, p.2.S.bs.length / 64⟩ := ⟨by unfold isVal; dsimp only; omega, by dsimp only; omega, fun e => by dsimp only; omega⟩
  refine h.plain (by omega) (fun n hn => ⟨(0, ⟨{ r with pc := r.pc + 1, ops := r.ops ++ [⟨127, p.2.S.bs.length / 64⟩] } :: rest, n, p.2.S, p.2.H⟩), by unfold deedM; dsimp only; rw [if_neg (show ¬ ((opAt fn r.pc).op = 0) by omega), if_neg (show ¬ ((opAt fn r.pc).op = 1) by omega), if_neg (show ¬ ((opAt fn r.pc).op = 4) by omega), if_neg (show ¬ ((opAt fn r.pc).op = 12) by omega), if_neg (show ¬ ((opAt fn r.pc).op = 13) by omega), if_neg (show ¬ ((opAt fn r.pc).op = 14) by omega), if_neg (show ¬ ((opAt fn r.pc).op = 15) by omega), if_neg (show ¬ ((opAt fn r.pc).op = 16) by omega), if_neg (show ¬ ((opAt fn r.pc).op = 17) by omega), if_neg (show ¬ ((opAt fn r.pc).op = 26) by omega), if_neg (show ¬ ((opAt fn r.pc).op = 27) by omega), if_neg (show ¬ (32 ≤ (opAt fn r.pc).op ∧ (opAt fn r.pc).op ≤ 34) by omega), if_neg (show ¬ ((opAt fn r.pc).op = 35 ∨ (opAt fn r.pc).op = 36) by omega), if_pos (show 40 ≤ (opAt fn r.pc).op ∧ (opAt fn r.pc).op ≤ 64 by omega)]; unfold memoryM; rw [if_neg hmm, if_pos ho, pushM_ok (by exact hlen)]; rfl, ?_⟩)
  refine h.goes (loc' := r.loc) (ops' := r.ops ++ [⟨127, p.2.S.bs.length / 64⟩]) (by omega) rfl ?_ g1 (by rw [ty_rev_app, g2, if_neg (by omega), hops]; rfl) rfl (ok_push h.at_.ok hvok) h.gl2
  unfold coreX; rw [if_neg (show ¬ ((opAt fn r.pc).op = 0) by omega), if_neg (show ¬ ((opAt fn r.pc).op = 1) by omega), if_neg (show ¬ ((opAt fn r.pc).op = 4) by omega), if_neg (show ¬ ((opAt fn r.pc).op = 224) by omega), if_neg (show ¬ ((opAt fn r.pc).op = 13) by omega), if_neg (show ¬ ((opAt fn r.pc).op = 12) by omega), if_neg (show ¬ ((opAt fn r.pc).op = 14) by omega), if_neg (show ¬ ((opAt fn r.pc).op = 15 ∨ (opAt fn r.pc).op = 11) by omega), if_neg (show ¬ ((opAt fn r.pc).op = 16) by omega), if_neg (show ¬ ((opAt fn r.pc).op = 17) by omega), if_neg (show ¬ ((opAt fn r.pc).op = 33) by omega), if_neg (show ¬ ((opAt fn r.pc).op = 26) by omega), if_neg (show ¬ ((opAt fn r.pc).op = 34) by omega), if_neg (show ¬ ((opAt fn r.pc).op = 32) by omega), if_neg (show ¬ ((opAt fn r.pc).op = 27) by omega), if_neg (show ¬ ((opAt fn r.pc).op = 35) by omega), if_neg (show ¬ ((opAt fn r.pc).op = 36) by omega), if_pos (show (opAt fn r.pc).op = 63 by omega)]
  rw [bits_snoc, ← h.ws]
set_option maxHeartbeats 1000000 in
theorem RelX.mgrow (h : RelX C t0 q p r rest k fn t cells below) (ho : (opAt fn r.pc).op = 64) (hE : Env C p.2.ws p.2.S p.2.H) : Sim1 C t0 q p := by
  obtain ⟨f, rr, hc, hf, hdd, hfl, hz, hops⟩ := h.vst
  have hst := h.stepv (by omega)
  have hpl : plainV C.M t.p fn.locals (vsAt C.M fn t r.pc) (opAt fn r.pc) = memoryV C.M (vsAt C.M fn t r.pc) (opAt fn r.pc) := by unfold plainV; rw [if_neg (show ¬ ((opAt fn r.pc).op = 16 ∨ (opAt fn r.pc).op = 17) by omega), if_neg (show ¬ ((opAt fn r.pc).op = 26) by omega), if_neg (show ¬ ((opAt fn r.pc).op = 27) by omega), if_neg (show ¬ (32 ≤ (opAt fn r.pc).op ∧ (opAt fn r.pc).op ≤ 34) by omega), if_neg (show ¬ ((opAt fn r.pc).op = 35 ∨ (opAt fn r.pc).op = 36) by omega), if_pos (show 40 ≤ (opAt fn r.pc).op ∧ (opAt fn r.pc).op ≤ 64 by omega)]
  rw [hpl] at hst
  unfold memoryV at hst
  by_cases hmm : C.M.memMin < 0
  · rw [if_pos hmm] at hst; have := (give_ty hst).1; simp at this
  rw [if_neg hmm] at hst
  rw [if_neg (show ¬ (opAt fn r.pc).op = 63 by omega), if_neg (show ¬ (opAt fn r.pc).op ≤ 62 by omega)] at hst
  obtain ⟨g0, g1, g2, g3⟩ := give_ty hst
  dsimp only at g0 g1 g2 g3
  have hm := hE.sm.m
  obtain ⟨rs, e1, e2, e4⟩ := carry_ty hc hf hdd (by unfold isVal; omega) (typedV0 g0) hz
  rw [e2] at g1 g2 g3
  dsimp only at g1 g2 g3
  obtain ⟨l0, v, hl, hv, hr, hrl, hvok, hal, hw⟩ := h.top1 e1
  have hpop : popM { r with pc := r.pc + 1 } 127 = some (v, { r with pc := r.pc + 1, ops := l0 }) := popM_snoc hl (by show r.floor ≤ _; rw [hfl, ← hrl]; exact e4) (.inr hv)
  have hlt : l0.length < 10 := by have := g3 (by omega); omega
  have hgr : (growS p.2.S (lo32 v.b)).1 < 4294967296 := by
    unfold growS
    split
    · dsimp only; omega
    · split <;> (dsimp only; omega)
  have hggl : (growS p.2.S (lo32 v.b)).2.gl = p.2.S.gl := by
    unfold growS
    split
    · rfl
    · split <;> rfl
  have hgl' : GlOk C.M (growS p.2.S (lo32 v.b)).2 := by
    have := h.gl2
    unfold GlOk at this ⊢
    rw [hggl]
    exact this
  have hvv : VOk ⟨127, (growS p.2.S (lo32 v.b)).1⟩ := ⟨by unfold isVal; dsimp only; omega, by dsimp only; omega, fun _ => hgr⟩
  refine h.plain (by omega) (fun n hn => ⟨(0, ⟨{ r with pc := r.pc + 1, ops := l0 ++ [⟨127, (growS p.2.S (lo32 v.b)).1⟩] } :: rest, n, (growS p.2.S (lo32 v.b)).2, p.2.H⟩), by unfold deedM; dsimp only; rw [if_neg (show ¬ ((opAt fn r.pc).op = 0) by omega), if_neg (show ¬ ((opAt fn r.pc).op = 1) by omega), if_neg (show ¬ ((opAt fn r.pc).op = 4) by omega), if_neg (show ¬ ((opAt fn r.pc).op = 12) by omega), if_neg (show ¬ ((opAt fn r.pc).op = 13) by omega), if_neg (show ¬ ((opAt fn r.pc).op = 14) by omega), if_neg (show ¬ ((opAt fn r.pc).op = 15) by omega), if_neg (show ¬ ((opAt fn r.pc).op = 16) by omega), if_neg (show ¬ ((opAt fn r.pc).op = 17) by omega), if_neg (show ¬ ((opAt fn r.pc).op = 26) by omega), if_neg (show ¬ ((opAt fn r.pc).op = 27) by omega), if_neg (show ¬ (32 ≤ (opAt fn r.pc).op ∧ (opAt fn r.pc).op ≤ 34) by omega), if_neg (show ¬ ((opAt fn r.pc).op = 35 ∨ (opAt fn r.pc).op = 36) by omega), if_pos (show 40 ≤ (opAt fn r.pc).op ∧ (opAt fn r.pc).op ≤ 64 by omega)]; unfold memoryM; rw [if_neg hmm, if_neg (show ¬ (opAt fn r.pc).op = 63 by omega), if_pos ho, hpop]; dsimp only; rw [pushM_ok (by exact hlt)]; rfl, ?_⟩)
  have hw1 := ws1 (s := { p.2 with pc := p.2.pc + 1 }) (by exact hw)
  refine h.goes (loc' := r.loc) (ops' := l0 ++ [⟨127, (growS p.2.S (lo32 v.b)).1⟩]) (S' := (growS p.2.S (lo32 v.b)).2) (by omega) rfl ?_ g1 (by rw [ty_rev_app, g2, if_neg (by omega), hr]; rfl) rfl (ok_push hal hvv) hgl'
  unfold coreX; rw [if_neg (show ¬ ((opAt fn r.pc).op = 0) by omega), if_neg (show ¬ ((opAt fn r.pc).op = 1) by omega), if_neg (show ¬ ((opAt fn r.pc).op = 4) by omega), if_neg (show ¬ ((opAt fn r.pc).op = 224) by omega), if_neg (show ¬ ((opAt fn r.pc).op = 13) by omega), if_neg (show ¬ ((opAt fn r.pc).op = 12) by omega), if_neg (show ¬ ((opAt fn r.pc).op = 14) by omega), if_neg (show ¬ ((opAt fn r.pc).op = 15 ∨ (opAt fn r.pc).op = 11) by omega), if_neg (show ¬ ((opAt fn r.pc).op = 16) by omega), if_neg (show ¬ ((opAt fn r.pc).op = 17) by omega), if_neg (show ¬ ((opAt fn r.pc).op = 33) by omega), if_neg (show ¬ ((opAt fn r.pc).op = 26) by omega), if_neg (show ¬ ((opAt fn r.pc).op = 34) by omega), if_neg (show ¬ ((opAt fn r.pc).op = 32) by omega), if_neg (show ¬ ((opAt fn r.pc).op = 27) by omega), if_neg (show ¬ ((opAt fn r.pc).op = 35) by omega), if_neg (show ¬ ((opAt fn r.pc).op = 36) by omega), if_neg (show ¬ ((opAt fn r.pc).op = 63) by omega), if_pos (show (opAt fn r.pc).op = 64 by omega)]
  rw [hw1.1, hw1.2.2, bits_snoc]
set_option maxHeartbeats 1000000 in
theorem RelX.load (h : RelX C t0 q p r rest k fn t cells below) (ho : 40 ≤ (opAt fn r.pc).op ∧ (opAt fn r.pc).op ≤ 53) (hL : LdOk) (hE : Env C p.2.ws p.2.S p.2.H) : Sim1 C t0 q p := by
  obtain ⟨f, rr, hc, hf, hdd, hfl, hz, hops⟩ := h.vst
  have hst := h.stepv (by omega)
  have hpl : plainV C.M t.p fn.locals (vsAt C.M fn t r.pc) (opAt fn r.pc) = memoryV C.M (vsAt C.M fn t r.pc) (opAt fn r.pc) := by unfold plainV; rw [if_neg (show ¬ ((opAt fn r.pc).op = 16 ∨ (opAt fn r.pc).op = 17) by omega), if_neg (show ¬ ((opAt fn r.pc).op = 26) by omega), if_neg (show ¬ ((opAt fn r.pc).op = 27) by omega), if_neg (show ¬ (32 ≤ (opAt fn r.pc).op ∧ (opAt fn r.pc).op ≤ 34) by omega), if_neg (show ¬ ((opAt fn r.pc).op = 35 ∨ (opAt fn r.pc).op = 36) by omega), if_pos (show 40 ≤ (opAt fn r.pc).op ∧ (opAt fn r.pc).op ≤ 64 by omega)]
  rw [hpl] at hst
  unfold memoryV at hst
  by_cases hmm : C.M.memMin < 0
  · rw [if_pos hmm] at hst; have := (give_ty hst).1; simp at this
  rw [if_neg hmm] at hst
  rw [if_neg (show ¬ (opAt fn r.pc).op = 63 by omega), if_pos (show (opAt fn r.pc).op ≤ 62 by omega)] at hst
  by_cases hal2 : 3 < (opAt fn r.pc).x ∨ (memSig (opAt fn r.pc).op).1 / 2 ^ (opAt fn r.pc).x.toNat = 0
  · rw [if_pos hal2] at hst; have := (give_ty hst).1; simp at this
  rw [if_neg hal2, if_neg (show ¬ 54 ≤ (opAt fn r.pc).op by omega)] at hst
  obtain ⟨g0, g1, g2, g3⟩ := give_ty hst
  dsimp only at g0 g1 g2 g3
  obtain ⟨rs, e1, e2, e4⟩ := carry_ty hc hf hdd (by unfold isVal; omega) (typedV0 g0) hz
  rw [e2] at g1 g2 g3
  dsimp only at g1 g2 g3
  obtain ⟨l0, v, hl, hv, hr, hrl, hvok, hal, hw⟩ := h.top1 e1
  have hpop : popM { r with pc := r.pc + 1 } 127 = some (v, { r with pc := r.pc + 1, ops := l0 }) := popM_snoc hl (by show r.floor ≤ _; rw [hfl, ← hrl]; exact e4) (.inr hv)
  have hms := memSig_val (opAt fn r.pc).op (by omega) (by omega)
  have hms64 : (memSig (opAt fn r.pc).op).2.1 ≠ 64 := by omega
  have hw1 := ws1 (s := { p.2 with pc := p.2.pc + 1 }) (by exact hw)
  cases hld : loadS p.2.S (opAt fn r.pc).op (lo32 v.b) ((opAt fn r.pc).y % 4294967296).toNat with
  | none =>
    refine h.plain (by omega) (fun n hn => ⟨(42, ⟨{ r with pc := r.pc + 1, ops := l0 } :: rest, n, p.2.S, p.2.H⟩), by unfold deedM; dsimp only; rw [if_neg (show ¬ ((opAt fn r.pc).op = 0) by omega), if_neg (show ¬ ((opAt fn r.pc).op = 1) by omega), if_neg (show ¬ ((opAt fn r.pc).op = 4) by omega), if_neg (show ¬ ((opAt fn r.pc).op = 12) by omega), if_neg (show ¬ ((opAt fn r.pc).op = 13) by omega), if_neg (show ¬ ((opAt fn r.pc).op = 14) by omega), if_neg (show ¬ ((opAt fn r.pc).op = 15) by omega), if_neg (show ¬ ((opAt fn r.pc).op = 16) by omega), if_neg (show ¬ ((opAt fn r.pc).op = 17) by omega), if_neg (show ¬ ((opAt fn r.pc).op = 26) by omega), if_neg (show ¬ ((opAt fn r.pc).op = 27) by omega), if_neg (show ¬ (32 ≤ (opAt fn r.pc).op ∧ (opAt fn r.pc).op ≤ 34) by omega), if_neg (show ¬ ((opAt fn r.pc).op = 35 ∨ (opAt fn r.pc).op = 36) by omega), if_pos (show 40 ≤ (opAt fn r.pc).op ∧ (opAt fn r.pc).op ≤ 64 by omega)]; unfold memoryM; rw [if_neg hmm, if_neg (show ¬ (opAt fn r.pc).op = 63 by omega), if_neg (show ¬ (opAt fn r.pc).op = 64 by omega), if_pos (show (opAt fn r.pc).op ≤ 53 by omega), hpop]; dsimp only; rw [hld]; rfl, ?_⟩)
    refine h.traps (e := 42) (s := { p.2 with pc := p.2.pc + 1 }) (by omega) rfl ?_ rfl rfl
    unfold coreX; rw [if_neg (show ¬ ((opAt fn r.pc).op = 0) by omega), if_neg (show ¬ ((opAt fn r.pc).op = 1) by omega), if_neg (show ¬ ((opAt fn r.pc).op = 4) by omega), if_neg (show ¬ ((opAt fn r.pc).op = 224) by omega), if_neg (show ¬ ((opAt fn r.pc).op = 13) by omega), if_neg (show ¬ ((opAt fn r.pc).op = 12) by omega), if_neg (show ¬ ((opAt fn r.pc).op = 14) by omega), if_neg (show ¬ ((opAt fn r.pc).op = 15 ∨ (opAt fn r.pc).op = 11) by omega), if_neg (show ¬ ((opAt fn r.pc).op = 16) by omega), if_neg (show ¬ ((opAt fn r.pc).op = 17) by omega), if_neg (show ¬ ((opAt fn r.pc).op = 33) by omega), if_neg (show ¬ ((opAt fn r.pc).op = 26) by omega), if_neg (show ¬ ((opAt fn r.pc).op = 34) by omega), if_neg (show ¬ ((opAt fn r.pc).op = 32) by omega), if_neg (show ¬ ((opAt fn r.pc).op = 27) by omega), if_neg (show ¬ ((opAt fn r.pc).op = 35) by omega), if_neg (show ¬ ((opAt fn r.pc).op = 36) by omega), if_neg (show ¬ ((opAt fn r.pc).op = 63) by omega), if_neg (show ¬ ((opAt fn r.pc).op = 64) by omega), if_neg (show ¬ (65 ≤ (opAt fn r.pc).op ∧ (opAt fn r.pc).op ≤ 68) by omega), if_neg (show ¬ ((opAt fn r.pc).op = 69) by omega), if_neg (show ¬ ((opAt fn r.pc).op = 106) by omega), if_pos (show (opAt fn r.pc).op ≤ 53 by omega)]
    rw [hw1.1]
    dsimp only
    rw [hld]
  | some x =>
    have hxr := loadS_r hE.sm hld
    have hlt : l0.length < 10 := by have := g3 hms64; omega
    have hvv : VOk ⟨(memSig (opAt fn r.pc).op).2.1, x.toNat⟩ := ⟨by unfold isVal; dsimp only; omega, by dsimp only; omega, fun e => by
      have := hL _ _ _ _ _ hE.sm ho.1 ho.2 e hld
      dsimp only
      omega⟩
    refine h.plain (by omega) (fun n hn => ⟨(0, ⟨{ r with pc := r.pc + 1, ops := l0 ++ [⟨(memSig (opAt fn r.pc).op).2.1, x.toNat⟩] } :: rest, n, p.2.S, p.2.H⟩), by unfold deedM; dsimp only; rw [if_neg (show ¬ ((opAt fn r.pc).op = 0) by omega), if_neg (show ¬ ((opAt fn r.pc).op = 1) by omega), if_neg (show ¬ ((opAt fn r.pc).op = 4) by omega), if_neg (show ¬ ((opAt fn r.pc).op = 12) by omega), if_neg (show ¬ ((opAt fn r.pc).op = 13) by omega), if_neg (show ¬ ((opAt fn r.pc).op = 14) by omega), if_neg (show ¬ ((opAt fn r.pc).op = 15) by omega), if_neg (show ¬ ((opAt fn r.pc).op = 16) by omega), if_neg (show ¬ ((opAt fn r.pc).op = 17) by omega), if_neg (show ¬ ((opAt fn r.pc).op = 26) by omega), if_neg (show ¬ ((opAt fn r.pc).op = 27) by omega), if_neg (show ¬ (32 ≤ (opAt fn r.pc).op ∧ (opAt fn r.pc).op ≤ 34) by omega), if_neg (show ¬ ((opAt fn r.pc).op = 35 ∨ (opAt fn r.pc).op = 36) by omega), if_pos (show 40 ≤ (opAt fn r.pc).op ∧ (opAt fn r.pc).op ≤ 64 by omega)]; unfold memoryM; rw [if_neg hmm, if_neg (show ¬ (opAt fn r.pc).op = 63 by omega), if_neg (show ¬ (opAt fn r.pc).op = 64 by omega), if_pos (show (opAt fn r.pc).op ≤ 53 by omega), hpop]; dsimp only; rw [hld]; dsimp only; rw [pushM_ok (by exact hlt)]; rfl, ?_⟩)
    refine h.goes (loc' := r.loc) (ops' := l0 ++ [⟨(memSig (opAt fn r.pc).op).2.1, x.toNat⟩]) (by omega) rfl ?_ g1 (by rw [ty_rev_app, g2, if_neg hms64, hr]; rfl) rfl (ok_push hal hvv) h.gl2
    unfold coreX; rw [if_neg (show ¬ ((opAt fn r.pc).op = 0) by omega), if_neg (show ¬ ((opAt fn r.pc).op = 1) by omega), if_neg (show ¬ ((opAt fn r.pc).op = 4) by omega), if_neg (show ¬ ((opAt fn r.pc).op = 224) by omega), if_neg (show ¬ ((opAt fn r.pc).op = 13) by omega), if_neg (show ¬ ((opAt fn r.pc).op = 12) by omega), if_neg (show ¬ ((opAt fn r.pc).op = 14) by omega), if_neg (show ¬ ((opAt fn r.pc).op = 15 ∨ (opAt fn r.pc).op = 11) by omega), if_neg (show ¬ ((opAt fn r.pc).op = 16) by omega), if_neg (show ¬ ((opAt fn r.pc).op = 17) by omega), if_neg (show ¬ ((opAt fn r.pc).op = 33) by omega), if_neg (show ¬ ((opAt fn r.pc).op = 26) by omega), if_neg (show ¬ ((opAt fn r.pc).op = 34) by omega), if_neg (show ¬ ((opAt fn r.pc).op = 32) by omega), if_neg (show ¬ ((opAt fn r.pc).op = 27) by omega), if_neg (show ¬ ((opAt fn r.pc).op = 35) by omega), if_neg (show ¬ ((opAt fn r.pc).op = 36) by omega), if_neg (show ¬ ((opAt fn r.pc).op = 63) by omega), if_neg (show ¬ ((opAt fn r.pc).op = 64) by omega), if_neg (show ¬ (65 ≤ (opAt fn r.pc).op ∧ (opAt fn r.pc).op ≤ 68) by omega), if_neg (show ¬ ((opAt fn r.pc).op = 69) by omega), if_neg (show ¬ ((opAt fn r.pc).op = 106) by omega), if_pos (show (opAt fn r.pc).op ≤ 53 by omega)]
    rw [hw1.1]
    dsimp only
    rw [hld]
    dsimp only
    rw [show p.2.ws.set (p.2.ws.length - 1) x.toNat = _ from hw1.2.2 x.toNat, bits_snoc]
set_option maxHeartbeats 1000000 in
theorem RelX.store (h : RelX C t0 q p r rest k fn t cells below) (ho : 54 ≤ (opAt fn r.pc).op ∧ (opAt fn r.pc).op ≤ 62) : Sim1 C t0 q p := by
  obtain ⟨f, rr, hc, hf, hdd, hfl, hz, hops⟩ := h.vst
  have hst := h.stepv (by omega)
  have hpl : plainV C.M t.p fn.locals (vsAt C.M fn t r.pc) (opAt fn r.pc) = memoryV C.M (vsAt C.M fn t r.pc) (opAt fn r.pc) := by unfold plainV; rw [if_neg (show ¬ ((opAt fn r.pc).op = 16 ∨ (opAt fn r.pc).op = 17) by omega), if_neg (show ¬ ((opAt fn r.pc).op = 26) by omega), if_neg (show ¬ ((opAt fn r.pc).op = 27) by omega), if_neg (show ¬ (32 ≤ (opAt fn r.pc).op ∧ (opAt fn r.pc).op ≤ 34) by omega), if_neg (show ¬ ((opAt fn r.pc).op = 35 ∨ (opAt fn r.pc).op = 36) by omega), if_pos (show 40 ≤ (opAt fn r.pc).op ∧ (opAt fn r.pc).op ≤ 64 by omega)]
  rw [hpl] at hst
  unfold memoryV at hst
  by_cases hmm : C.M.memMin < 0
  · rw [if_pos hmm] at hst; have := (give_ty hst).1; simp at this
  rw [if_neg hmm] at hst
  rw [if_neg (show ¬ (opAt fn r.pc).op = 63 by omega), if_pos (show (opAt fn r.pc).op ≤ 62 by omega)] at hst
  by_cases hal2 : 3 < (opAt fn r.pc).x ∨ (memSig (opAt fn r.pc).op).1 / 2 ^ (opAt fn r.pc).x.toNat = 0
  · rw [if_pos hal2] at hst; have := (give_ty hst).1; simp at this
  rw [if_neg hal2, if_pos (show 54 ≤ (opAt fn r.pc).op by omega)] at hst
  have hms := memSig_val (opAt fn r.pc).op (by omega) (by omega)
  have hmv : isVal (memSig (opAt fn r.pc).op).2.1 := by unfold isVal; omega
  by_cases c1 : ¬ ((carryV (vsAt C.M fn t r.pc) (memSig (opAt fn r.pc).op).2.1).2 = true)
  · rw [if_neg c1] at hst; have := (give_ty hst).1; simp at this
  replace c1 := Classical.not_not.1 c1
  rw [if_pos c1] at hst
  obtain ⟨rs0, e1, e2, e4⟩ := carry_ty hc hf hdd hmv c1 hz
  rw [e2] at hst
  obtain ⟨g0, g1, g2, g3⟩ := give_ty hst
  dsimp only at g0 g1 g2 g3
  have hz1 : ∀ x, x ∈ rs0 → x ≠ 0 := fun x hx => hz x (by rw [e1]; exact List.mem_cons_of_mem _ hx)
  obtain ⟨rs, d1, d2, d4⟩ := carry_ty (v := ⟨rs0, (vsAt C.M fn t r.pc).ctl⟩) hc e4 hdd (by unfold isVal; omega) (typedV0 g0) hz1
  dsimp only at d1
  rw [d2] at g1 g2 g3
  dsimp only at g1 g2 g3
  rw [d1] at e1
  obtain ⟨l0, av, v, hl, hv, hu, hr, hrl, hvok, huok, hal, hw⟩ := h.top2 e1
  obtain ⟨hp1, hp2⟩ := popM_two (r := { r with pc := r.pc + 1 }) (w1 := (memSig (opAt fn r.pc).op).2.1) (w2 := 127) hl (by show r.floor ≤ _; rw [hfl, ← hrl]; exact d4) (.inr hv) (.inr hu)
  have hw2 := ws2 (s := { p.2 with pc := p.2.pc + 1 }) (by exact hw)
  cases hsv : saveS p.2.S (opAt fn r.pc).op (lo32 av.b) ((opAt fn r.pc).y % 4294967296).toNat v.b with
  | none =>
    refine h.plain (by omega) (fun n hn => ⟨(42, ⟨{ r with pc := r.pc + 1, ops := l0 } :: rest, n, p.2.S, p.2.H⟩), by unfold deedM; dsimp only; rw [if_neg (show ¬ ((opAt fn r.pc).op = 0) by omega), if_neg (show ¬ ((opAt fn r.pc).op = 1) by omega), if_neg (show ¬ ((opAt fn r.pc).op = 4) by omega), if_neg (show ¬ ((opAt fn r.pc).op = 12) by omega), if_neg (show ¬ ((opAt fn r.pc).op = 13) by omega), if_neg (show ¬ ((opAt fn r.pc).op = 14) by omega), if_neg (show ¬ ((opAt fn r.pc).op = 15) by omega), if_neg (show ¬ ((opAt fn r.pc).op = 16) by omega), if_neg (show ¬ ((opAt fn r.pc).op = 17) by omega), if_neg (show ¬ ((opAt fn r.pc).op = 26) by omega), if_neg (show ¬ ((opAt fn r.pc).op = 27) by omega), if_neg (show ¬ (32 ≤ (opAt fn r.pc).op ∧ (opAt fn r.pc).op ≤ 34) by omega), if_neg (show ¬ ((opAt fn r.pc).op = 35 ∨ (opAt fn r.pc).op = 36) by omega), if_pos (show 40 ≤ (opAt fn r.pc).op ∧ (opAt fn r.pc).op ≤ 64 by omega)]; unfold memoryM; rw [if_neg hmm, if_neg (show ¬ (opAt fn r.pc).op = 63 by omega), if_neg (show ¬ (opAt fn r.pc).op = 64 by omega), if_neg (show ¬ (opAt fn r.pc).op ≤ 53 by omega), hp1]; dsimp only; rw [hp2]; dsimp only; rw [hsv]; rfl, ?_⟩)
    refine h.traps (e := 42) (s := { p.2 with pc := p.2.pc + 1 }) (by omega) rfl ?_ rfl rfl
    unfold coreX; rw [if_neg (show ¬ ((opAt fn r.pc).op = 0) by omega), if_neg (show ¬ ((opAt fn r.pc).op = 1) by omega), if_neg (show ¬ ((opAt fn r.pc).op = 4) by omega), if_neg (show ¬ ((opAt fn r.pc).op = 224) by omega), if_neg (show ¬ ((opAt fn r.pc).op = 13) by omega), if_neg (show ¬ ((opAt fn r.pc).op = 12) by omega), if_neg (show ¬ ((opAt fn r.pc).op = 14) by omega), if_neg (show ¬ ((opAt fn r.pc).op = 15 ∨ (opAt fn r.pc).op = 11) by omega), if_neg (show ¬ ((opAt fn r.pc).op = 16) by omega), if_neg (show ¬ ((opAt fn r.pc).op = 17) by omega), if_neg (show ¬ ((opAt fn r.pc).op = 33) by omega), if_neg (show ¬ ((opAt fn r.pc).op = 26) by omega), if_neg (show ¬ ((opAt fn r.pc).op = 34) by omega), if_neg (show ¬ ((opAt fn r.pc).op = 32) by omega), if_neg (show ¬ ((opAt fn r.pc).op = 27) by omega), if_neg (show ¬ ((opAt fn r.pc).op = 35) by omega), if_neg (show ¬ ((opAt fn r.pc).op = 36) by omega), if_neg (show ¬ ((opAt fn r.pc).op = 63) by omega), if_neg (show ¬ ((opAt fn r.pc).op = 64) by omega), if_neg (show ¬ (65 ≤ (opAt fn r.pc).op ∧ (opAt fn r.pc).op ≤ 68) by omega), if_neg (show ¬ ((opAt fn r.pc).op = 69) by omega), if_neg (show ¬ ((opAt fn r.pc).op = 106) by omega), if_neg (show ¬ ((opAt fn r.pc).op ≤ 53) by omega), if_pos (show (opAt fn r.pc).op ≤ 62 by omega)]
    rw [hw2.1, hw2.2.2.2.1]
    dsimp only
    rw [hsv]
  | some S' =>
    have hgl' : GlOk C.M S' := by
      have h1 := h.gl2
      unfold saveS at hsv
      rcases iteC hsv with ⟨_, hsv⟩ | ⟨_, hsv⟩
      · simp at hsv
        rw [← hsv]
        exact h1
      · simp at hsv
    refine h.plain (by omega) (fun n hn => ⟨(0, ⟨{ r with pc := r.pc + 1, ops := l0 } :: rest, n, S', p.2.H⟩), by unfold deedM; dsimp only; rw [if_neg (show ¬ ((opAt fn r.pc).op = 0) by omega), if_neg (show ¬ ((opAt fn r.pc).op = 1) by omega), if_neg (show ¬ ((opAt fn r.pc).op = 4) by omega), if_neg (show ¬ ((opAt fn r.pc).op = 12) by omega), if_neg (show ¬ ((opAt fn r.pc).op = 13) by omega), if_neg (show ¬ ((opAt fn r.pc).op = 14) by omega), if_neg (show ¬ ((opAt fn r.pc).op = 15) by omega), if_neg (show ¬ ((opAt fn r.pc).op = 16) by omega), if_neg (show ¬ ((opAt fn r.pc).op = 17) by omega), if_neg (show ¬ ((opAt fn r.pc).op = 26) by omega), if_neg (show ¬ ((opAt fn r.pc).op = 27) by omega), if_neg (show ¬ (32 ≤ (opAt fn r.pc).op ∧ (opAt fn r.pc).op ≤ 34) by omega), if_neg (show ¬ ((opAt fn r.pc).op = 35 ∨ (opAt fn r.pc).op = 36) by omega), if_pos (show 40 ≤ (opAt fn r.pc).op ∧ (opAt fn r.pc).op ≤ 64 by omega)]; unfold memoryM; rw [if_neg hmm, if_neg (show ¬ (opAt fn r.pc).op = 63 by omega), if_neg (show ¬ (opAt fn r.pc).op = 64 by omega), if_neg (show ¬ (opAt fn r.pc).op ≤ 53 by omega), hp1]; dsimp only; rw [hp2]; dsimp only; rw [hsv]; rfl, ?_⟩)
    refine h.goes (loc' := r.loc) (ops' := l0) (S' := S') (by omega) rfl ?_ g1 (by rw [g2, if_pos rfl, hr]; rfl) rfl hal hgl'
    unfold coreX; rw [if_neg (show ¬ ((opAt fn r.pc).op = 0) by omega), if_neg (show ¬ ((opAt fn r.pc).op = 1) by omega), if_neg (show ¬ ((opAt fn r.pc).op = 4) by omega), if_neg (show ¬ ((opAt fn r.pc).op = 224) by omega), if_neg (show ¬ ((opAt fn r.pc).op = 13) by omega), if_neg (show ¬ ((opAt fn r.pc).op = 12) by omega), if_neg (show ¬ ((opAt fn r.pc).op = 14) by omega), if_neg (show ¬ ((opAt fn r.pc).op = 15 ∨ (opAt fn r.pc).op = 11) by omega), if_neg (show ¬ ((opAt fn r.pc).op = 16) by omega), if_neg (show ¬ ((opAt fn r.pc).op = 17) by omega), if_neg (show ¬ ((opAt fn r.pc).op = 33) by omega), if_neg (show ¬ ((opAt fn r.pc).op = 26) by omega), if_neg (show ¬ ((opAt fn r.pc).op = 34) by omega), if_neg (show ¬ ((opAt fn r.pc).op = 32) by omega), if_neg (show ¬ ((opAt fn r.pc).op = 27) by omega), if_neg (show ¬ ((opAt fn r.pc).op = 35) by omega), if_neg (show ¬ ((opAt fn r.pc).op = 36) by omega), if_neg (show ¬ ((opAt fn r.pc).op = 63) by omega), if_neg (show ¬ ((opAt fn r.pc).op = 64) by omega), if_neg (show ¬ (65 ≤ (opAt fn r.pc).op ∧ (opAt fn r.pc).op ≤ 68) by omega), if_neg (show ¬ ((opAt fn r.pc).op = 69) by omega), if_neg (show ¬ ((opAt fn r.pc).op = 106) by omega), if_neg (show ¬ ((opAt fn r.pc).op ≤ 53) by omega), if_pos (show (opAt fn r.pc).op ≤ 62 by omega)]
    rw [hw2.1, hw2.2.2.2.1]
    dsimp only
    rw [hsv]
    dsimp only
    rw [show Xs.pop { p.2 with pc := p.2.pc + 1 } 2 = _ from hw2.2.2.1]
end
end Go.Proofs.Qxb6500275aGreatDoor
