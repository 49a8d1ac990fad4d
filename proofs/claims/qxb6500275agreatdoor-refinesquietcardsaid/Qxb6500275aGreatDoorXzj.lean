import Derived.Test.Qxb6500275aGreatDoorXz4
import Derived.Test.Qxb6500275aGreatDoorXz2
set_option maxRecDepth 1000000
set_option linter.unusedVariables false
set_option linter.unusedSimpArgs false
namespace Go.Proofs.Qxb6500275aGreatDoor
open Go Go.RowKit
/- how run ends -/
structure Fin42 (w0 w : World) (N : Xn) (T : Nat → Prop) (R : Nat × Xe) (tmps : Array Value) : Prop where
  t8 : tmps.getD 8 undef = .int .i64 R.1
  t9 : tmps.getD 9 undef = .int .i64 R.2.e
  x : ∃ ws fr hd, Xr w0 w N T ws fr hd R.2.S R.2.H ∧ (R.2.e = 0 → ws = R.2.out)
/- what is left: a state, or the end -/
def Goes (C : XC) (R : Nat × Xe) (m fuel : Nat) (x : XR) : Prop := match x with
  | .ok s => iterX C m (fuel, s) = some R ∧ Gd C s
  | .error r => R = (fuel, r)
structure At1 (w0 w : World) (N : Xn) (C : XC) (T : Nat → Prop) (R : Nat × Xe) (m : Nat) (u : Nat → Value) (fuel : Nat) (s : Xs) (ff : FF) (ci : Nat) : Prop where
  it : iterX C m (fuel, s) = some R
  gd : Gd C s
  fu : fuel < 9223372036854775808
  hff : C.fs[s.fn]? = some ff
  hf : Hf w0 N C u fuel s.ws.length s.base s.fn s.fr.length ff ci
  u19 : u 19 = .int .i64 s.pc
  x : Xr w0 w N T s.ws s.fr (some (s.fn, s.base)) s.S s.H
structure At2 (w0 w : World) (N : Xn) (C : XC) (T : Nat → Prop) (R : Nat × Xe) (m : Nat) (u : Nat → Value) (fuel : Nat) (s : Xs) (ff : FF) (ci : Nat) (c : Ins) : Prop where
  it : iterX C m (fuel, branchX C s c) = some R
  gd : Gd C (branchX C s c)
  fu : fuel < 9223372036854775808
  hff : C.fs[s.fn]? = some ff
  hf : Hf w0 N C u fuel s.ws.length s.base s.fn s.fr.length ff ci
  x : Xr w0 w N T s.ws s.fr (some (s.fn, s.base)) s.S s.H
  c1 : w.cell? ⟨N.cb, 1, none⟩ = some (.int .u32 c.x)
  c2 : w.cell? ⟨N.cb, 2, none⟩ = some (.int .u64 c.y)
  j : ∃ n, s.ws.length = s.base + ff.locals + n ∧ ∃ i ks, Hts C.M ff.locals ff.results (Ins.zero :: ff.cells) ks ∧ BrJ (Ato (Ins.zero :: ff.cells) ks) [] i c n
  r : s.ws.length ≤ 120 ∧ s.base ≤ 100 ∧ ff.locals ≤ 10
structure At3 (w0 w : World) (N : Xn) (C : XC) (T : Nat → Prop) (R : Nat × Xe) (m : Nat) (u : Nat → Value) (fuel : Nat) (s : Xs) (ff : FF) (ci : Nat) : Prop where
  it : Goes C R m fuel (leaveX C s)
  fu : fuel < 9223372036854775808
  hff : C.fs[s.fn]? = some ff
  hf : Hf w0 N C u fuel s.ws.length s.base s.fn s.fr.length ff ci
  x : Xr w0 w N T s.ws s.fr (some (s.fn, s.base)) s.S s.H
  r : s.ws.length ≤ 120 ∧ s.base ≤ 100 ∧ ff.results ≤ 1 ∧ s.base + ff.results ≤ s.ws.length ∧ s.fr.length ≤ 5
  fr : ∀ c cs, s.fr = c :: cs → c.base ≤ 100 ∧ ∃ ff', C.fs[c.fn]? = some ff' ∧ ff'.locals ≤ 10
structure At0 (w0 w : World) (N : Xn) (C : XC) (T : Nat → Prop) (R : Nat × Xe) (m : Nat) (u : Nat → Value) (fuel : Nat) (ws : List Nat) (cur : List Fr) (f : Nat) (S : Sm) (H : Hm) (t : Ty) : Prop where
  it : Goes C R m fuel (enterX C ws cur f S H)
  fu : fuel < 9223372036854775808
  en : En42 w0 w N C T u fuel ws cur f S H
  ty : C.M.typeOf (f : Int) = some t
  le : t.p.size ≤ ws.length
  env : Env C ws S H
  r : cur.length ≤ 6 ∧ (ws.length ≤ 20 * cur.length ∨ (cur = [] ∧ ws.length ≤ 4))
def J42 (w0 : World) (N : Xn) (C : XC) (T : Nat → Prop) (R : Nat × Xe) (l n : Nat) (a : Act) (w : World) : Prop :=
  (l = 1 ∧ ∃ m u fuel s ff ci, n = 2 * m + 1 ∧ a = ⟨fx N C u, []⟩ ∧ At1 w0 w N C T R m u fuel s ff ci) ∨
  (l = 2 ∧ ∃ m u fuel s ff ci c, n = 2 * m + 2 ∧ a = ⟨fx N C u, []⟩ ∧ At2 w0 w N C T R m u fuel s ff ci c) ∨
  (l = 3 ∧ ∃ m u fuel s ff ci, n = 2 * m + 2 ∧ a = ⟨fx N C u, []⟩ ∧ At3 w0 w N C T R m u fuel s ff ci) ∨
  (l = 0 ∧ ∃ m u fuel ws cur f S H t, n = 2 * m + 2 ∧ a = ⟨fx N C u, []⟩ ∧ At0 w0 w N C T R m u fuel ws cur f S H t)
section
variable {w0 w : World} {N : Xn} {C : XC} {T : Nat → Prop} {R : Nat × Xe} {m fuel : Nat} {u : Nat → Value} {s : Xs} {ff : FF} {ci : Nat} {Q : Exit → Act → World → Prop}
theorem Gd.len {s : Xs} (h : Gd C s) : s.ws.length ≤ 20 * s.fr.length + 20 := by
  obtain ⟨ff, ks, hh, hc, hch⟩ := h.cur
  have h1 := hch.base
  have h2 := hc.len
  have h3 := hc.ft.le
  have h4 := hc.top
  omega
/- a state of the head out of a middle one -/
theorem mk1 {tmps : Array Value} {s : Xs} (hM : Mid w0 w N C T tmps fuel s.ws s.fr s.fn s.base s.S s.H ff ci) (h19 : tmps.getD 19 undef = .int .i64 s.pc) (hit : iterX C m (fuel, s) = some R) (hg : Gd C s) (hfu : fuel < 9223372036854775808) (hff : C.fs[s.fn]? = some ff) : J42 w0 N C T R 1 (2 * m + 1) ⟨tmps, []⟩ w :=
  .inl ⟨rfl, m, _, fuel, s, ff, ci, rfl, by rw [← hM.eq], hit, hg, hfu, hff, hM.hf, h19, hM.xr⟩
theorem pass2 (hq : Xq w0 N C T) (hlen : ∀ (k : Nat) (ff : FF), C.fs[k]? = some ff → ff.cells.length ≤ 1000) {c : Ins} {K : Nat → Act → World → Prop} (h : At2 w0 w N C T R m u fuel s ff ci c) (hK : ∀ a w', J42 w0 N C T R 1 (2 * m + 1) a w' → K 1 a w') : Code.wp Tryz.prog (labR Tryz.f42.body 2) (jumps K Q) ⟨fx N C u, []⟩ w := by
  obtain ⟨hit, hg, hfu, hff, hf, hx, c1, c2, ⟨n, hl, i, ks, hts, hbj⟩, r1, r2, r3⟩ := h
  obtain ⟨keep, fl, e1, e2, e3, e4, e5⟩ := hbj.is
  rcases e5 with e5 | ⟨g, hg2, _⟩
  rotate_left
  · simp at hg2
  obtain ⟨j, hx1, hj2⟩ := e5
  obtain ⟨c3, hc3, _⟩ := hj2
  have hjl := (List.getElem?_eq_some_iff.1 hc3).1
  have hl1 := hlen _ _ hff
  simp at hjl
  have hffx : ffX C s = ff := by unfold ffX; rw [List.getD_eq_getElem?_getD, hff]; rfl
  have hbx : branchX C s c = { s with ws := s.ws.take (s.base + ff.locals + fl) ++ (if keep = 1 then [s.ws.getD (s.ws.length - 1) 0] else []), pc := j } := by
    unfold branchX
    rw [hffx, e1, hx1]
    unfold packP
    have q1 : ((keep : Int) * 4294967296 + (fl : Int)) % 4294967296 = fl := by omega
    have q2 : ((keep : Int) * 4294967296 + (fl : Int)) / 4294967296 = keep := by omega
    rw [q1, q2, Int.toNat_natCast, Int.toNat_natCast]
    by_cases hk : keep = 1
    · subst hk; rfl
    · rw [if_neg hk, if_neg (by omega)]
  rw [hbx] at hit hg
  rw [hx1] at c1
  rw [e1] at c2
  unfold packP at c2
  refine p42_branch hq hf hx c1 c2 (by omega) e2 e3 r1 (by omega) (by omega) (fun tmps w' hM h19 => ?_)
  exact hK _ _ (mk1 (s := { s with ws := s.ws.take (s.base + ff.locals + fl) ++ (if keep = 1 then [s.ws.getD (s.ws.length - 1) 0] else []), pc := j }) hM h19 hit hg hfu hff)
theorem pass3 (hq : Xq w0 N C T) (hfs : C.fs.length ≤ 8) {K : Nat → Act → World → Prop} (h : At3 w0 w N C T R m u fuel s ff ci) (hK : ∀ a w', J42 w0 N C T R 1 (2 * m + 1) a w' → K 1 a w') (hQ : ∀ tmps w', Fin42 w0 w' N T R tmps → Q .ret ⟨tmps, []⟩ w') : Code.wp Tryz.prog (labR Tryz.f42.body 3) (jumps K Q) ⟨fx N C u, []⟩ w := by
  obtain ⟨hit, hfu, hff, hf, hx, ⟨r1, r2, r3, r4, r5⟩, hfr⟩ := h
  have hffx : ffX C s = ff := by unfold ffX; rw [List.getD_eq_getElem?_getD, hff]; rfl
  unfold leaveX at hit
  rw [hffx] at hit
  dsimp only at hit
  refine p42_leave hq hf hx r1 r2 r3 r4 r5 hfs (fun tmps w' h0 h8 h9 hxr => ?_) (fun tmps w' c cs ff' ci' h0 hf' hM h19 => ?_) hfr
  · rw [h0] at hit
    unfold Goes at hit
    dsimp only at hit
    subst hit
    exact hQ _ _ ⟨h8, h9, _, _, _, hxr, fun _ => rfl⟩
  · rw [h0] at hit
    unfold Goes at hit
    dsimp only at hit
    exact hK _ _ (mk1 (s := ⟨s.ws.take s.base ++ (if ff.results = 1 then [s.ws.getD (s.ws.length - 1) 0] else []), cs, c.fn, c.pc, c.base, s.S, s.H⟩) hM h19 hit.1 hit.2 hfu hf')
theorem pass0 (hq : Xq w0 N C T) (hfs : C.fs.length ≤ 8) {ws : List Nat} {cur : List Fr} {f : Nat} {S : Sm} {H : Hm} {t : Ty} {K : Nat → Act → World → Prop} (h : At0 w0 w N C T R m u fuel ws cur f S H t) (hK : ∀ a w', J42 w0 N C T R 1 (2 * m + 1) a w' → K 1 a w') (hQ : ∀ tmps w', Fin42 w0 w' N T R tmps → Q .ret ⟨tmps, []⟩ w') : Code.wp Tryz.prog (labR Tryz.f42.body 0) (jumps K Q) ⟨fx N C u, []⟩ w := by
  obtain ⟨hit, hfu, hen, hty, hle, henv, hr6, hrw⟩ := h
  have hni := hq.ok.mod.ni
  have hT := typeOf_ok hq.ok.mod hty
  have h120 : ws.length ≤ 120 := by omega
  unfold enterX at hit
  by_cases hi : f < C.M.imports.length
  · rw [if_pos hi, hty] at hit
    dsimp only at hit
    obtain ⟨r, hr⟩ : ∃ r, callH H f (ws.drop (ws.length - t.p.size)) (resT t) (S.bs.length / 64) = r := ⟨_, rfl⟩
    rw [hr] at hit
    have hroom : r.2.1 = 0 → resT t ≠ 0 → ws.length - t.p.size < 120 := by
      intro h0 hrt
      rw [if_neg (by simp [h0])] at hit
      cases hc : cur with
      | nil =>
        have hl0 : cur.length = 0 := by rw [hc]; rfl
        rcases hrw with h | ⟨_, h⟩ <;> omega
      | cons c cs =>
        rw [hc] at hit
        unfold Goes at hit
        dsimp only at hit
        have h1 := hit.2.len
        have h2 := hit.2.dp
        rw [if_neg hrt] at h1
        simp at h1
        dsimp only at h2
        omega
    refine p42_imp hq hen hr6 hi hni hty hT hle h120 hroom henv hr (fun tmps w' h0 h8 h9 hx => ?_) (fun tmps w' hc h0 h8 h9 hx => ?_) (fun tmps w' c cs ff ci hc h0 hff hM h19 => ?_)
    · rw [if_pos h0] at hit
      unfold Goes at hit
      dsimp only at hit
      subst hit
      obtain ⟨ws', fr', hd', hx⟩ := hx
      exact hQ _ _ ⟨h8, h9, _, _, _, hx.take 0, fun _ => rfl⟩
    · rw [if_neg (by simp [h0]), hc] at hit
      unfold Goes at hit
      dsimp only at hit
      subst hit
      exact hQ _ _ ⟨h8, h9, _, _, _, hx, fun _ => rfl⟩
    · rw [if_neg (by simp [h0]), hc] at hit
      unfold Goes at hit
      dsimp only at hit
      exact hK _ _ (mk1 (s := ⟨ws.take (ws.length - t.p.size) ++ (if resT t = 0 then [] else [r.1]), cs, c.fn, c.pc, c.base, S, r.2.2⟩) hM h19 hit.1 hit.2 hfu hff)
  · rw [if_neg hi] at hit
    have hrg := (typeOf_range hty).2
    have hfn : f - C.M.imports.length < C.fs.length := by rw [hq.ok.n]; omega
    obtain ⟨ff, hff⟩ : ∃ ff, C.fs[f - C.M.imports.length]? = some ff := ⟨_, List.getElem?_eq_getElem hfn⟩
    rw [hff] at hit
    dsimp only at hit
    have hft := (hq.ok.f _ _ hff).1
    obtain ⟨t', ht', hp', _⟩ := hft.ty
    have hte : t' = t := by
      have : ((C.M.imports.length + (f - C.M.imports.length) : Nat) : Int) = (f : Int) := by omega
      rw [this, hty] at ht'
      simpa using ht'.symm
    subst hte
    have hle2 := hft.le
    refine p42_own (fn := f - C.M.imports.length) hq hen hr6 (by omega) hni hff hfs ⟨hle2.1, hle2.2.1, hle2.2.2.1⟩ (by omega) (fun _ => by rcases hrw with h | ⟨h, h2⟩ <;> omega) h120 (fun tmps w' h6 h8 h9 hx => ?_) (fun tmps w' ci h5 hM h19 => ?_)
    · rw [if_pos (by omega)] at hit
      unfold Goes at hit
      dsimp only at hit
      subst hit
      obtain ⟨ws', fr', hd', hx⟩ := hx
      exact hQ _ _ ⟨h8, h9, _, _, _, hx.take 0, fun _ => rfl⟩
    · rw [if_neg (by omega)] at hit
      unfold Goes at hit
      dsimp only at hit
      exact hK _ _ (mk1 (s := ⟨ws ++ List.replicate (ff.locals - ff.params) 0, cur, f - C.M.imports.length, 0, ws.length - ff.params, S, H⟩) hM (by rw [h19]; rfl) hit.1 hit.2 hfu hff)
end
end Go.Proofs.Qxb6500275aGreatDoor
