import Derived.Test.Qxb6500275aGreatDoorXzj
import Derived.Test.Qxb6500275aGreatDoorXzk
set_option maxRecDepth 1000000
set_option linter.unusedVariables false
set_option linter.unusedSimpArgs false
namespace Go.Proofs.Qxb6500275aGreatDoor
open Go Go.RowKit
section
variable {w0 w : World} {N : Xn} {C : XC} {T : Nat → Prop} {R : Nat × Xe} {m fuel : Nat} {u : Nat → Value} {s : Xs} {ff : FF} {ci : Nat} {Q : Exit → Act → World → Prop}
def I42 (w0 : World) (N : Xn) (C : XC) (T : Nat → Prop) (R : Nat × Xe) (top n : Nat) (a : Act) (w : World) : Prop := ∃ m u fuel s ff ci, n = 2 * m + 1 ∧ n ≤ top ∧ a = ⟨fx N C u, []⟩ ∧ At1 w0 w N C T R m u fuel s ff ci
/- how a round ends, in the loop -/
theorem ends42 (hq : Xq w0 N C T) {top : Nat} (h : At1 w0 w N C T R m u fuel s ff ci) (htop : 2 * m + 1 ≤ top) {K : Nat → Act → World → Prop} (hK : ∀ l k a w', k < top → J42 w0 N C T R l k a w' → K l a w') {QQ : Exit → Act → World → Prop}
    (q0 : ∀ a w', (∃ k, k < 2 * m + 1 ∧ I42 w0 N C T R top k a w') → QQ .normal a w') (q1 : ∀ l a w', K l a w' → QQ (.goto l) a w') (q2 : ∀ tmps w' f e S H, tmps.size = 629 → tmps.getD 3 undef = .int .i64 (f : Nat) → tmps.getD 18 undef = .int .i64 (e : Nat) → R = (f, ⟨e, [], S, H⟩) → (∃ ws fr hd, Xr w0 w' N T ws fr hd S H) → QQ (.exit 0) ⟨tmps, []⟩ w') : Ends42 w0 N C T fuel s ff ci QQ := by
  obtain ⟨hit, hg, hfu, hff, hf, hu19, hx⟩ := h
  obtain ⟨ff1, ks, hh, hc, hch⟩ := hg.cur
  have hffe : ff1 = ff := by have := hc.fh.at_; rw [hff] at this; simpa using this.symm
  subst hffe
  cases m with
  | zero => simp [iterX] at hit
  | succ m1 =>
    rw [iterX] at hit
    have hlen := hg.len
    have hdp := hg.dp
    have hb := hch.base
    have hle := hc.ft.le
    have hcl := hc.len
    have hct := hc.top
    refine ⟨?_, ?_, ?_, ?_, ?_⟩
    · intro tmps w2 fuel2 ws pc S H hs hM h19
      have hm := (step_more hs).2
      have hg2 := hg.step hq.ok hs
      rw [hs] at hit
      exact q0 _ _ ⟨2 * m1 + 1, by omega, m1, _, fuel2, ⟨ws, s.fr, s.fn, pc, s.base, S, H⟩, ff1, ci, rfl, by omega, by rw [← hM.eq], hit, hg2, by omega, hff, hM.hf, h19, hM.xr⟩
    · intro tmps w2 fuel2 e S H hs h3 h18 hxx hsz
      rw [hs] at hit
      simp at hit
      exact q2 tmps w2 fuel2 e S H hsz h3 h18 hit.symm hxx
    · intro tmps w2 fuel2 ws c hs hM c1 c2 hj hsb
      have hm := (step_more hs).2
      have hg2 := hg.step hq.ok hs
      rw [hs] at hit
      have hsb1 := hsb.1
      exact q1 _ _ _ (hK 2 (2 * m1 + 2) _ _ (by omega) (.inr (.inl ⟨rfl, m1, _, fuel2, ⟨ws, s.fr, s.fn, s.pc + 1, s.base, s.S, s.H⟩, ff1, ci, c, rfl, by rw [← hM.eq], hit, hg2, by omega, hff, hM.hf, hM.xr, c1, c2, hj, by dsimp only; omega, by dsimp only; omega, hle.2.1⟩)))
    · intro tmps w2 fuel2 hs hM hop
      have hgo : Goes C R m1 fuel2 (leaveX C { s with pc := s.pc + 1 }) ∧ fuel2 ≤ fuel := by
        cases hl : leaveX C { s with pc := s.pc + 1 } with
        | ok s2 =>
          rw [hl] at hs
          have hm := (step_more hs).2
          have hg2 := hg.step hq.ok hs
          rw [hs] at hit
          exact ⟨⟨hit, hg2⟩, hm⟩
        | error r =>
          rw [hl] at hs
          have hm := step_le_e hs
          rw [hs] at hit
          simp at hit
          exact ⟨hit.symm, hm⟩
      have hrs : s.base + ff1.results ≤ s.ws.length := by
        obtain ⟨c, hcc, hcx, hffx, h225, hcj⟩ := hc.cell
        have := hcj.ret (by rw [← hcx]; exact hop)
        omega
      refine q1 _ _ _ (hK 3 (2 * m1 + 2) _ _ (by omega) (.inr (.inr (.inl ⟨rfl, m1, _, fuel2, { s with pc := s.pc + 1 }, ff1, ci, rfl, by rw [← hM.eq], hgo.1, by omega, hff, hM.hf, hM.xr, ⟨by dsimp only; omega, by dsimp only; omega, hle.2.2.2, hrs, hdp⟩, ?_⟩))))
      intro c cs hfr
      dsimp only at hfr
      rw [hfr] at hch hdp
      obtain ⟨ff', ks', h', g1, g2, g3, g4, g5, g6⟩ := hch
      have hb2 := g6.base
      simp at hdp
      exact ⟨by omega, ff', g1.at_, g2.le.2.1⟩
    · intro tmps w2 fuel2 ws f hs hM h1 h19 ht hsb
      obtain ⟨t, ht1, ht2⟩ := ht
      have hgo : Goes C R m1 fuel2 (enterX C ws (⟨s.fn, s.pc + 1, s.base⟩ :: s.fr) f s.S s.H) ∧ fuel2 ≤ fuel := by
        cases hl : enterX C ws (⟨s.fn, s.pc + 1, s.base⟩ :: s.fr) f s.S s.H with
        | ok s2 =>
          rw [hl] at hs
          have hm := (step_more hs).2
          have hg2 := hg.step hq.ok hs
          rw [hs] at hit
          exact ⟨⟨hit, hg2⟩, hm⟩
        | error r =>
          rw [hl] at hs
          have hm := step_le_e hs
          rw [hs] at hit
          simp at hit
          exact ⟨hit.symm, hm⟩
      have hsb1 := hsb.1
      have henv := hg.env
      exact q1 _ _ _ (hK 0 (2 * m1 + 2) _ _ (by omega) (.inr (.inr (.inr ⟨rfl, m1, _, fuel2, ws, ⟨s.fn, s.pc + 1, s.base⟩ :: s.fr, f, s.S, s.H, t, rfl, by rw [← hM.eq], hgo.1, by omega, ⟨h1, hM.hf.u2, hM.hf.u3, by rw [hM.hf.u22]; simp, .inr ⟨_, _, ff1, ci, rfl, by rw [h19]; rfl, hM.xr, hM.hf, hff⟩⟩, ht1, ht2, ⟨fun v hv => henv.wd v (hsb.2 v hv), henv.sm, henv.hm, henv.tab, henv.bd⟩, ⟨by simp; omega, .inl (by simp; omega)⟩⟩))))
theorem wp_code {P : Program} {c c' : Code} {QQ : Exit → Act → World → Prop} {a : Act} {w : World} (h : c = c') (hw : c.wp P QQ a w) : c'.wp P QQ a w := h ▸ hw
set_option maxHeartbeats 8000000 in
theorem pass1 (hq : Xq w0 N C T) (hlen : ∀ (k : Nat) (ff : FF), C.fs[k]? = some ff → ff.cells.length ≤ 1000) (hTy : ∀ j : Nat, j < C.M.imports.length + C.M.funcs.length → ∃ t, C.M.typeOf (j : Int) = some t) {K : Nat → Act → World → Prop} (h : At1 w0 w N C T R m u fuel s ff ci) (hK : ∀ l k a w', k < 2 * m + 1 → J42 w0 N C T R l k a w' → K l a w') (hQ : ∀ tmps w', Fin42 w0 w' N T R tmps → Q .ret ⟨tmps, []⟩ w') : Code.wp Tryz.prog (labR Tryz.f42.body 1) (jumps K Q) ⟨fx N C u, []⟩ w := by
  have H : Hid _ := h
  have HK : Hid _ := hK
  have HQ : Hid _ := hQ
  have HQQ : Hid _ := hq
  have HL : Hid _ := hlen
  have HT : Hid _ := hTy
  clear h hK hQ hq hlen hTy
  obtain ⟨A, hA⟩ : ∃ A : Act, (⟨fx N C u, []⟩ : Act) = A := ⟨_, rfl⟩
  have HA : Hid _ := hA
  rw [hA]
  clear hA
  conv => arg 2; whnf
  repeat (first | (with_reducible refine xt_exit ?_) | (with_reducible refine xt_normal ?_) | (with_reducible refine xb_normal ?_) | (with_reducible refine xb_eq ?_) | (with_reducible refine xb_ne ?_ ?_; · decide) | (with_reducible refine xt_goto ?_) | (with_reducible refine xb_goto ?_) | go_values | go_skip | go_guarded | go_step | go_step3 | go_upon)
  refine wp_loop_n (I42 w0 N C T R (2 * m + 1)) ?_ (2 * m + 1) ⟨m, u, fuel, s, ff, ci, rfl, Nat.le_refl _, HA.out.symm, H.out⟩
  rintro n a w' ⟨m', u', fuel', s', ff', ci', rfl, hle, rfl, h'⟩
  obtain ⟨ff1, ks, hh, hc, hch⟩ := h'.gd.cur
  have hffe : ff1 = ff' := by have := hc.fh.at_; rw [h'.hff] at this; simpa using this.symm
  subst hffe
  obtain ⟨c, hcc, hcx, hffx, h225, hcj⟩ := hc.cell
  refine wp_code (c := ((Tryz.f42.body.bind firstLoop).getD .skip)) (by kernel_rfl) ?_
  refine case_all HT.out h225 fuel' w' u' _ ff1 ci' ks hh HQQ.out h'.gd hc hcx hcc hcj h'.hf h'.u19 h'.x h'.fu (HL.out _ _ h'.hff) (ends42 HQQ.out h' hle HK.out ?_ ?_ ?_)
  · intro a w2 hk
    exact xt_normal hk
  · intro l a w2 hk
    exact xt_goto (xb_goto (xt_goto hk))
  · intro tmps w2 f e S9 H9 hsz h3 h18 hR hx
    refine xt_exit (xb_eq (xt_normal ?_))
    repeat (first | (with_reducible refine xt_exit ?_) | (with_reducible refine xt_normal ?_) | (with_reducible refine xb_normal ?_) | (with_reducible refine xb_eq ?_) | (with_reducible refine xb_ne ?_ ?_; · decide) | (with_reducible refine xt_goto ?_) | (with_reducible refine xb_goto ?_) | go_values | go_skip | go_guarded | go_step | go_step3 | go_upon)
    subst hR
    have h18' : tmps[18] = .int .i64 (e : Int) := by
      rw [Array.getD_eq_getD_getElem?, Array.getElem?_eq_getElem (by omega)] at h18
      exact h18
    refine HQ.out _ _ ⟨?_, ?_, ?_⟩
    · simp [Array.getD_eq_getD_getElem?, Array.getElem?_setIfInBounds, hsz]
    · simp [Array.getD_eq_getD_getElem?, Array.getElem?_setIfInBounds, hsz, h18']
    · obtain ⟨ws, fr, hd, hx⟩ := hx
      exact ⟨_, fr, hd, hx.take 0, fun _ => rfl⟩
end
end Go.Proofs.Qxb6500275aGreatDoor
