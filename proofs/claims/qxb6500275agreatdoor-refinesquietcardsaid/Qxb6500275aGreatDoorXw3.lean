import Derived.Test.Qxb6500275aGreatDoorXw2
set_option maxRecDepth 1000000
set_option linter.unusedVariables false
set_option linter.unusedSimpArgs false
namespace Go.Proofs.Qxb6500275aGreatDoor
open Go Go.RowKit
/- amid run: the slots and the memory, all but the place -/
structure Mid (w0 w : World) (N : Xn) (C : XC) (T : Nat → Prop) (tmps : Array Value) (fuel : Nat) (ws : List Nat) (fr : List Fr) (fn base : Nat) (S : Sm) (H : Hm) (ff : FF) (ci : Nat) : Prop where
  eq : tmps = fx N C (fun i => tmps.getD i undef)
  hf : Hf w0 N C (fun i => tmps.getD i undef) fuel ws.length base fn fr.length ff ci
  xr : Xr w0 w N T ws fr (some (fn, base)) S H
/- some of the words -/
def Sb (a b : List Nat) : Prop := a.length ≤ b.length ∧ ∀ v, v ∈ a → v ∈ b
theorem Sb.refl (a : List Nat) : Sb a a := ⟨Nat.le_refl _, fun _ h => h⟩
theorem Sb.take (a : List Nat) (n : Nat) : Sb (a.take n) a := ⟨List.length_take_le' _ _, fun _ h => List.mem_of_mem_take h⟩
/- how a round may end -/
structure Ends42 (w0 : World) (N : Xn) (C : XC) (T : Nat → Prop) (fuel : Nat) (s : Xs) (ff : FF) (ci : Nat) (Q : Exit → Act → World → Prop) : Prop where
  next : ∀ tmps w fuel' ws pc S H, stepX C (fuel, s) = .ok (fuel', ⟨ws, s.fr, s.fn, pc, s.base, S, H⟩) → Mid w0 w N C T tmps fuel' ws s.fr s.fn s.base S H ff ci → tmps.getD 19 undef = .int .i64 pc → Q .normal ⟨tmps, []⟩ w
  trap : ∀ tmps w fuel' e S H, stepX C (fuel, s) = .error (fuel', ⟨e, [], S, H⟩) → tmps.getD 3 undef = .int .i64 fuel' → tmps.getD 18 undef = .int .i64 e → (∃ ws fr hd, Xr w0 w N T ws fr hd S H) → ∀ (_ : tmps.size = 629 := by kernel_rfl), Q (.exit 0) ⟨tmps, []⟩ w
  br : ∀ tmps w fuel' ws c, stepX C (fuel, s) = .ok (fuel', branchX C ⟨ws, s.fr, s.fn, s.pc + 1, s.base, s.S, s.H⟩ c) → Mid w0 w N C T tmps fuel' ws s.fr s.fn s.base s.S s.H ff ci → w.cell? ⟨N.cb, 1, none⟩ = some (.int .u32 c.x) → w.cell? ⟨N.cb, 2, none⟩ = some (.int .u64 c.y) → (∃ n, ws.length = s.base + ff.locals + n ∧ ∃ i ks, Hts C.M ff.locals ff.results (Ins.zero :: ff.cells) ks ∧ BrJ (Ato (Ins.zero :: ff.cells) ks) [] i c n) → ∀ (_ : Sb ws s.ws := by first | exact Sb.refl _ | exact Sb.take _ _), Q (.goto 2) ⟨tmps, []⟩ w
  leave : ∀ tmps w fuel', stepX C (fuel, s) = (match leaveX C { s with pc := s.pc + 1 } with | .ok s' => .ok (fuel', s') | .error r => .error (fuel', r)) → Mid w0 w N C T tmps fuel' s.ws s.fr s.fn s.base s.S s.H ff ci → ((cellX C s).op = 15 ∨ (cellX C s).op = 11) → Q (.goto 3) ⟨tmps, []⟩ w
  enter : ∀ tmps w fuel' ws f, stepX C (fuel, s) = (match enterX C ws (⟨s.fn, s.pc + 1, s.base⟩ :: s.fr) f s.S s.H with | .ok s' => .ok (fuel', s') | .error r => .error (fuel', r)) → Mid w0 w N C T tmps fuel' ws s.fr s.fn s.base s.S s.H ff ci → tmps.getD 1 undef = .int .i64 f → tmps.getD 19 undef = .int .i64 ((s.pc : Int) + 1) → (∃ t, C.M.typeOf (f : Int) = some t ∧ t.p.size ≤ ws.length) → ∀ (_ : Sb ws s.ws := by first | exact Sb.refl _ | exact Sb.take _ _), Q (.goto 0) ⟨tmps, []⟩ w
/- a round, at cell c -/
def Case42 (w0 : World) (N : Xn) (C : XC) (T : Nat → Prop) (s : Xs) (c : Ins) : Prop :=
  ∀ (fuel : Nat) (w : World) (u : Nat → Value) (Q : Exit → Act → World → Prop) (ff : FF) (ci : Nat) (ks : List Nat) (h : Nat), Xq w0 N C T → Gd C s → Cur C s.ws s.fn s.pc s.base ff ks h → cellX C s = c → ff.cells[s.pc]? = some c →
    CJ C.M ff.locals ff.results (Ato (Ins.zero :: ff.cells) ks) (Ent (Ins.zero :: ff.cells) ks) [] (s.pc + 1) c h →
    Hf w0 N C u fuel s.ws.length s.base s.fn s.fr.length ff ci → u 19 = .int .i64 s.pc → Xr w0 w N T s.ws s.fr (some (s.fn, s.base)) s.S s.H → fuel < 9223372036854775808 → ff.cells.length ≤ 1000 →
    Ends42 w0 N C T fuel s ff ci Q → Code.wp Tryz.prog ((Tryz.f42.body.bind firstLoop).getD .skip) Q ⟨fx N C u, []⟩ w
/- the round's head, laid out -/
structure R42 (w0 w : World) (N : Xn) (C : XC) (T : Nat → Prop) (s : Xs) (c : Ins) (ff : FF) (ci n sp h : Nat) : Prop where
  d0 : w.cell? ⟨ci, s.pc * 3, none⟩ = some (.int .u8 c.op)
  d1 : w.cell? ⟨ci, s.pc * 3 + 1, none⟩ = some (.int .u32 c.x)
  d2 : w.cell? ⟨ci, s.pc * 3 + 2, none⟩ = some (.int .u64 c.y)
  hpc : (s.pc : Int) < (n : Int)
  hn : ff.cells.length = n
  hn1 : n ≤ 1000
  b0 : ∃ v, w.cell? ⟨N.cb, 0, none⟩ = some v
  b1 : ∃ v, w.cell? ⟨N.cb, 1, none⟩ = some v
  b2 : ∃ v, w.cell? ⟨N.cb, 2, none⟩ = some v
  g0 : w.frozen? ⟨N.cb, 0, none⟩ = false
  g1 : w.frozen? ⟨N.cb, 1, none⟩ = false
  g2 : w.frozen? ⟨N.cb, 2, none⟩ = false
  spe : s.ws.length = sp
  sl : sp = s.base + ff.locals + h
  s120 : sp ≤ 120
  h10 : h ≤ 10
  l10 : ff.locals ≤ 10
  b100 : s.base ≤ 100
  d5 : s.fr.length ≤ 5
section
variable {w0 w : World} {N : Xn} {C : XC} {T : Nat → Prop} {s : Xs} {c : Ins} {ff : FF} {ci h fuel : Nat} {ks : List Nat} {u : Nat → Value}
theorem r42 (hq : Xq w0 N C T) (hG : Gd C s) (hc : Cur C s.ws s.fn s.pc s.base ff ks h) (hcc : ff.cells[s.pc]? = some c) (hf : Hf w0 N C u fuel s.ws.length s.base s.fn s.fr.length ff ci) (hx : Xr w0 w N T s.ws s.fr (some (s.fn, s.base)) s.S s.H) (h1000 : ff.cells.length ≤ 1000) : ∃ n sp, R42 w0 w N C T s c ff ci n sp h := by
  have hk := hx.kf hq hf.kf
  obtain ⟨d0, d1, d2⟩ := hk.cs s.pc c hcc
  have hpl := (List.getElem?_eq_some_iff.1 hcc).1
  obtain ⟨b0, g0⟩ := hx.cbz 0 (by decide)
  obtain ⟨b1, g1⟩ := hx.cbz 1 (by decide)
  obtain ⟨b2, g2⟩ := hx.cbz 2 (by decide)
  have hd := hG.dp
  obtain ⟨ff', ks', h', hc', hch⟩ := hG.cur
  have hb := hch.base
  have hl := hc.ft.le
  have h1 := hc.len
  have h2 := hc.top
  exact ⟨_, _, d0, d1, d2, by omega, rfl, h1000, b0, b1, b2, g0, g1, g2, rfl, h1, by omega, h2, hl.2.1, by omega, hd⟩
/- a middle state out of the slots -/
theorem mid {tmps : Array Value} {ws : List Nat} {fr : List Fr} {fn base n : Nat} {S : Sm} {H : Hm} (y z : Int) (heq : tmps = fx N C (fun i => tmps.getD i undef)) (h2 : tmps.getD 2 undef = .int .i64 z) (h3 : tmps.getD 3 undef = .int .i64 y) (h12 : tmps.getD 12 undef = .slice (some ⟨ci, 0, none⟩) n n) (h13 : tmps.getD 13 undef = .pointer (some ⟨N.kk, fn * 4, none⟩)) (h20 : tmps.getD 20 undef = .int .i64 (base : Int)) (h21 : tmps.getD 21 undef = .int .i64 ((base : Int) + (ff.locals : Int))) (h22 : tmps.getD 22 undef = .int .i64 (fr.length : Int))
    (hy : y = (fuel : Int)) (hz : z = (ws.length : Int)) (hn : ff.cells.length = n) (kf : Kf w0 N.lo N.kk ci fn ff) (xr : Xr w0 w N T ws fr (some (fn, base)) S H) : Mid w0 w N C T tmps fuel ws fr fn base S H ff ci :=
  ⟨heq, ⟨by rw [h2, hz], by rw [h3, hy], by rw [h12, hn], h13, h20, h21, h22, kf⟩, xr⟩
theorem Ends42.trap' {Q : Exit → Act → World → Prop} (hE : Ends42 w0 N C T fuel s ff ci Q) {tmps : Array Value} {f e : Nat} {S : Sm} {H : Hm} (y z : Int) (hs : stepX C (fuel, s) = .error (f, ⟨e, [], S, H⟩)) (h3 : tmps.getD 3 undef = .int .i64 y) (h18 : tmps.getD 18 undef = .int .i64 z) (hy : y = (f : Int)) (hz : z = (e : Int)) (hx : ∃ ws fr hd, Xr w0 w N T ws fr hd S H) (hsz : tmps.size = 629 := by kernel_rfl) : Q (.exit 0) ⟨tmps, []⟩ w :=
  hE.trap _ _ f e S H hs (by rw [h3, hy]) (by rw [h18, hz]) hx hsz
/- fuel and the cell's kind -/
theorem step_cost (hcx : cellX C s = c) (hfree : free c.op = false) {f : Nat} : stepX C (f + 1, s) = (match coreX C { s with pc := s.pc + 1 } c with | .ok s' => .ok (f, s') | .error r => .error (f, r)) := by
  unfold stepX
  dsimp only
  rw [hcx, hfree, if_neg (by simp), if_neg (by omega), Nat.add_sub_cancel]
  cases coreX C { s with pc := s.pc + 1 } c <;> rfl
theorem step_free (hcx : cellX C s = c) (hfree : free c.op = true) {f : Nat} : stepX C (f, s) = (match coreX C { s with pc := s.pc + 1 } c with | .ok s' => .ok (f, s') | .error r => .error (f, r)) := by
  unfold stepX
  dsimp only
  rw [hcx, hfree, if_pos rfl]
  cases coreX C { s with pc := s.pc + 1 } c <;> rfl
theorem step_dry (hcx : cellX C s = c) (hfree : free c.op = false) : stepX C (0, s) = .error (0, ⟨46, [], s.S, s.H⟩) := by
  unfold stepX
  dsimp only
  rw [hcx, hfree, if_neg (by simp), if_pos rfl]
end
/- a local's place -/
theorem locx {b n : Nat} (h : b + n < 120) : ¬ ((b : Int) + (n : Int) < 0) ∧ (b : Int) + (n : Int) < 120 ∧ ((b : Int) + (n : Int)).toNat = b + n ∧ wrap64 ((b : Int) + (n : Int)) = (b : Int) + (n : Int) := by
  refine ⟨by omega, by omega, by omega, by unfold wrap64; omega⟩
theorem pushx {sp : Nat} (h : sp < 120) : (sp : Int) < 120 ∧ ¬ ((sp : Int) < 0) ∧ wrap64 ((sp : Int) + 1) = (sp : Int) + 1 := by
  refine ⟨by omega, by omega, by unfold wrap64; omega⟩
theorem popx {sp : Nat} (h : 1 ≤ sp) (h2 : sp ≤ 120) : ((sp : Int) - 1).toNat = sp - 1 ∧ wrap64 ((sp : Int) - 1) = (sp : Int) - 1 ∧ ¬ ((sp : Int) - 1 < 0) ∧ (sp : Int) - 1 < 120 := by
  refine ⟨by omega, by unfold wrap64; omega, by omega, by omega⟩
theorem popx2 {sp : Nat} (h : 2 ≤ sp) (h2 : sp ≤ 120) : ((sp : Int) - 2).toNat = sp - 2 ∧ wrap64 ((sp : Int) - 2) = (sp : Int) - 2 ∧ ¬ ((sp : Int) - 2 < 0) ∧ (sp : Int) - 2 < 120 ∧ (sp : Int) - 2 + 1 = (sp : Int) - 1 ∧ (sp : Int) - 1 - 1 = (sp : Int) - 2 := by
  refine ⟨by omega, by unfold wrap64; omega, by omega, by omega, by omega, by omega⟩
theorem popx3 {sp : Nat} (h : 3 ≤ sp) (h2 : sp ≤ 120) : ((sp : Int) - 3).toNat = sp - 3 ∧ wrap64 ((sp : Int) - 3) = (sp : Int) - 3 ∧ ¬ ((sp : Int) - 3 < 0) ∧ (sp : Int) - 3 < 120 ∧ (sp : Int) - 2 - 1 = (sp : Int) - 3 := by
  refine ⟨by omega, by unfold wrap64; omega, by omega, by omega, by omega⟩
theorem kb_cb {w0 : World} {N : Xn} {C : XC} {T : Nat → Prop} (hq : Xq w0 N C T) : N.kb ≠ N.cb ∧ N.kb ≠ N.gb ∧ N.kb ≠ N.qb := by
  have h1 := hq.fix (k := N.kb) (.inl (.inr (.inl rfl)))
  have h2 := hq.lo
  have h3 := hq.new
  omega
theorem dryx {fuel : Nat} (h : ¬ fuel = 0) (hf : fuel < 9223372036854775808) : ∃ f : Nat, fuel = f + 1 ∧ ((fuel : Int) == 0) = false ∧ wrap64 ((fuel : Int) - 1) = (f : Int) := by
  refine ⟨fuel - 1, by omega, by simp; omega, by unfold wrap64; omega⟩
theorem len_t1 {ws : List Nat} {sp : Nat} (h : ws.length = sp) (h1 : 1 ≤ sp) : (sp : Int) - 1 = ((ws.take (ws.length - 1)).length : Int) := by
  rw [List.length_take]; omega
theorem len_t2 {ws : List Nat} {sp : Nat} (h : ws.length = sp) (h1 : 2 ≤ sp) : (sp : Int) - 2 = ((ws.take (ws.length - 2)).length : Int) := by
  rw [List.length_take]; omega
/- the cell at work -/
theorem cb3 {w : World} {b : Nat} {v0 v1 v2 a c d : Value} (h1 : w.cell? ⟨b, 1, none⟩ = some v1) (h2 : w.cell? ⟨b, 2, none⟩ = some v2) : (((w.setCell ⟨b, 0, none⟩ a).setCell ⟨b, 1, none⟩ c).setCell ⟨b, 2, none⟩ d).cell? ⟨b, 1, none⟩ = some c ∧ (((w.setCell ⟨b, 0, none⟩ a).setCell ⟨b, 1, none⟩ c).setCell ⟨b, 2, none⟩ d).cell? ⟨b, 2, none⟩ = some d := by
  have e1 : (w.setCell ⟨b, 0, none⟩ a).cell? ⟨b, 1, none⟩ = some v1 := by rw [World.cell?_setCell_other _ _ _ _ (by simp)]; exact h1
  have e2 : ((w.setCell ⟨b, 0, none⟩ a).setCell ⟨b, 1, none⟩ c).cell? ⟨b, 2, none⟩ = some v2 := by rw [World.cell?_setCell_other _ _ _ _ (by simp), World.cell?_setCell_other _ _ _ _ (by simp)]; exact h2
  refine ⟨?_, World.cell?_setCell_same _ _ _ e2⟩
  rw [World.cell?_setCell_other _ _ _ _ (by simp)]
  exact World.cell?_setCell_same _ _ _ e1
theorem kb3 {w : World} {b k i : Nat} {v a c d : Value} (hne : k ≠ b) (h : w.cell? ⟨k, i, none⟩ = some v) : (((w.setCell ⟨b, 0, none⟩ a).setCell ⟨b, 1, none⟩ c).setCell ⟨b, 2, none⟩ d).cell? ⟨k, i, none⟩ = some v := by
  rw [World.cell?_setCell_other _ _ _ _ (by simp [hne]), World.cell?_setCell_other _ _ _ _ (by simp [hne]), World.cell?_setCell_other _ _ _ _ (by simp [hne])]
  exact h
theorem iwr {z : Int} (h : -9223372036854775808 ≤ z) (h2 : z < 9223372036854775808) : IntKind.i64.wrap z = z := by
  simp [IntKind.wrap, IntKind.bits, IntKind.signed]
  omega
/- out of the blocks, step by step -/
section
variable {K : Act → World → Prop} {Q : Exit → Act → World → Prop} {a : Act} {w : World} {i b l : Nat}
theorem xt_normal (h : K a w) : Exit.then K Q .normal a w := h
theorem xb_normal (h : Q .normal a w) : Exit.inBlock b Q .normal a w := h
theorem xt_exit (h : Q (.exit i) a w) : Exit.then K Q (.exit i) a w := h
theorem xt_goto (h : Q (.goto l) a w) : Exit.then K Q (.goto l) a w := h
theorem xb_goto (h : Q (.goto l) a w) : Exit.inBlock b Q (.goto l) a w := h
theorem xb_ne (hn : i ≠ b) (h : Q (.exit i) a w) : Exit.inBlock b Q (.exit i) a w := by
  unfold Exit.inBlock
  simp only [if_neg hn]
  exact h
theorem xb_eq (h : Q .normal a w) : Exit.inBlock b Q (.exit b) a w := by
  unfold Exit.inBlock
  simp only [if_true]
  exact h
end
end Go.Proofs.Qxb6500275aGreatDoor
