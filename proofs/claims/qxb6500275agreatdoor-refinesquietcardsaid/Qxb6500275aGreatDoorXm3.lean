import Derived.Test.Qxb6500275aGreatDoorXm2
set_option linter.unusedVariables false
set_option linter.unusedSimpArgs false
set_option maxRecDepth 100000
namespace Go.Proofs.Qxb6500275aGreatDoor
open Go Go.RowKit
theorem ws1 {s : Xs} {L : List Nat} {x : Nat} (h : s.ws = L ++ [x]) : s.topW = x ∧ s.pop 1 = L ∧ ∀ y, s.ws.set (s.ws.length - 1) y = L ++ [y] := by
  unfold Xs.topW Xs.pop
  rw [h]
  refine ⟨?_, ?_, fun y => ?_⟩
  · rw [List.getD_eq_getElem?_getD]; simp
  · simp
  · rw [List.length_append, List.length_singleton, Nat.add_sub_cancel, List.set_append_right _ _ (by simp)]
    simp
theorem ws2 {s : Xs} {L : List Nat} {a b : Nat} (h : s.ws = L ++ [a, b]) : s.topW = b ∧ s.pop 1 = L ++ [a] ∧ s.pop 2 = L ∧ s.ws.getD (s.ws.length - 2) 0 = a ∧ ∀ y, (s.ws.set (s.ws.length - 2) y).take (s.ws.length - 1) = L ++ [y] := by
  unfold Xs.topW Xs.pop
  rw [h]
  have e : (L ++ [a, b]).length = L.length + 2 := by simp
  rw [e]
  refine ⟨?_, ?_, ?_, ?_, fun y => ?_⟩
  · rw [List.getD_eq_getElem?_getD, List.getElem?_append_right (by omega), show L.length + 2 - 1 - L.length = 1 by omega]; rfl
  · rw [List.take_append, List.take_of_length_le (by omega), show L.length + 2 - 1 - L.length = 1 by omega]; rfl
  · rw [Nat.add_sub_cancel, List.take_append, List.take_of_length_le (by omega), Nat.sub_self]; simp
  · rw [Nat.add_sub_cancel, List.getD_eq_getElem?_getD, List.getElem?_append_right (by omega), Nat.sub_self]; rfl
  · rw [Nat.add_sub_cancel, List.set_append_right _ _ (by omega), Nat.sub_self, List.take_append, List.take_of_length_le (by omega), show L.length + 2 - 1 - L.length = 1 by omega]; rfl
theorem ws3 {s : Xs} {L : List Nat} {a b c : Nat} (h : s.ws = L ++ [a, b, c]) : s.topW = c ∧ s.ws.getD (s.ws.length - 2) 0 = b ∧ (if c = 0 then s.ws.set (s.ws.length - 3) b else s.ws).take (s.ws.length - 2) = L ++ [if c = 0 then b else a] := by
  unfold Xs.topW
  rw [h]
  have e : (L ++ [a, b, c]).length = L.length + 3 := by simp
  rw [e]
  refine ⟨?_, ?_, ?_⟩
  · rw [List.getD_eq_getElem?_getD, List.getElem?_append_right (by omega), show L.length + 3 - 1 - L.length = 2 by omega]; rfl
  · rw [List.getD_eq_getElem?_getD, List.getElem?_append_right (by omega), show L.length + 3 - 2 - L.length = 1 by omega]; rfl
  · split
    · rw [Nat.add_sub_cancel, List.set_append_right _ _ (by omega), Nat.sub_self, List.take_append, List.take_of_length_le (by omega), show L.length + 3 - 2 - L.length = 1 by omega]; rfl
    · rw [List.take_append, List.take_of_length_le (by omega), show L.length + 3 - 2 - L.length = 1 by omega]; rfl
section
variable {C : XC} {t0 : Ty} {q : MQ} {p : Nat × Xs} {r : MF} {rest : List MF} {k : Nat} {fn : Fn} {t : Ty} {cells : List Ins} {below : List Nat} {aw : List Nat}
/- a plain instruction: it goes on, or it traps -/
theorem RelX.plain (h : RelX C t0 q p r rest k fn t cells below) (ho : ¬ (2 ≤ (opAt fn r.pc).op ∧ (opAt fn r.pc).op ≤ 5 ∨ 11 ≤ (opAt fn r.pc).op ∧ (opAt fn r.pc).op ≤ 15))
    (hd : ∀ n, p.1 = n + 1 → ∃ m, deedM C.num C.M fn ⟨{ r with pc := r.pc + 1 } :: rest, n, p.2.S, p.2.H⟩ (opAt fn r.pc) = some m ∧ Post C t0 n (coreX C { p.2 with pc := p.2.pc + 1 } (opAt fn r.pc)) m) : Sim1 C t0 q p := by
  have hlay := h.fz.tw.lay_plain h.at_.lt h.at_.lv ho
  have hop := h.opR.op
  unfold opOk at hop
  refine h.cost (by omega) hlay.1 ?_ (fun n hn => ?_)
  · unfold free
    rw [decide_eq_false_iff_not]
    omega
  · obtain ⟨m, h1, h2⟩ := hd n hn
    refine ⟨m, ?_, h2⟩
    rw [← h1]
    unfold MQ.top
    rw [h.fr, h.S, h.H]
    rfl
/- it goes on -/
theorem RelX.goes (h : RelX C t0 q p r rest k fn t cells below) (ho : ¬ (2 ≤ (opAt fn r.pc).op ∧ (opAt fn r.pc).op ≤ 5 ∨ 11 ≤ (opAt fn r.pc).op ∧ (opAt fn r.pc).op ≤ 15)) {n : Nat} {loc' ops' : List MV} {S' : Sm} {H' : Hm} {m : Nat × MQ} {X : XR}
    (hm : m = (0, ⟨{ r with pc := r.pc + 1, loc := loc', ops := ops' } :: rest, n, S', H'⟩)) (hX : X = .ok { p.2 with ws := below ++ bitsM loc' ++ bitsM ops', pc := p.2.pc + 1, S := S', H := H' })
    (hct : (vsAt C.M fn t (r.pc + 1)).ctl = (vsAt C.M fn t r.pc).ctl) (hty : (vsAt C.M fn t (r.pc + 1)).ops = (ops'.map MV.t).reverse) (hloc : loc'.map MV.t = r.loc.map MV.t) (hok : ∀ v, v ∈ loc' ∨ v ∈ ops' → VOk v) (hg : GlOk C.M S') : Post C t0 n X m := by
  subst hm hX
  exact ⟨rfl, h.next ho hct hty hloc hok hg⟩
theorem RelX.gl2 (h : RelX C t0 q p r rest k fn t cells below) : GlOk C.M p.2.S := by rw [← h.S]; exact h.gl
theorem RelX.traps (h : RelX C t0 q p r rest k fn t cells below) {n e : Nat} {m : Nat × MQ} {X : XR} {s : Xs} {fr : List MF} (he : e ≠ 0) (hm : m = (e, ⟨fr, n, p.2.S, p.2.H⟩)) (hX : X = trapX s e) (hS : s.S = p.2.S) (hH : s.H = p.2.H) : Post C t0 n X m := by
  subst hm hX
  exact ⟨rfl, rfl, hS.symm, hH.symm, h.gl2, fun e0 => absurd e0 he⟩
set_option maxHeartbeats 1000000 in
theorem RelX.nop (h : RelX C t0 q p r rest k fn t cells below) (ho : (opAt fn r.pc).op = 1) : Sim1 C t0 q p := by
  have hs := (h.fz.tw.at_ r.pc h.at_.lt).v (h.nlt (by omega))
  unfold stepV at hs
  rw [if_pos ho] at hs
  simp at hs
  refine h.plain (by omega) (fun n hn => ⟨_, by unfold deedM; rw [ho]; dsimp only; rw [if_neg (by omega), if_pos rfl], ?_⟩)
  refine h.goes (loc' := r.loc) (ops' := r.ops) (by omega) rfl ?_ (by rw [← hs]) ?_ rfl h.at_.ok h.gl2
  · unfold coreX
    rw [ho, if_neg (by omega), if_pos rfl]
    rw [← h.ws]
  · rw [← hs]
    exact h.at_.ops
set_option maxHeartbeats 1000000 in
theorem RelX.unr (h : RelX C t0 q p r rest k fn t cells below) (ho : (opAt fn r.pc).op = 0) : Sim1 C t0 q p := by
  refine h.plain (by omega) (fun n hn => ⟨_, by unfold deedM; rw [ho]; dsimp only; rw [if_pos rfl], ?_⟩)
  refine h.traps (e := 38) (s := { p.2 with pc := p.2.pc + 1 }) (by omega) rfl ?_ rfl rfl
  unfold coreX
  rw [ho, if_pos rfl]
set_option maxHeartbeats 1000000 in
theorem RelX.drop (h : RelX C t0 q p r rest k fn t cells below) (ho : (opAt fn r.pc).op = 26) : Sim1 C t0 q p := by
  obtain ⟨f, rr, hc, hf, hdd, hfl, hz, hops⟩ := h.vst
  have hst := h.stepv (by omega)
  have hpl : plainV C.M t.p fn.locals (vsAt C.M fn t r.pc) (opAt fn r.pc) = ((popV (vsAt C.M fn t r.pc) 0).1, 64, typedV (popV (vsAt C.M fn t r.pc) 0).2.2) := by unfold plainV; rw [if_neg (by omega), if_pos ho]
  rw [hpl] at hst
  obtain ⟨g0, g1, g2, g3⟩ := give_ty hst
  dsimp only at g0 g1 g2 g3
  obtain ⟨a, rs, e1, e2, e3, e4, _⟩ := pop_ty hc hf hdd (typedV0 g0) hz
  rw [e2] at g1 g2
  rw [hops] at e1
  obtain ⟨l0, v, hl, hv, hr⟩ := snoc_of e1
  have hpop : popM { r with pc := r.pc + 1 } 0 = some (v, { r with pc := r.pc + 1, ops := l0 }) := popM_snoc hl (by show r.floor ≤ _; rw [hfl]; rw [hr] at e4; simpa using e4) (.inl rfl)
  refine h.plain (by omega) (fun n hn => ⟨_, by unfold deedM; rw [ho]; dsimp only; repeat (first | rw [if_neg (by omega)] | rw [if_pos (by omega)]); rw [hpop]; rfl, ?_⟩)
  have hw := ws1 (s := { p.2 with pc := p.2.pc + 1 }) (L := below ++ bitsM r.loc ++ bitsM l0) (x := v.b) (by show p.2.ws = _; rw [h.ws, hl, bitsM_app]; simp [bitsM])
  refine h.goes (loc' := r.loc) (ops' := l0) (by omega) rfl ?_ g1 (by rw [g2, if_pos rfl, ← hr]; rfl) rfl (fun v hv => h.at_.ok v (by rw [hl]; rcases hv with hv | hv; exact .inl hv; exact .inr (List.mem_append_left _ hv))) h.gl2
  unfold coreX
  rw [ho]
  repeat (first | rw [if_neg (by omega)] | rw [if_pos (by omega)])
  rw [hw.2.1]
end
end Go.Proofs.Qxb6500275aGreatDoor
