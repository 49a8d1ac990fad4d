import Derived.Test.Qxb6500275aGreatDoorXm5
set_option linter.unusedVariables false
set_option linter.unusedSimpArgs false
set_option maxRecDepth 100000
namespace Go.Proofs.Qxb6500275aGreatDoor
open Go Go.RowKit
theorem numSig_argv : ∀ op : Nat, op < 192 → 69 ≤ op → isVal (numSig op).2.1 := by
  have h : ∀ op : Nat, op < 192 → 69 ≤ op → ((numSig op).2.1 = 127 ∨ (numSig op).2.1 = 126 ∨ (numSig op).2.1 = 125 ∨ (numSig op).2.1 = 124) := by decide +kernel
  exact h
theorem numSig_resv : ∀ op : Nat, op < 192 → 69 ≤ op → isVal (numSig op).2.2 := by
  have h : ∀ op : Nat, op < 192 → 69 ≤ op → ((numSig op).2.2 = 127 ∨ (numSig op).2.2 = 126 ∨ (numSig op).2.2 = 125 ∨ (numSig op).2.2 = 124) := by decide +kernel
  exact h
section
variable {C : XC} {t0 : Ty} {q : MQ} {p : Nat × Xs} {r : MF} {rest : List MF} {k : Nat} {fn : Fn} {t : Ty} {cells : List Ins} {below : List Nat} {aw : List Nat}
set_option maxHeartbeats 1000000 in
theorem RelX.num1 (h : RelX C t0 q p r rest k fn t cells below) (ho : 69 ≤ (opAt fn r.pc).op ∧ (opAt fn r.pc).op ≤ 191) (h69 : (opAt fn r.pc).op ≠ 69) (h106 : (opAt fn r.pc).op ≠ 106) (htw : twoS (opAt fn r.pc).op = false) (hN : NumX C.num) : Sim1 C t0 q p := by
  obtain ⟨f, rr, hc, hf, hdd, hfl, hz, hops⟩ := h.vst
  have hst := h.stepv (by omega)
  have hns := numSig_val (opAt fn r.pc).op (by omega) (by omega)
  have hna := numSig_arg (opAt fn r.pc).op (by omega) (by omega)
  have hn2 := numSig_two (opAt fn r.pc).op (by omega) (by omega)
  rw [if_neg (by rw [htw]; decide)] at hn2
  have hav : isVal (numSig (opAt fn r.pc).op).2.1 := numSig_argv (opAt fn r.pc).op (by omega) (by omega)
  have hrv : isVal (numSig (opAt fn r.pc).op).2.2 := numSig_resv (opAt fn r.pc).op (by omega) (by omega)
  have hpl : plainV C.M t.p fn.locals (vsAt C.M fn t r.pc) (opAt fn r.pc) = ((carryV (vsAt C.M fn t r.pc) (numSig (opAt fn r.pc).op).2.1).1, (numSig (opAt fn r.pc).op).2.2, typedV (carryV (vsAt C.M fn t r.pc) (numSig (opAt fn r.pc).op).2.1).2) := by
    unfold plainV; rw [if_neg (show ¬ ((opAt fn r.pc).op = 16 ∨ (opAt fn r.pc).op = 17) by omega), if_neg (show ¬ ((opAt fn r.pc).op = 26) by omega), if_neg (show ¬ ((opAt fn r.pc).op = 27) by omega), if_neg (show ¬ (32 ≤ (opAt fn r.pc).op ∧ (opAt fn r.pc).op ≤ 34) by omega), if_neg (show ¬ ((opAt fn r.pc).op = 35 ∨ (opAt fn r.pc).op = 36) by omega), if_neg (show ¬ (40 ≤ (opAt fn r.pc).op ∧ (opAt fn r.pc).op ≤ 64) by omega), if_neg (show ¬ (65 ≤ (opAt fn r.pc).op ∧ (opAt fn r.pc).op ≤ 68) by omega)]
    rw [if_neg (show ¬ (numSig (opAt fn r.pc).op).1 = 0 by omega), if_neg (fun e => by have := e.2; omega)]
  rw [hpl] at hst
  obtain ⟨g0, g1, g2, g3⟩ := give_ty hst
  dsimp only at g0 g1 g2 g3
  obtain ⟨rs, e1, e2, e4⟩ := carry_ty hc hf hdd hav (typedV0 g0) hz
  rw [e2] at g1 g2 g3
  dsimp only at g1 g2 g3
  obtain ⟨l0, v, hl, hv, hr, hrl, hvok, hal, hw⟩ := h.top1 e1
  have hpop : popM { r with pc := r.pc + 1 } (numSig (opAt fn r.pc).op).2.1 = some (v, { r with pc := r.pc + 1, ops := l0 }) := popM_snoc hl (by show r.floor ≤ _; rw [hfl, ← hrl]; exact e4) (.inr hv)
  have hlt : l0.length < 10 := by have := g3 (isVal_ne hrv); omega
  have hw1 := ws1 (s := { p.2 with pc := p.2.pc + 1 }) (by exact hw)
  have hnr := hN.ok.r (opAt fn r.pc).op (v.b : Int) 0
  have hvv : VOk ⟨(numSig (opAt fn r.pc).op).2.2, (C.num (opAt fn r.pc).op (v.b : Int) 0).1.toNat⟩ := ⟨hrv, by dsimp only; omega, fun e => by
    have := hN.r32 (opAt fn r.pc).op v.b 0 (by omega) (by omega) hvok.b (by omega) e
    dsimp only
    have h0 : ((0 : Nat) : Int) = 0 := rfl
    rw [h0] at this
    omega⟩
  by_cases he : (C.num (opAt fn r.pc).op (v.b : Int) 0).2 ≠ 0
  · refine h.plain (by omega) (fun n hn => ⟨((C.num (opAt fn r.pc).op (v.b : Int) 0).2.toNat, ⟨{ r with pc := r.pc + 1, ops := l0 } :: rest, n, p.2.S, p.2.H⟩), by unfold deedM; dsimp only; rw [if_neg (show ¬ ((opAt fn r.pc).op = 0) by omega), if_neg (show ¬ ((opAt fn r.pc).op = 1) by omega), if_neg (show ¬ ((opAt fn r.pc).op = 4) by omega), if_neg (show ¬ ((opAt fn r.pc).op = 12) by omega), if_neg (show ¬ ((opAt fn r.pc).op = 13) by omega), if_neg (show ¬ ((opAt fn r.pc).op = 14) by omega), if_neg (show ¬ ((opAt fn r.pc).op = 15) by omega), if_neg (show ¬ ((opAt fn r.pc).op = 16) by omega), if_neg (show ¬ ((opAt fn r.pc).op = 17) by omega), if_neg (show ¬ ((opAt fn r.pc).op = 26) by omega), if_neg (show ¬ ((opAt fn r.pc).op = 27) by omega), if_neg (show ¬ (32 ≤ (opAt fn r.pc).op ∧ (opAt fn r.pc).op ≤ 34) by omega), if_neg (show ¬ ((opAt fn r.pc).op = 35 ∨ (opAt fn r.pc).op = 36) by omega), if_neg (show ¬ (40 ≤ (opAt fn r.pc).op ∧ (opAt fn r.pc).op ≤ 64) by omega), if_neg (show ¬ (65 ≤ (opAt fn r.pc).op ∧ (opAt fn r.pc).op ≤ 68) by omega)]; unfold numM; rw [if_neg (show ¬ (numSig (opAt fn r.pc).op).1 = 0 by omega), if_neg (show ¬ (numSig (opAt fn r.pc).op).1 = 2 by omega), hpop]; dsimp only; rw [if_pos he]; rfl, ?_⟩)
    refine h.traps (e := (C.num (opAt fn r.pc).op (v.b : Int) 0).2.toNat) (s := { p.2 with pc := p.2.pc + 1 }) (by omega) rfl ?_ rfl rfl
    unfold coreX; rw [if_neg (show ¬ ((opAt fn r.pc).op = 0) by omega), if_neg (show ¬ ((opAt fn r.pc).op = 1) by omega), if_neg (show ¬ ((opAt fn r.pc).op = 4) by omega), if_neg (show ¬ ((opAt fn r.pc).op = 224) by omega), if_neg (show ¬ ((opAt fn r.pc).op = 13) by omega), if_neg (show ¬ ((opAt fn r.pc).op = 12) by omega), if_neg (show ¬ ((opAt fn r.pc).op = 14) by omega), if_neg (show ¬ ((opAt fn r.pc).op = 15 ∨ (opAt fn r.pc).op = 11) by omega), if_neg (show ¬ ((opAt fn r.pc).op = 16) by omega), if_neg (show ¬ ((opAt fn r.pc).op = 17) by omega), if_neg (show ¬ ((opAt fn r.pc).op = 33) by omega), if_neg (show ¬ ((opAt fn r.pc).op = 26) by omega), if_neg (show ¬ ((opAt fn r.pc).op = 34) by omega), if_neg (show ¬ ((opAt fn r.pc).op = 32) by omega), if_neg (show ¬ ((opAt fn r.pc).op = 27) by omega), if_neg (show ¬ ((opAt fn r.pc).op = 35) by omega), if_neg (show ¬ ((opAt fn r.pc).op = 36) by omega), if_neg (show ¬ ((opAt fn r.pc).op = 63) by omega), if_neg (show ¬ ((opAt fn r.pc).op = 64) by omega), if_neg (show ¬ (65 ≤ (opAt fn r.pc).op ∧ (opAt fn r.pc).op ≤ 68) by omega), if_neg (show ¬ ((opAt fn r.pc).op = 69) by omega), if_neg (show ¬ ((opAt fn r.pc).op = 106) by omega), if_neg (show ¬ ((opAt fn r.pc).op ≤ 53) by omega), if_neg (show ¬ ((opAt fn r.pc).op ≤ 62) by omega)]
    rw [if_neg (show ¬ twoS (opAt fn r.pc).op = true by rw [htw]; decide), hw1.1, if_pos he]
  have he0 := he
  refine h.plain (by omega) (fun n hn => ⟨(0, ⟨{ r with pc := r.pc + 1, ops := l0 ++ [⟨(numSig (opAt fn r.pc).op).2.2, (C.num (opAt fn r.pc).op (v.b : Int) 0).1.toNat⟩] } :: rest, n, p.2.S, p.2.H⟩), by unfold deedM; dsimp only; rw [if_neg (show ¬ ((opAt fn r.pc).op = 0) by omega), if_neg (show ¬ ((opAt fn r.pc).op = 1) by omega), if_neg (show ¬ ((opAt fn r.pc).op = 4) by omega), if_neg (show ¬ ((opAt fn r.pc).op = 12) by omega), if_neg (show ¬ ((opAt fn r.pc).op = 13) by omega), if_neg (show ¬ ((opAt fn r.pc).op = 14) by omega), if_neg (show ¬ ((opAt fn r.pc).op = 15) by omega), if_neg (show ¬ ((opAt fn r.pc).op = 16) by omega), if_neg (show ¬ ((opAt fn r.pc).op = 17) by omega), if_neg (show ¬ ((opAt fn r.pc).op = 26) by omega), if_neg (show ¬ ((opAt fn r.pc).op = 27) by omega), if_neg (show ¬ (32 ≤ (opAt fn r.pc).op ∧ (opAt fn r.pc).op ≤ 34) by omega), if_neg (show ¬ ((opAt fn r.pc).op = 35 ∨ (opAt fn r.pc).op = 36) by omega), if_neg (show ¬ (40 ≤ (opAt fn r.pc).op ∧ (opAt fn r.pc).op ≤ 64) by omega), if_neg (show ¬ (65 ≤ (opAt fn r.pc).op ∧ (opAt fn r.pc).op ≤ 68) by omega)]; unfold numM; rw [if_neg (show ¬ (numSig (opAt fn r.pc).op).1 = 0 by omega), if_neg (show ¬ (numSig (opAt fn r.pc).op).1 = 2 by omega), hpop]; dsimp only; rw [if_neg he0, pushM_ok (by exact hlt)]; rfl, ?_⟩)
  refine h.goes (loc' := r.loc) (ops' := l0 ++ [⟨(numSig (opAt fn r.pc).op).2.2, (C.num (opAt fn r.pc).op (v.b : Int) 0).1.toNat⟩]) (by omega) rfl ?_ g1 (by rw [ty_rev_app, g2, if_neg (isVal_ne hrv), hr]; rfl) rfl (ok_push hal hvv) h.gl2
  unfold coreX; rw [if_neg (show ¬ ((opAt fn r.pc).op = 0) by omega), if_neg (show ¬ ((opAt fn r.pc).op = 1) by omega), if_neg (show ¬ ((opAt fn r.pc).op = 4) by omega), if_neg (show ¬ ((opAt fn r.pc).op = 224) by omega), if_neg (show ¬ ((opAt fn r.pc).op = 13) by omega), if_neg (show ¬ ((opAt fn r.pc).op = 12) by omega), if_neg (show ¬ ((opAt fn r.pc).op = 14) by omega), if_neg (show ¬ ((opAt fn r.pc).op = 15 ∨ (opAt fn r.pc).op = 11) by omega), if_neg (show ¬ ((opAt fn r.pc).op = 16) by omega), if_neg (show ¬ ((opAt fn r.pc).op = 17) by omega), if_neg (show ¬ ((opAt fn r.pc).op = 33) by omega), if_neg (show ¬ ((opAt fn r.pc).op = 26) by omega), if_neg (show ¬ ((opAt fn r.pc).op = 34) by omega), if_neg (show ¬ ((opAt fn r.pc).op = 32) by omega), if_neg (show ¬ ((opAt fn r.pc).op = 27) by omega), if_neg (show ¬ ((opAt fn r.pc).op = 35) by omega), if_neg (show ¬ ((opAt fn r.pc).op = 36) by omega), if_neg (show ¬ ((opAt fn r.pc).op = 63) by omega), if_neg (show ¬ ((opAt fn r.pc).op = 64) by omega), if_neg (show ¬ (65 ≤ (opAt fn r.pc).op ∧ (opAt fn r.pc).op ≤ 68) by omega), if_neg (show ¬ ((opAt fn r.pc).op = 69) by omega), if_neg (show ¬ ((opAt fn r.pc).op = 106) by omega), if_neg (show ¬ ((opAt fn r.pc).op ≤ 53) by omega), if_neg (show ¬ ((opAt fn r.pc).op ≤ 62) by omega)]
  rw [if_neg (show ¬ twoS (opAt fn r.pc).op = true by rw [htw]; decide), hw1.1, if_neg he0, hw1.2.2, bits_snoc]
set_option maxHeartbeats 1000000 in
theorem RelX.eqz (h : RelX C t0 q p r rest k fn t cells below) (ho : (opAt fn r.pc).op = 69) (htw : twoS (opAt fn r.pc).op = false) (hN : NumX C.num) : Sim1 C t0 q p := by
  obtain ⟨f, rr, hc, hf, hdd, hfl, hz, hops⟩ := h.vst
  have hst := h.stepv (by omega)
  have hns := numSig_val (opAt fn r.pc).op (by omega) (by omega)
  have hna := numSig_arg (opAt fn r.pc).op (by omega) (by omega)
  have hn2 := numSig_two (opAt fn r.pc).op (by omega) (by omega)
  rw [if_neg (by rw [htw]; decide)] at hn2
  have hav : isVal (numSig (opAt fn r.pc).op).2.1 := numSig_argv (opAt fn r.pc).op (by omega) (by omega)
  have hrv : isVal (numSig (opAt fn r.pc).op).2.2 := numSig_resv (opAt fn r.pc).op (by omega) (by omega)
  have hpl : plainV C.M t.p fn.locals (vsAt C.M fn t r.pc) (opAt fn r.pc) = ((carryV (vsAt C.M fn t r.pc) (numSig (opAt fn r.pc).op).2.1).1, (numSig (opAt fn r.pc).op).2.2, typedV (carryV (vsAt C.M fn t r.pc) (numSig (opAt fn r.pc).op).2.1).2) := by
    unfold plainV; rw [if_neg (show ¬ ((opAt fn r.pc).op = 16 ∨ (opAt fn r.pc).op = 17) by omega), if_neg (show ¬ ((opAt fn r.pc).op = 26) by omega), if_neg (show ¬ ((opAt fn r.pc).op = 27) by omega), if_neg (show ¬ (32 ≤ (opAt fn r.pc).op ∧ (opAt fn r.pc).op ≤ 34) by omega), if_neg (show ¬ ((opAt fn r.pc).op = 35 ∨ (opAt fn r.pc).op = 36) by omega), if_neg (show ¬ (40 ≤ (opAt fn r.pc).op ∧ (opAt fn r.pc).op ≤ 64) by omega), if_neg (show ¬ (65 ≤ (opAt fn r.pc).op ∧ (opAt fn r.pc).op ≤ 68) by omega)]
    rw [if_neg (show ¬ (numSig (opAt fn r.pc).op).1 = 0 by omega), if_neg (fun e => by have := e.2; omega)]
  rw [hpl] at hst
  obtain ⟨g0, g1, g2, g3⟩ := give_ty hst
  dsimp only at g0 g1 g2 g3
  obtain ⟨rs, e1, e2, e4⟩ := carry_ty hc hf hdd hav (typedV0 g0) hz
  rw [e2] at g1 g2 g3
  dsimp only at g1 g2 g3
  obtain ⟨l0, v, hl, hv, hr, hrl, hvok, hal, hw⟩ := h.top1 e1
  have hpop : popM { r with pc := r.pc + 1 } (numSig (opAt fn r.pc).op).2.1 = some (v, { r with pc := r.pc + 1, ops := l0 }) := popM_snoc hl (by show r.floor ≤ _; rw [hfl, ← hrl]; exact e4) (.inr hv)
  have hlt : l0.length < 10 := by have := g3 (isVal_ne hrv); omega
  have hw1 := ws1 (s := { p.2 with pc := p.2.pc + 1 }) (by exact hw)
  have hnr := hN.ok.r (opAt fn r.pc).op (v.b : Int) 0
  have hvv : VOk ⟨(numSig (opAt fn r.pc).op).2.2, (C.num (opAt fn r.pc).op (v.b : Int) 0).1.toNat⟩ := ⟨hrv, by dsimp only; omega, fun e => by
    have := hN.r32 (opAt fn r.pc).op v.b 0 (by omega) (by omega) hvok.b (by omega) e
    dsimp only
    have h0 : ((0 : Nat) : Int) = 0 := rfl
    rw [h0] at this
    omega⟩
  have ha : v.b < 4294967296 := hvok.i32 (by rw [hv, ho]; rfl)
  have hn69 : C.num (opAt fn r.pc).op (v.b : Int) 0 = ((if v.b = 0 then 1 else 0 : Int), 0) := by rw [ho]; exact hN.n69 v.b ha
  have he0 : ¬ (C.num (opAt fn r.pc).op (v.b : Int) 0).2 ≠ 0 := by rw [hn69]; simp
  refine h.plain (by omega) (fun n hn => ⟨(0, ⟨{ r with pc := r.pc + 1, ops := l0 ++ [⟨(numSig (opAt fn r.pc).op).2.2, (C.num (opAt fn r.pc).op (v.b : Int) 0).1.toNat⟩] } :: rest, n, p.2.S, p.2.H⟩), by unfold deedM; dsimp only; rw [if_neg (show ¬ ((opAt fn r.pc).op = 0) by omega), if_neg (show ¬ ((opAt fn r.pc).op = 1) by omega), if_neg (show ¬ ((opAt fn r.pc).op = 4) by omega), if_neg (show ¬ ((opAt fn r.pc).op = 12) by omega), if_neg (show ¬ ((opAt fn r.pc).op = 13) by omega), if_neg (show ¬ ((opAt fn r.pc).op = 14) by omega), if_neg (show ¬ ((opAt fn r.pc).op = 15) by omega), if_neg (show ¬ ((opAt fn r.pc).op = 16) by omega), if_neg (show ¬ ((opAt fn r.pc).op = 17) by omega), if_neg (show ¬ ((opAt fn r.pc).op = 26) by omega), if_neg (show ¬ ((opAt fn r.pc).op = 27) by omega), if_neg (show ¬ (32 ≤ (opAt fn r.pc).op ∧ (opAt fn r.pc).op ≤ 34) by omega), if_neg (show ¬ ((opAt fn r.pc).op = 35 ∨ (opAt fn r.pc).op = 36) by omega), if_neg (show ¬ (40 ≤ (opAt fn r.pc).op ∧ (opAt fn r.pc).op ≤ 64) by omega), if_neg (show ¬ (65 ≤ (opAt fn r.pc).op ∧ (opAt fn r.pc).op ≤ 68) by omega)]; unfold numM; rw [if_neg (show ¬ (numSig (opAt fn r.pc).op).1 = 0 by omega), if_neg (show ¬ (numSig (opAt fn r.pc).op).1 = 2 by omega), hpop]; dsimp only; rw [if_neg he0, pushM_ok (by exact hlt)]; rfl, ?_⟩)
  refine h.goes (loc' := r.loc) (ops' := l0 ++ [⟨(numSig (opAt fn r.pc).op).2.2, (C.num (opAt fn r.pc).op (v.b : Int) 0).1.toNat⟩]) (by omega) rfl ?_ g1 (by rw [ty_rev_app, g2, if_neg (isVal_ne hrv), hr]; rfl) rfl (ok_push hal hvv) h.gl2
  unfold coreX; rw [if_neg (show ¬ ((opAt fn r.pc).op = 0) by omega), if_neg (show ¬ ((opAt fn r.pc).op = 1) by omega), if_neg (show ¬ ((opAt fn r.pc).op = 4) by omega), if_neg (show ¬ ((opAt fn r.pc).op = 224) by omega), if_neg (show ¬ ((opAt fn r.pc).op = 13) by omega), if_neg (show ¬ ((opAt fn r.pc).op = 12) by omega), if_neg (show ¬ ((opAt fn r.pc).op = 14) by omega), if_neg (show ¬ ((opAt fn r.pc).op = 15 ∨ (opAt fn r.pc).op = 11) by omega), if_neg (show ¬ ((opAt fn r.pc).op = 16) by omega), if_neg (show ¬ ((opAt fn r.pc).op = 17) by omega), if_neg (show ¬ ((opAt fn r.pc).op = 33) by omega), if_neg (show ¬ ((opAt fn r.pc).op = 26) by omega), if_neg (show ¬ ((opAt fn r.pc).op = 34) by omega), if_neg (show ¬ ((opAt fn r.pc).op = 32) by omega), if_neg (show ¬ ((opAt fn r.pc).op = 27) by omega), if_neg (show ¬ ((opAt fn r.pc).op = 35) by omega), if_neg (show ¬ ((opAt fn r.pc).op = 36) by omega), if_neg (show ¬ ((opAt fn r.pc).op = 63) by omega), if_neg (show ¬ ((opAt fn r.pc).op = 64) by omega), if_neg (show ¬ (65 ≤ (opAt fn r.pc).op ∧ (opAt fn r.pc).op ≤ 68) by omega), if_pos (show (opAt fn r.pc).op = 69 by omega)]
  rw [hw1.1, hw1.2.2, bits_snoc, hn69]
  dsimp only
  congr 4
  split <;> rfl
set_option maxHeartbeats 1000000 in
theorem RelX.num2 (h : RelX C t0 q p r rest k fn t cells below) (ho : 69 ≤ (opAt fn r.pc).op ∧ (opAt fn r.pc).op ≤ 191) (h69 : (opAt fn r.pc).op ≠ 69) (h106 : (opAt fn r.pc).op ≠ 106) (htw : twoS (opAt fn r.pc).op = true) (hN : NumX C.num) : Sim1 C t0 q p := by
  obtain ⟨f, rr, hc, hf, hdd, hfl, hz, hops⟩ := h.vst
  have hst := h.stepv (by omega)
  have hns := numSig_val (opAt fn r.pc).op (by omega) (by omega)
  have hna := numSig_arg (opAt fn r.pc).op (by omega) (by omega)
  have hn2 := numSig_two (opAt fn r.pc).op (by omega) (by omega)
  rw [if_pos htw] at hn2
  have hav : isVal (numSig (opAt fn r.pc).op).2.1 := numSig_argv (opAt fn r.pc).op (by omega) (by omega)
  have hrv : isVal (numSig (opAt fn r.pc).op).2.2 := numSig_resv (opAt fn r.pc).op (by omega) (by omega)
  by_cases c1 : ¬ ((carryV (vsAt C.M fn t r.pc) (numSig (opAt fn r.pc).op).2.1).2 = true)
  · have hpl : plainV C.M t.p fn.locals (vsAt C.M fn t r.pc) (opAt fn r.pc) = ((carryV (vsAt C.M fn t r.pc) (numSig (opAt fn r.pc).op).2.1).1, (numSig (opAt fn r.pc).op).2.2, typedV (carryV (vsAt C.M fn t r.pc) (numSig (opAt fn r.pc).op).2.1).2) := by
      unfold plainV; rw [if_neg (show ¬ ((opAt fn r.pc).op = 16 ∨ (opAt fn r.pc).op = 17) by omega), if_neg (show ¬ ((opAt fn r.pc).op = 26) by omega), if_neg (show ¬ ((opAt fn r.pc).op = 27) by omega), if_neg (show ¬ (32 ≤ (opAt fn r.pc).op ∧ (opAt fn r.pc).op ≤ 34) by omega), if_neg (show ¬ ((opAt fn r.pc).op = 35 ∨ (opAt fn r.pc).op = 36) by omega), if_neg (show ¬ (40 ≤ (opAt fn r.pc).op ∧ (opAt fn r.pc).op ≤ 64) by omega), if_neg (show ¬ (65 ≤ (opAt fn r.pc).op ∧ (opAt fn r.pc).op ≤ 68) by omega)]
      rw [if_neg (show ¬ (numSig (opAt fn r.pc).op).1 = 0 by omega), if_neg (fun e => c1 e.1)]
    rw [hpl] at hst
    exact absurd (typedV0 (give_ty hst).1) c1
  replace c1 := Classical.not_not.1 c1
  have hpl : plainV C.M t.p fn.locals (vsAt C.M fn t r.pc) (opAt fn r.pc) = ((carryV (carryV (vsAt C.M fn t r.pc) (numSig (opAt fn r.pc).op).2.1).1 (numSig (opAt fn r.pc).op).2.1).1, (numSig (opAt fn r.pc).op).2.2, typedV (carryV (carryV (vsAt C.M fn t r.pc) (numSig (opAt fn r.pc).op).2.1).1 (numSig (opAt fn r.pc).op).2.1).2) := by
    unfold plainV; rw [if_neg (show ¬ ((opAt fn r.pc).op = 16 ∨ (opAt fn r.pc).op = 17) by omega), if_neg (show ¬ ((opAt fn r.pc).op = 26) by omega), if_neg (show ¬ ((opAt fn r.pc).op = 27) by omega), if_neg (show ¬ (32 ≤ (opAt fn r.pc).op ∧ (opAt fn r.pc).op ≤ 34) by omega), if_neg (show ¬ ((opAt fn r.pc).op = 35 ∨ (opAt fn r.pc).op = 36) by omega), if_neg (show ¬ (40 ≤ (opAt fn r.pc).op ∧ (opAt fn r.pc).op ≤ 64) by omega), if_neg (show ¬ (65 ≤ (opAt fn r.pc).op ∧ (opAt fn r.pc).op ≤ 68) by omega)]
    rw [if_neg (show ¬ (numSig (opAt fn r.pc).op).1 = 0 by omega), if_pos ⟨c1, hn2⟩]
  rw [hpl] at hst
  obtain ⟨rs0, e1, e2, e4⟩ := carry_ty hc hf hdd hav c1 hz
  rw [e2] at hst
  obtain ⟨g0, g1, g2, g3⟩ := give_ty hst
  dsimp only at g0 g1 g2 g3
  have hz1 : ∀ x, x ∈ rs0 → x ≠ 0 := fun x hx => hz x (by rw [e1]; exact List.mem_cons_of_mem _ hx)
  obtain ⟨rs, d1, d2, d4⟩ := carry_ty (v := ⟨rs0, (vsAt C.M fn t r.pc).ctl⟩) hc e4 hdd hav (typedV0 g0) hz1
  dsimp only at d1
  rw [d2] at g1 g2 g3
  dsimp only at g1 g2 g3
  rw [d1] at e1
  obtain ⟨l0, u, v, hl, hv, hu, hr, hrl, hvok, huok, hal, hw⟩ := h.top2 e1
  obtain ⟨hp1, hp2⟩ := popM_two (r := { r with pc := r.pc + 1 }) (w1 := (numSig (opAt fn r.pc).op).2.1) (w2 := (numSig (opAt fn r.pc).op).2.1) hl (by show r.floor ≤ _; rw [hfl, ← hrl]; exact d4) (.inr hv) (.inr hu)
  have hlt : l0.length < 10 := by have := g3 (isVal_ne hrv); omega
  have hw2 := ws2 (s := { p.2 with pc := p.2.pc + 1 }) (by exact hw)
  have hnr := hN.ok.r (opAt fn r.pc).op (u.b : Int) (v.b : Int)
  have hvv : VOk ⟨(numSig (opAt fn r.pc).op).2.2, (C.num (opAt fn r.pc).op (u.b : Int) (v.b : Int)).1.toNat⟩ := ⟨hrv, by dsimp only; omega, fun e => by
    have := hN.r32 (opAt fn r.pc).op u.b v.b (by omega) (by omega) huok.b hvok.b e
    dsimp only
    omega⟩
  by_cases he : (C.num (opAt fn r.pc).op (u.b : Int) (v.b : Int)).2 ≠ 0
  · refine h.plain (by omega) (fun n hn => ⟨((C.num (opAt fn r.pc).op (u.b : Int) (v.b : Int)).2.toNat, ⟨{ r with pc := r.pc + 1, ops := l0 } :: rest, n, p.2.S, p.2.H⟩), by unfold deedM; dsimp only; rw [if_neg (show ¬ ((opAt fn r.pc).op = 0) by omega), if_neg (show ¬ ((opAt fn r.pc).op = 1) by omega), if_neg (show ¬ ((opAt fn r.pc).op = 4) by omega), if_neg (show ¬ ((opAt fn r.pc).op = 12) by omega), if_neg (show ¬ ((opAt fn r.pc).op = 13) by omega), if_neg (show ¬ ((opAt fn r.pc).op = 14) by omega), if_neg (show ¬ ((opAt fn r.pc).op = 15) by omega), if_neg (show ¬ ((opAt fn r.pc).op = 16) by omega), if_neg (show ¬ ((opAt fn r.pc).op = 17) by omega), if_neg (show ¬ ((opAt fn r.pc).op = 26) by omega), if_neg (show ¬ ((opAt fn r.pc).op = 27) by omega), if_neg (show ¬ (32 ≤ (opAt fn r.pc).op ∧ (opAt fn r.pc).op ≤ 34) by omega), if_neg (show ¬ ((opAt fn r.pc).op = 35 ∨ (opAt fn r.pc).op = 36) by omega), if_neg (show ¬ (40 ≤ (opAt fn r.pc).op ∧ (opAt fn r.pc).op ≤ 64) by omega), if_neg (show ¬ (65 ≤ (opAt fn r.pc).op ∧ (opAt fn r.pc).op ≤ 68) by omega)]; unfold numM; rw [if_neg (show ¬ (numSig (opAt fn r.pc).op).1 = 0 by omega), if_pos hn2, hp1]; dsimp only; rw [hp2]; dsimp only; rw [if_pos he]; rfl, ?_⟩)
    refine h.traps (e := (C.num (opAt fn r.pc).op (u.b : Int) (v.b : Int)).2.toNat) (s := { p.2 with pc := p.2.pc + 1 }) (by omega) rfl ?_ rfl rfl
    unfold coreX; rw [if_neg (show ¬ ((opAt fn r.pc).op = 0) by omega), if_neg (show ¬ ((opAt fn r.pc).op = 1) by omega), if_neg (show ¬ ((opAt fn r.pc).op = 4) by omega), if_neg (show ¬ ((opAt fn r.pc).op = 224) by omega), if_neg (show ¬ ((opAt fn r.pc).op = 13) by omega), if_neg (show ¬ ((opAt fn r.pc).op = 12) by omega), if_neg (show ¬ ((opAt fn r.pc).op = 14) by omega), if_neg (show ¬ ((opAt fn r.pc).op = 15 ∨ (opAt fn r.pc).op = 11) by omega), if_neg (show ¬ ((opAt fn r.pc).op = 16) by omega), if_neg (show ¬ ((opAt fn r.pc).op = 17) by omega), if_neg (show ¬ ((opAt fn r.pc).op = 33) by omega), if_neg (show ¬ ((opAt fn r.pc).op = 26) by omega), if_neg (show ¬ ((opAt fn r.pc).op = 34) by omega), if_neg (show ¬ ((opAt fn r.pc).op = 32) by omega), if_neg (show ¬ ((opAt fn r.pc).op = 27) by omega), if_neg (show ¬ ((opAt fn r.pc).op = 35) by omega), if_neg (show ¬ ((opAt fn r.pc).op = 36) by omega), if_neg (show ¬ ((opAt fn r.pc).op = 63) by omega), if_neg (show ¬ ((opAt fn r.pc).op = 64) by omega), if_neg (show ¬ (65 ≤ (opAt fn r.pc).op ∧ (opAt fn r.pc).op ≤ 68) by omega), if_neg (show ¬ ((opAt fn r.pc).op = 69) by omega), if_neg (show ¬ ((opAt fn r.pc).op = 106) by omega), if_neg (show ¬ ((opAt fn r.pc).op ≤ 53) by omega), if_neg (show ¬ ((opAt fn r.pc).op ≤ 62) by omega)]
    rw [if_pos htw, hw2.1, hw2.2.2.2.1, if_pos he]
  have he0 := he
  refine h.plain (by omega) (fun n hn => ⟨(0, ⟨{ r with pc := r.pc + 1, ops := l0 ++ [⟨(numSig (opAt fn r.pc).op).2.2, (C.num (opAt fn r.pc).op (u.b : Int) (v.b : Int)).1.toNat⟩] } :: rest, n, p.2.S, p.2.H⟩), by unfold deedM; dsimp only; rw [if_neg (show ¬ ((opAt fn r.pc).op = 0) by omega), if_neg (show ¬ ((opAt fn r.pc).op = 1) by omega), if_neg (show ¬ ((opAt fn r.pc).op = 4) by omega), if_neg (show ¬ ((opAt fn r.pc).op = 12) by omega), if_neg (show ¬ ((opAt fn r.pc).op = 13) by omega), if_neg (show ¬ ((opAt fn r.pc).op = 14) by omega), if_neg (show ¬ ((opAt fn r.pc).op = 15) by omega), if_neg (show ¬ ((opAt fn r.pc).op = 16) by omega), if_neg (show ¬ ((opAt fn r.pc).op = 17) by omega), if_neg (show ¬ ((opAt fn r.pc).op = 26) by omega), if_neg (show ¬ ((opAt fn r.pc).op = 27) by omega), if_neg (show ¬ (32 ≤ (opAt fn r.pc).op ∧ (opAt fn r.pc).op ≤ 34) by omega), if_neg (show ¬ ((opAt fn r.pc).op = 35 ∨ (opAt fn r.pc).op = 36) by omega), if_neg (show ¬ (40 ≤ (opAt fn r.pc).op ∧ (opAt fn r.pc).op ≤ 64) by omega), if_neg (show ¬ (65 ≤ (opAt fn r.pc).op ∧ (opAt fn r.pc).op ≤ 68) by omega)]; unfold numM; rw [if_neg (show ¬ (numSig (opAt fn r.pc).op).1 = 0 by omega), if_pos hn2, hp1]; dsimp only; rw [hp2]; dsimp only; rw [if_neg he0, pushM_ok (by exact hlt)]; rfl, ?_⟩)
  refine h.goes (loc' := r.loc) (ops' := l0 ++ [⟨(numSig (opAt fn r.pc).op).2.2, (C.num (opAt fn r.pc).op (u.b : Int) (v.b : Int)).1.toNat⟩]) (by omega) rfl ?_ g1 (by rw [ty_rev_app, g2, if_neg (isVal_ne hrv), hr]; rfl) rfl (ok_push hal hvv) h.gl2
  unfold coreX; rw [if_neg (show ¬ ((opAt fn r.pc).op = 0) by omega), if_neg (show ¬ ((opAt fn r.pc).op = 1) by omega), if_neg (show ¬ ((opAt fn r.pc).op = 4) by omega), if_neg (show ¬ ((opAt fn r.pc).op = 224) by omega), if_neg (show ¬ ((opAt fn r.pc).op = 13) by omega), if_neg (show ¬ ((opAt fn r.pc).op = 12) by omega), if_neg (show ¬ ((opAt fn r.pc).op = 14) by omega), if_neg (show ¬ ((opAt fn r.pc).op = 15 ∨ (opAt fn r.pc).op = 11) by omega), if_neg (show ¬ ((opAt fn r.pc).op = 16) by omega), if_neg (show ¬ ((opAt fn r.pc).op = 17) by omega), if_neg (show ¬ ((opAt fn r.pc).op = 33) by omega), if_neg (show ¬ ((opAt fn r.pc).op = 26) by omega), if_neg (show ¬ ((opAt fn r.pc).op = 34) by omega), if_neg (show ¬ ((opAt fn r.pc).op = 32) by omega), if_neg (show ¬ ((opAt fn r.pc).op = 27) by omega), if_neg (show ¬ ((opAt fn r.pc).op = 35) by omega), if_neg (show ¬ ((opAt fn r.pc).op = 36) by omega), if_neg (show ¬ ((opAt fn r.pc).op = 63) by omega), if_neg (show ¬ ((opAt fn r.pc).op = 64) by omega), if_neg (show ¬ (65 ≤ (opAt fn r.pc).op ∧ (opAt fn r.pc).op ≤ 68) by omega), if_neg (show ¬ ((opAt fn r.pc).op = 69) by omega), if_neg (show ¬ ((opAt fn r.pc).op = 106) by omega), if_neg (show ¬ ((opAt fn r.pc).op ≤ 53) by omega), if_neg (show ¬ ((opAt fn r.pc).op ≤ 62) by omega)]
  rw [if_pos htw, hw2.1, hw2.2.2.2.1, if_neg he0, hw2.2.2.2.2, bits_snoc]
set_option maxHeartbeats 1000000 in
theorem RelX.add (h : RelX C t0 q p r rest k fn t cells below) (ho : (opAt fn r.pc).op = 106) (htw : twoS (opAt fn r.pc).op = true) (hN : NumX C.num) : Sim1 C t0 q p := by
  obtain ⟨f, rr, hc, hf, hdd, hfl, hz, hops⟩ := h.vst
  have hst := h.stepv (by omega)
  have hns := numSig_val (opAt fn r.pc).op (by omega) (by omega)
  have hna := numSig_arg (opAt fn r.pc).op (by omega) (by omega)
  have hn2 := numSig_two (opAt fn r.pc).op (by omega) (by omega)
  rw [if_pos htw] at hn2
  have hav : isVal (numSig (opAt fn r.pc).op).2.1 := numSig_argv (opAt fn r.pc).op (by omega) (by omega)
  have hrv : isVal (numSig (opAt fn r.pc).op).2.2 := numSig_resv (opAt fn r.pc).op (by omega) (by omega)
  by_cases c1 : ¬ ((carryV (vsAt C.M fn t r.pc) (numSig (opAt fn r.pc).op).2.1).2 = true)
  · have hpl : plainV C.M t.p fn.locals (vsAt C.M fn t r.pc) (opAt fn r.pc) = ((carryV (vsAt C.M fn t r.pc) (numSig (opAt fn r.pc).op).2.1).1, (numSig (opAt fn r.pc).op).2.2, typedV (carryV (vsAt C.M fn t r.pc) (numSig (opAt fn r.pc).op).2.1).2) := by
      unfold plainV; rw [if_neg (show ¬ ((opAt fn r.pc).op = 16 ∨ (opAt fn r.pc).op = 17) by omega), if_neg (show ¬ ((opAt fn r.pc).op = 26) by omega), if_neg (show ¬ ((opAt fn r.pc).op = 27) by omega), if_neg (show ¬ (32 ≤ (opAt fn r.pc).op ∧ (opAt fn r.pc).op ≤ 34) by omega), if_neg (show ¬ ((opAt fn r.pc).op = 35 ∨ (opAt fn r.pc).op = 36) by omega), if_neg (show ¬ (40 ≤ (opAt fn r.pc).op ∧ (opAt fn r.pc).op ≤ 64) by omega), if_neg (show ¬ (65 ≤ (opAt fn r.pc).op ∧ (opAt fn r.pc).op ≤ 68) by omega)]
      rw [if_neg (show ¬ (numSig (opAt fn r.pc).op).1 = 0 by omega), if_neg (fun e => c1 e.1)]
    rw [hpl] at hst
    exact absurd (typedV0 (give_ty hst).1) c1
  replace c1 := Classical.not_not.1 c1
  have hpl : plainV C.M t.p fn.locals (vsAt C.M fn t r.pc) (opAt fn r.pc) = ((carryV (carryV (vsAt C.M fn t r.pc) (numSig (opAt fn r.pc).op).2.1).1 (numSig (opAt fn r.pc).op).2.1).1, (numSig (opAt fn r.pc).op).2.2, typedV (carryV (carryV (vsAt C.M fn t r.pc) (numSig (opAt fn r.pc).op).2.1).1 (numSig (opAt fn r.pc).op).2.1).2) := by
    unfold plainV; rw [if_neg (show ¬ ((opAt fn r.pc).op = 16 ∨ (opAt fn r.pc).op = 17) by omega), if_neg (show ¬ ((opAt fn r.pc).op = 26) by omega), if_neg (show ¬ ((opAt fn r.pc).op = 27) by omega), if_neg (show ¬ (32 ≤ (opAt fn r.pc).op ∧ (opAt fn r.pc).op ≤ 34) by omega), if_neg (show ¬ ((opAt fn r.pc).op = 35 ∨ (opAt fn r.pc).op = 36) by omega), if_neg (show ¬ (40 ≤ (opAt fn r.pc).op ∧ (opAt fn r.pc).op ≤ 64) by omega), if_neg (show ¬ (65 ≤ (opAt fn r.pc).op ∧ (opAt fn r.pc).op ≤ 68) by omega)]
    rw [if_neg (show ¬ (numSig (opAt fn r.pc).op).1 = 0 by omega), if_pos ⟨c1, hn2⟩]
  rw [hpl] at hst
  obtain ⟨rs0, e1, e2, e4⟩ := carry_ty hc hf hdd hav c1 hz
  rw [e2] at hst
  obtain ⟨g0, g1, g2, g3⟩ := give_ty hst
  dsimp only at g0 g1 g2 g3
  have hz1 : ∀ x, x ∈ rs0 → x ≠ 0 := fun x hx => hz x (by rw [e1]; exact List.mem_cons_of_mem _ hx)
  obtain ⟨rs, d1, d2, d4⟩ := carry_ty (v := ⟨rs0, (vsAt C.M fn t r.pc).ctl⟩) hc e4 hdd hav (typedV0 g0) hz1
  dsimp only at d1
  rw [d2] at g1 g2 g3
  dsimp only at g1 g2 g3
  rw [d1] at e1
  obtain ⟨l0, u, v, hl, hv, hu, hr, hrl, hvok, huok, hal, hw⟩ := h.top2 e1
  obtain ⟨hp1, hp2⟩ := popM_two (r := { r with pc := r.pc + 1 }) (w1 := (numSig (opAt fn r.pc).op).2.1) (w2 := (numSig (opAt fn r.pc).op).2.1) hl (by show r.floor ≤ _; rw [hfl, ← hrl]; exact d4) (.inr hv) (.inr hu)
  have hlt : l0.length < 10 := by have := g3 (isVal_ne hrv); omega
  have hw2 := ws2 (s := { p.2 with pc := p.2.pc + 1 }) (by exact hw)
  have hnr := hN.ok.r (opAt fn r.pc).op (u.b : Int) (v.b : Int)
  have hvv : VOk ⟨(numSig (opAt fn r.pc).op).2.2, (C.num (opAt fn r.pc).op (u.b : Int) (v.b : Int)).1.toNat⟩ := ⟨hrv, by dsimp only; omega, fun e => by
    have := hN.r32 (opAt fn r.pc).op u.b v.b (by omega) (by omega) huok.b hvok.b e
    dsimp only
    omega⟩
  have ha : u.b < 4294967296 := huok.i32 (by rw [hu, ho]; rfl)
  have hb : v.b < 4294967296 := hvok.i32 (by rw [hv, ho]; rfl)
  have hn106 : (C.num (opAt fn r.pc).op (u.b : Int) (v.b : Int)) = ((((u.b + v.b) % 4294967296 : Nat) : Int), 0) := by rw [ho]; exact hN.n106 u.b v.b ha hb
  have he0 : ¬ (C.num (opAt fn r.pc).op (u.b : Int) (v.b : Int)).2 ≠ 0 := by rw [hn106]; simp
  refine h.plain (by omega) (fun n hn => ⟨(0, ⟨{ r with pc := r.pc + 1, ops := l0 ++ [⟨(numSig (opAt fn r.pc).op).2.2, (C.num (opAt fn r.pc).op (u.b : Int) (v.b : Int)).1.toNat⟩] } :: rest, n, p.2.S, p.2.H⟩), by unfold deedM; dsimp only; rw [if_neg (show ¬ ((opAt fn r.pc).op = 0) by omega), if_neg (show ¬ ((opAt fn r.pc).op = 1) by omega), if_neg (show ¬ ((opAt fn r.pc).op = 4) by omega), if_neg (show ¬ ((opAt fn r.pc).op = 12) by omega), if_neg (show ¬ ((opAt fn r.pc).op = 13) by omega), if_neg (show ¬ ((opAt fn r.pc).op = 14) by omega), if_neg (show ¬ ((opAt fn r.pc).op = 15) by omega), if_neg (show ¬ ((opAt fn r.pc).op = 16) by omega), if_neg (show ¬ ((opAt fn r.pc).op = 17) by omega), if_neg (show ¬ ((opAt fn r.pc).op = 26) by omega), if_neg (show ¬ ((opAt fn r.pc).op = 27) by omega), if_neg (show ¬ (32 ≤ (opAt fn r.pc).op ∧ (opAt fn r.pc).op ≤ 34) by omega), if_neg (show ¬ ((opAt fn r.pc).op = 35 ∨ (opAt fn r.pc).op = 36) by omega), if_neg (show ¬ (40 ≤ (opAt fn r.pc).op ∧ (opAt fn r.pc).op ≤ 64) by omega), if_neg (show ¬ (65 ≤ (opAt fn r.pc).op ∧ (opAt fn r.pc).op ≤ 68) by omega)]; unfold numM; rw [if_neg (show ¬ (numSig (opAt fn r.pc).op).1 = 0 by omega), if_pos hn2, hp1]; dsimp only; rw [hp2]; dsimp only; rw [if_neg he0, pushM_ok (by exact hlt)]; rfl, ?_⟩)
  refine h.goes (loc' := r.loc) (ops' := l0 ++ [⟨(numSig (opAt fn r.pc).op).2.2, (C.num (opAt fn r.pc).op (u.b : Int) (v.b : Int)).1.toNat⟩]) (by omega) rfl ?_ g1 (by rw [ty_rev_app, g2, if_neg (isVal_ne hrv), hr]; rfl) rfl (ok_push hal hvv) h.gl2
  unfold coreX; rw [if_neg (show ¬ ((opAt fn r.pc).op = 0) by omega), if_neg (show ¬ ((opAt fn r.pc).op = 1) by omega), if_neg (show ¬ ((opAt fn r.pc).op = 4) by omega), if_neg (show ¬ ((opAt fn r.pc).op = 224) by omega), if_neg (show ¬ ((opAt fn r.pc).op = 13) by omega), if_neg (show ¬ ((opAt fn r.pc).op = 12) by omega), if_neg (show ¬ ((opAt fn r.pc).op = 14) by omega), if_neg (show ¬ ((opAt fn r.pc).op = 15 ∨ (opAt fn r.pc).op = 11) by omega), if_neg (show ¬ ((opAt fn r.pc).op = 16) by omega), if_neg (show ¬ ((opAt fn r.pc).op = 17) by omega), if_neg (show ¬ ((opAt fn r.pc).op = 33) by omega), if_neg (show ¬ ((opAt fn r.pc).op = 26) by omega), if_neg (show ¬ ((opAt fn r.pc).op = 34) by omega), if_neg (show ¬ ((opAt fn r.pc).op = 32) by omega), if_neg (show ¬ ((opAt fn r.pc).op = 27) by omega), if_neg (show ¬ ((opAt fn r.pc).op = 35) by omega), if_neg (show ¬ ((opAt fn r.pc).op = 36) by omega), if_neg (show ¬ ((opAt fn r.pc).op = 63) by omega), if_neg (show ¬ ((opAt fn r.pc).op = 64) by omega), if_neg (show ¬ (65 ≤ (opAt fn r.pc).op ∧ (opAt fn r.pc).op ≤ 68) by omega), if_neg (show ¬ ((opAt fn r.pc).op = 69) by omega), if_pos (show (opAt fn r.pc).op = 106 by omega)]
  rw [hw2.1, hw2.2.2.2.1, hw2.2.2.2.2, bits_snoc, hn106]
  rfl
end
end Go.Proofs.Qxb6500275aGreatDoor
